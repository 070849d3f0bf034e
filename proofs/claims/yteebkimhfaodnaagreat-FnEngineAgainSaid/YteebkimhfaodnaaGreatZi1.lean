/- FnEngineAgain (part 1): C47 -/
import Derived.Test.YteebkimhfaodnaaGreatRows
import Derived.ProofKit
import Derived.Test.YteebkimhfaodnaaGreatI7

set_option linter.unusedSimpArgs false
set_option linter.unusedVariables false

/- The law FnEngineAgain, and its closed facts. -/
namespace Go.Proofs.YteebkimhfaodnaaGreat
open Go Go.ChangeShapes Go.WideShapes Go.ChangeAt Go.RowKit

theorem fnEngineAgain_named : Tryz.pinned.checked.prog.funcNamed Rows.fnEngineAgainRow.func = some 7 := by kernel_rfl
theorem fnEngineAgain_inst : Tryz.f7.isInstance Tryz.pinned.checked.prog Rows.fnEngineAgainRow.origin Rows.fnEngineAgainRow.targs := of_decide_eq_true (by kernel_rfl)
theorem fnEngineAgain_wrap : Tryz.f7.isWrapper Tryz.pinned.checked.prog Rows.fnEngineAgainRow.wrapper Rows.fnEngineAgainRow.mainSum := by
  unfold Func.isWrapper; first | (rw [if_pos (by decide +kernel)]; kernel_rfl) | (rw [if_neg (by decide +kernel)]; exact ⟨rfl, rfl⟩)
set_option maxRecDepth 100000 in
theorem fnEngineAgain_closed : joinedFacts Tryz.pinned.checked.prog 7 Tryz.f7 Rows.fnEngineAgainSpec Rows.fnEngineAgainRow = true := by kernel_rfl

end Go.Proofs.YteebkimhfaodnaaGreat

