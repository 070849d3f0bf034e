/- FnEngineFinish (part 1): C46 -/
import Derived.Test.YteebkimhfaodnaaGreatRows
import Derived.ProofKit
import Derived.Test.YteebkimhfaodnaaGreatI7

set_option linter.unusedSimpArgs false
set_option linter.unusedVariables false

/- The law FnEngineFinish, and its closed facts. -/
namespace Go.Proofs.YteebkimhfaodnaaGreat
open Go Go.ChangeShapes Go.WideShapes Go.ChangeAt Go.RowKit

theorem fnEngineFinish_named : Tryz.pinned.checked.prog.funcNamed Rows.fnEngineFinishRow.func = some 9 := by kernel_rfl
theorem fnEngineFinish_inst : Tryz.f9.isInstance Tryz.pinned.checked.prog Rows.fnEngineFinishRow.origin Rows.fnEngineFinishRow.targs := of_decide_eq_true (by kernel_rfl)
theorem fnEngineFinish_wrap : Tryz.f9.isWrapper Tryz.pinned.checked.prog Rows.fnEngineFinishRow.wrapper Rows.fnEngineFinishRow.mainSum := by
  unfold Func.isWrapper; first | (rw [if_pos (by decide +kernel)]; kernel_rfl) | (rw [if_neg (by decide +kernel)]; exact ⟨rfl, rfl⟩)
set_option maxRecDepth 100000 in
theorem fnEngineFinish_closed : joinedFacts Tryz.pinned.checked.prog 9 Tryz.f9 Rows.fnEngineFinishSpec Rows.fnEngineFinishRow = true := by kernel_rfl

end Go.Proofs.YteebkimhfaodnaaGreat

