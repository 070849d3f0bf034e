/- FnEngineResult (part 1): C45 -/
import Derived.Test.YteebkimhfaodnaaGreatRows
import Derived.ProofKit
import Derived.Test.YteebkimhfaodnaaGreatI7

set_option linter.unusedSimpArgs false
set_option linter.unusedVariables false

/- The law FnEngineResult, and its closed facts. -/
namespace Go.Proofs.YteebkimhfaodnaaGreat
open Go Go.ChangeShapes Go.WideShapes Go.ChangeAt Go.RowKit

theorem fnEngineResult_named : Tryz.pinned.checked.prog.funcNamed Rows.fnEngineResultRow.func = some 8 := by kernel_rfl
theorem fnEngineResult_inst : Tryz.f8.isInstance Tryz.pinned.checked.prog Rows.fnEngineResultRow.origin Rows.fnEngineResultRow.targs := of_decide_eq_true (by kernel_rfl)
theorem fnEngineResult_wrap : Tryz.f8.isWrapper Tryz.pinned.checked.prog Rows.fnEngineResultRow.wrapper Rows.fnEngineResultRow.mainSum := by
  unfold Func.isWrapper; first | (rw [if_pos (by decide +kernel)]; kernel_rfl) | (rw [if_neg (by decide +kernel)]; exact ⟨rfl, rfl⟩)
set_option maxRecDepth 100000 in
theorem fnEngineResult_closed : joinedFacts Tryz.pinned.checked.prog 8 Tryz.f8 Rows.fnEngineResultSpec Rows.fnEngineResultRow = true := by kernel_rfl

end Go.Proofs.YteebkimhfaodnaaGreat

