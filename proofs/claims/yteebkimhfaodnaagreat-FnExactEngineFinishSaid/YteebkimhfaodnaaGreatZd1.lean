/- FnExactEngineFinish (part 1): C42 -/
import Derived.Test.YteebkimhfaodnaaGreatRows
import Derived.ProofKit
import Derived.Test.YteebkimhfaodnaaGreatH7

set_option linter.unusedSimpArgs false
set_option linter.unusedVariables false

/- The closed facts of the row of FnExactEngineFinish. -/
namespace Go.Proofs.YteebkimhfaodnaaGreat
open Go Go.ChangeShapes Go.WideShapes Go.ChangeAt Go.RowKit

theorem fnExactEngineFinish_named : Tryz.pinned.checked.prog.funcNamed Rows.fnExactEngineFinishRow.func = some 5 := by kernel_rfl
theorem fnExactEngineFinish_inst : Tryz.f5.isInstance Tryz.pinned.checked.prog Rows.fnExactEngineFinishRow.origin Rows.fnExactEngineFinishRow.targs := of_decide_eq_true (by kernel_rfl)
theorem fnExactEngineFinish_wrap : Tryz.f5.isWrapper Tryz.pinned.checked.prog Rows.fnExactEngineFinishRow.wrapper Rows.fnExactEngineFinishRow.mainSum := by
  unfold Func.isWrapper; first | (rw [if_pos (by decide +kernel)]; kernel_rfl) | (rw [if_neg (by decide +kernel)]; exact ⟨rfl, rfl⟩)
set_option maxRecDepth 100000 in
theorem fnExactEngineFinish_closed : joinedFacts Tryz.pinned.checked.prog 5 Tryz.f5 Rows.fnExactEngineFinishSpec Rows.fnExactEngineFinishRow = true := by kernel_rfl

end Go.Proofs.YteebkimhfaodnaaGreat

