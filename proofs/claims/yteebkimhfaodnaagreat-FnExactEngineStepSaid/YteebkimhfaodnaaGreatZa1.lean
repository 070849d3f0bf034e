/- FnExactEngineStep (part 1): C40 -/
import Derived.Test.YteebkimhfaodnaaGreatRows
import Derived.ProofKit
import Derived.Test.YteebkimhfaodnaaGreatH7

set_option linter.unusedSimpArgs false
set_option linter.unusedVariables false

/- The closed facts of the row of FnExactEngineStep. -/
namespace Go.Proofs.YteebkimhfaodnaaGreat
open Go Go.ChangeShapes Go.WideShapes Go.ChangeAt Go.RowKit

theorem fnExactEngineStep_named : Tryz.pinned.checked.prog.funcNamed Rows.fnExactEngineStepRow.func = some 3 := by kernel_rfl
theorem fnExactEngineStep_inst : Tryz.f3.isInstance Tryz.pinned.checked.prog Rows.fnExactEngineStepRow.origin Rows.fnExactEngineStepRow.targs := of_decide_eq_true (by kernel_rfl)
theorem fnExactEngineStep_wrap : Tryz.f3.isWrapper Tryz.pinned.checked.prog Rows.fnExactEngineStepRow.wrapper Rows.fnExactEngineStepRow.mainSum := by
  unfold Func.isWrapper; first | (rw [if_pos (by decide +kernel)]; kernel_rfl) | (rw [if_neg (by decide +kernel)]; exact ⟨rfl, rfl⟩)
set_option maxRecDepth 100000 in
theorem fnExactEngineStep_closed : joinedFacts Tryz.pinned.checked.prog 3 Tryz.f3 Rows.fnExactEngineStepSpec Rows.fnExactEngineStepRow = true := by kernel_rfl

end Go.Proofs.YteebkimhfaodnaaGreat

