/- FnEngineStep (part 1): C44 -/
import Derived.Test.YteebkimhfaodnaaGreatRows
import Derived.ProofKit
import Derived.Test.YteebkimhfaodnaaGreatI7

set_option linter.unusedSimpArgs false
set_option linter.unusedVariables false

/- The law FnEngineStep, and its closed facts. -/
namespace Go.Proofs.YteebkimhfaodnaaGreat
open Go Go.ChangeShapes Go.WideShapes Go.ChangeAt Go.RowKit

theorem fnEngineStep_named : Tryz.pinned.checked.prog.funcNamed Rows.fnEngineStepRow.func = some 6 := by kernel_rfl
theorem fnEngineStep_inst : Tryz.f6.isInstance Tryz.pinned.checked.prog Rows.fnEngineStepRow.origin Rows.fnEngineStepRow.targs := of_decide_eq_true (by kernel_rfl)
theorem fnEngineStep_wrap : Tryz.f6.isWrapper Tryz.pinned.checked.prog Rows.fnEngineStepRow.wrapper Rows.fnEngineStepRow.mainSum := by
  unfold Func.isWrapper; first | (rw [if_pos (by decide +kernel)]; kernel_rfl) | (rw [if_neg (by decide +kernel)]; exact ⟨rfl, rfl⟩)
set_option maxRecDepth 100000 in
theorem fnEngineStep_closed : joinedFacts Tryz.pinned.checked.prog 6 Tryz.f6 Rows.fnEngineStepSpec Rows.fnEngineStepRow = true := by kernel_rfl

end Go.Proofs.YteebkimhfaodnaaGreat

