/- FnExactEngineRun (part 1): C41 -/
import Derived.Test.YteebkimhfaodnaaGreatRows
import Derived.ProofKit
import Derived.Test.YteebkimhfaodnaaGreatH7

set_option linter.unusedSimpArgs false
set_option linter.unusedVariables false

/- The closed facts of the row of FnExactEngineRun. -/
namespace Go.Proofs.YteebkimhfaodnaaGreat
open Go Go.ChangeShapes Go.WideShapes Go.ChangeAt Go.RowKit

theorem fnExactEngineRun_named : Tryz.pinned.checked.prog.funcNamed Rows.fnExactEngineRunRow.func = some 4 := by kernel_rfl
theorem fnExactEngineRun_inst : Tryz.f4.isInstance Tryz.pinned.checked.prog Rows.fnExactEngineRunRow.origin Rows.fnExactEngineRunRow.targs := of_decide_eq_true (by kernel_rfl)
theorem fnExactEngineRun_wrap : Tryz.f4.isWrapper Tryz.pinned.checked.prog Rows.fnExactEngineRunRow.wrapper Rows.fnExactEngineRunRow.mainSum := by
  unfold Func.isWrapper; first | (rw [if_pos (by decide +kernel)]; kernel_rfl) | (rw [if_neg (by decide +kernel)]; exact ⟨rfl, rfl⟩)
set_option maxRecDepth 100000 in
theorem fnExactEngineRun_closed : joinedFacts Tryz.pinned.checked.prog 4 Tryz.f4 Rows.fnExactEngineRunSpec Rows.fnExactEngineRunRow = true := by kernel_rfl

end Go.Proofs.YteebkimhfaodnaaGreat

