/- FnExactEngineResult (part 1): C43 -/
import Derived.Test.YteebkimhfaodnaaGreatRows
import Derived.ProofKit
import Derived.Test.YteebkimhfaodnaaGreatH7

set_option linter.unusedSimpArgs false
set_option linter.unusedVariables false

/- The closed facts of the row of FnExactEngineResult. -/
namespace Go.Proofs.YteebkimhfaodnaaGreat
open Go Go.ChangeShapes Go.WideShapes Go.ChangeAt Go.RowKit

theorem fnExactEngineResult_named : Tryz.pinned.checked.prog.funcNamed Rows.fnExactEngineResultRow.func = some 10 := by kernel_rfl
theorem fnExactEngineResult_inst : Tryz.f10.isInstance Tryz.pinned.checked.prog Rows.fnExactEngineResultRow.origin Rows.fnExactEngineResultRow.targs := of_decide_eq_true (by kernel_rfl)
theorem fnExactEngineResult_wrap : Tryz.f10.isWrapper Tryz.pinned.checked.prog Rows.fnExactEngineResultRow.wrapper Rows.fnExactEngineResultRow.mainSum := by
  unfold Func.isWrapper; first | (rw [if_pos (by decide +kernel)]; kernel_rfl) | (rw [if_neg (by decide +kernel)]; exact ⟨rfl, rfl⟩)
set_option maxRecDepth 100000 in
theorem fnExactEngineResult_closed : joinedFacts Tryz.pinned.checked.prog 10 Tryz.f10 Rows.fnExactEngineResultSpec Rows.fnExactEngineResultRow = true := by kernel_rfl

end Go.Proofs.YteebkimhfaodnaaGreat

