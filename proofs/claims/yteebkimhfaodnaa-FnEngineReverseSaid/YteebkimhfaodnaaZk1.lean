/- FnEngineReverse (part 1): C49 -/
import Derived.Test.YteebkimhfaodnaaRows
import Derived.ProofKit
import Derived.Test.YteebkimhfaodnaaJ6

set_option linter.unusedSimpArgs false
set_option linter.unusedVariables false

/- The law FnEngineReverse, and its closed facts. -/
namespace Go.Proofs.Yteebkimhfaodnaa
open Go Go.ChangeShapes Go.WideShapes Go.ChangeAt Go.RowKit

theorem fnEngineReverse_named : Try.pinned.checked.prog.funcNamed Rows.fnEngineReverseRow.func = some 4 := by kernel_rfl
theorem fnEngineReverse_inst : Try.f4.isInstance Try.pinned.checked.prog Rows.fnEngineReverseRow.origin Rows.fnEngineReverseRow.targs := of_decide_eq_true (by kernel_rfl)
theorem fnEngineReverse_wrap : Try.f4.isWrapper Try.pinned.checked.prog Rows.fnEngineReverseRow.wrapper Rows.fnEngineReverseRow.mainSum := by
  unfold Func.isWrapper; first | (rw [if_pos (by decide +kernel)]; kernel_rfl) | (rw [if_neg (by decide +kernel)]; exact ⟨rfl, rfl⟩)
set_option maxRecDepth 100000 in
theorem fnEngineReverse_closed : joinedFacts Try.pinned.checked.prog 4 Try.f4 Rows.fnEngineReverseSpec Rows.fnEngineReverseRow = true := by kernel_rfl

end Go.Proofs.Yteebkimhfaodnaa

