/- FnEngineOf (part 1): C48 -/
import Derived.Test.YteebkimhfaodnaaRows
import Derived.ProofKit
import Derived.Test.YteebkimhfaodnaaJ6

set_option linter.unusedSimpArgs false
set_option linter.unusedVariables false

/- The law FnEngineOf, and its closed facts. -/
namespace Go.Proofs.Yteebkimhfaodnaa
open Go Go.ChangeShapes Go.WideShapes Go.ChangeAt Go.RowKit

theorem fnEngineOf_named : Try.pinned.checked.prog.funcNamed Rows.fnEngineOfRow.func = some 3 := by kernel_rfl
theorem fnEngineOf_inst : Try.f3.isInstance Try.pinned.checked.prog Rows.fnEngineOfRow.origin Rows.fnEngineOfRow.targs := of_decide_eq_true (by kernel_rfl)
theorem fnEngineOf_wrap : Try.f3.isWrapper Try.pinned.checked.prog Rows.fnEngineOfRow.wrapper Rows.fnEngineOfRow.mainSum := by
  unfold Func.isWrapper; first | (rw [if_pos (by decide +kernel)]; kernel_rfl) | (rw [if_neg (by decide +kernel)]; exact ⟨rfl, rfl⟩)
set_option maxRecDepth 100000 in
theorem fnEngineOf_closed : joinedFacts Try.pinned.checked.prog 3 Try.f3 Rows.fnEngineOfSpec Rows.fnEngineOfRow = true := by kernel_rfl

end Go.Proofs.Yteebkimhfaodnaa

