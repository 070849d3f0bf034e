/- FnTriesOf (part 1): C50 -/
import Derived.Test.YteebkimhfaodnaaRows
import Derived.ProofKit
import Derived.Test.YteebkimhfaodnaaJ6

set_option linter.unusedSimpArgs false
set_option linter.unusedVariables false

/- The law FnTriesOf, and its closed facts. -/
namespace Go.Proofs.Yteebkimhfaodnaa
open Go Go.ChangeShapes Go.WideShapes Go.ChangeAt Go.RowKit

theorem fnTriesOf_named : Try.pinned.checked.prog.funcNamed Rows.fnTriesOfRow.func = some 5 := by kernel_rfl
theorem fnTriesOf_inst : Try.f5.isInstance Try.pinned.checked.prog Rows.fnTriesOfRow.origin Rows.fnTriesOfRow.targs := of_decide_eq_true (by kernel_rfl)
theorem fnTriesOf_wrap : Try.f5.isWrapper Try.pinned.checked.prog Rows.fnTriesOfRow.wrapper Rows.fnTriesOfRow.mainSum := by
  unfold Func.isWrapper; first | (rw [if_pos (by decide +kernel)]; kernel_rfl) | (rw [if_neg (by decide +kernel)]; exact ⟨rfl, rfl⟩)
set_option maxRecDepth 100000 in
theorem fnTriesOf_closed : joinedFacts Try.pinned.checked.prog 5 Try.f5 Rows.fnTriesOfSpec Rows.fnTriesOfRow = true := by kernel_rfl

end Go.Proofs.Yteebkimhfaodnaa

