/- FnEngineRun (part 1): C51 -/
import Derived.Test.YteebkimhfaodnaaRows
import Derived.ProofKit
import Derived.Test.YteebkimhfaodnaaJ6

set_option linter.unusedSimpArgs false
set_option linter.unusedVariables false

/- The law FnEngineRun, and its closed facts. -/
namespace Go.Proofs.Yteebkimhfaodnaa
open Go Go.ChangeShapes Go.WideShapes Go.ChangeAt Go.RowKit

theorem fnEngineRun_named : Try.pinned.checked.prog.funcNamed Rows.fnEngineRunRow.func = some 6 := by kernel_rfl
theorem fnEngineRun_inst : Try.f6.isInstance Try.pinned.checked.prog Rows.fnEngineRunRow.origin Rows.fnEngineRunRow.targs := of_decide_eq_true (by kernel_rfl)
theorem fnEngineRun_wrap : Try.f6.isWrapper Try.pinned.checked.prog Rows.fnEngineRunRow.wrapper Rows.fnEngineRunRow.mainSum := by
  unfold Func.isWrapper; first | (rw [if_pos (by decide +kernel)]; kernel_rfl) | (rw [if_neg (by decide +kernel)]; exact ⟨rfl, rfl⟩)
set_option maxRecDepth 100000 in
theorem fnEngineRun_closed : joinedFacts Try.pinned.checked.prog 6 Try.f6 Rows.fnEngineRunSpec Rows.fnEngineRunRow = true := by kernel_rfl

end Go.Proofs.Yteebkimhfaodnaa

