/- FnWorldValid (part 1): C18 -/
import Derived.Test.YtmibclbinebnjaaGreatRows
import Derived.ProofKit
import Derived.Test.YtmibclbinebnjaaGreatG6

set_option linter.unusedSimpArgs false
set_option linter.unusedVariables false

/- The law FnWorldValid, and its closed facts. -/
namespace Go.Proofs.YtmibclbinebnjaaGreat
open Go Go.ChangeShapes Go.WideShapes Go.ChangeAt Go.RowKit

theorem fnWorldValid_named : Tryz.pinned.checked.prog.funcNamed Rows.fnWorldValidRow.func = some 3 := by kernel_rfl
theorem fnWorldValid_inst : Tryz.f3.isInstance Tryz.pinned.checked.prog Rows.fnWorldValidRow.origin Rows.fnWorldValidRow.targs := of_decide_eq_true (by kernel_rfl)
theorem fnWorldValid_wrap : Tryz.f3.isWrapper Tryz.pinned.checked.prog Rows.fnWorldValidRow.wrapper Rows.fnWorldValidRow.mainSum := by
  unfold Func.isWrapper; first | (rw [if_pos (by decide +kernel)]; kernel_rfl) | (rw [if_neg (by decide +kernel)]; exact ⟨rfl, rfl⟩)
set_option maxRecDepth 100000 in
set_option maxHeartbeats 4000000 in
theorem fnWorldValid_closed : joinedFacts Tryz.pinned.checked.prog 3 Tryz.f3 Rows.fnWorldValidSpec Rows.fnWorldValidRow = true := by
  unfold joinedFacts
  simp only [Bool.and_eq_true]
  repeat' apply And.intro
  all_goals first
    | with_reducible exact c_enter
    | (rw [c_final]; as_aux_lemma => kernel_rfl)
    | (rw [c_make]; as_aux_lemma => kernel_rfl)
    | (as_aux_lemma => kernel_rfl)

end Go.Proofs.YtmibclbinebnjaaGreat

