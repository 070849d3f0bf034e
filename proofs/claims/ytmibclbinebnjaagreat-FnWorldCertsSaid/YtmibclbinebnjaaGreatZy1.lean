/- FnWorldCerts (part 1): C19 -/
import Derived.Test.YtmibclbinebnjaaGreatRows
import Derived.ProofKit
import Derived.Test.YtmibclbinebnjaaGreatG6

set_option linter.unusedSimpArgs false
set_option linter.unusedVariables false

/- The law FnWorldCerts, and its closed facts. -/
namespace Go.Proofs.YtmibclbinebnjaaGreat
open Go Go.ChangeShapes Go.WideShapes Go.ChangeAt Go.RowKit

theorem fnWorldCerts_named : Tryz.pinned.checked.prog.funcNamed Rows.fnWorldCertsRow.func = some 7 := by kernel_rfl
theorem fnWorldCerts_inst : Tryz.f7.isInstance Tryz.pinned.checked.prog Rows.fnWorldCertsRow.origin Rows.fnWorldCertsRow.targs := of_decide_eq_true (by kernel_rfl)
theorem fnWorldCerts_wrap : Tryz.f7.isWrapper Tryz.pinned.checked.prog Rows.fnWorldCertsRow.wrapper Rows.fnWorldCertsRow.mainSum := by
  unfold Func.isWrapper; first | (rw [if_pos (by decide +kernel)]; kernel_rfl) | (rw [if_neg (by decide +kernel)]; exact ⟨rfl, rfl⟩)
set_option maxRecDepth 100000 in
set_option maxHeartbeats 4000000 in
theorem fnWorldCerts_closed : joinedFacts Tryz.pinned.checked.prog 7 Tryz.f7 Rows.fnWorldCertsSpec Rows.fnWorldCertsRow = true := by
  unfold joinedFacts
  simp only [Bool.and_eq_true]
  repeat' apply And.intro
  all_goals first
    | with_reducible exact c_enter
    | (rw [c_final]; as_aux_lemma => kernel_rfl)
    | (rw [c_make]; as_aux_lemma => kernel_rfl)
    | (as_aux_lemma => kernel_rfl)

end Go.Proofs.YtmibclbinebnjaaGreat

