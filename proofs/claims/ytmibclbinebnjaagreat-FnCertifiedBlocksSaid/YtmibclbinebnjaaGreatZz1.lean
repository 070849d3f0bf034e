/- FnCertifiedBlocks (part 1): C20 -/
import Derived.Test.YtmibclbinebnjaaGreatRows
import Derived.ProofKit
import Derived.Test.YtmibclbinebnjaaGreatG6

set_option linter.unusedSimpArgs false
set_option linter.unusedVariables false

/- The law FnCertifiedBlocks, and its closed facts. -/
namespace Go.Proofs.YtmibclbinebnjaaGreat
open Go Go.ChangeShapes Go.WideShapes Go.ChangeAt Go.RowKit

theorem fnCertifiedBlocks_named : Tryz.pinned.checked.prog.funcNamed Rows.fnCertifiedBlocksRow.func = some 5 := by kernel_rfl
theorem fnCertifiedBlocks_inst : Tryz.f5.isInstance Tryz.pinned.checked.prog Rows.fnCertifiedBlocksRow.origin Rows.fnCertifiedBlocksRow.targs := of_decide_eq_true (by kernel_rfl)
theorem fnCertifiedBlocks_wrap : Tryz.f5.isWrapper Tryz.pinned.checked.prog Rows.fnCertifiedBlocksRow.wrapper Rows.fnCertifiedBlocksRow.mainSum := by
  unfold Func.isWrapper; first | (rw [if_pos (by decide +kernel)]; kernel_rfl) | (rw [if_neg (by decide +kernel)]; exact ⟨rfl, rfl⟩)
set_option maxRecDepth 100000 in
set_option maxHeartbeats 4000000 in
theorem fnCertifiedBlocks_closed : joinedFacts Tryz.pinned.checked.prog 5 Tryz.f5 Rows.fnCertifiedBlocksSpec Rows.fnCertifiedBlocksRow = true := by
  unfold joinedFacts
  simp only [Bool.and_eq_true]
  repeat' apply And.intro
  all_goals first
    | with_reducible exact c_enter
    | (rw [c_final]; as_aux_lemma => kernel_rfl)
    | (rw [c_make]; as_aux_lemma => kernel_rfl)
    | (as_aux_lemma => kernel_rfl)

end Go.Proofs.YtmibclbinebnjaaGreat

