/- FnExactWorldOf (part 1): W85, C85 -/
import Derived.Test.YtmibclbinebnjaaGreatRows
import Derived.ProofKit
import Derived.Test.YtmibclbinebnjaaGreatU2

set_option linter.unusedSimpArgs false
set_option linter.unusedVariables false

/- Contracts: FnExactWorldOf. -/
set_option linter.unusedSimpArgs false
set_option linter.unusedVariables false
set_option maxRecDepth 20000
set_option maxHeartbeats 4000000
namespace Go.Proofs.YtmibclbinebnjaaGreat
open Go Go.RowKit

theorem c_laws_FnExactWorldOf (n00 n01 n02 : Option Bool) (t : Tree) (ht : TreeLen t) :
    Det Tryz.prog 10 [.agg (encT n00 n01 n02 t)] (.bool true) := by
  refine fspec_det tab_ok Tryz.call10 Tryz.func10 rfl 69 Tryz.ntmps10 (of_decide_eq_true rfl) fun B => codeK_sound tab_ok _ _ _ ?_
  have hle0 : (0 : Int) ≤ 1048576 ∧ (1048576 : Int) ≤ 1048576 := by omega
  obtain ⟨r0, hr0, hr0b, hT0, hE0⟩ := c_laws_szBlockTree n00 n01 n02 t 1048576 ht hle0
  simp (config := { maxSteps := 4000000 }) only [go_sem, simprocAttr, ↓dnA, Tryz.f10, encT, encTO, encW, encWO, encWF, List.nodup_cons, rows_length, markS_length]
  refine CallTo.det hr0 fun _ => ?_
  cases d0 : decide (r0 < 0) with
  | true => simp (config := { maxSteps := 4000000 }) only [go_sem, simprocAttr, ↓dnA, Tryz.f10, encT, encTO, encW, encWO, encWF, List.nodup_cons, rows_length, markS_length, d0]
  | false =>
  have d0' := of_decide_eq_false d0
  have hst := hT0 (by omega)
  have hle1 : 0 ≤ r0 ∧ r0 ≤ 1048576 := by omega
  have hmt := stT_small hst
  have hgt : wsz (worldOf t) ≤ 4194304 := by have := worldOf_wsz t; have := hst.sum; omega
  have hS := c_spec_WorldOf (some true) (some true) (some true) t hst
  have hN := c_impl_WorldOf (some true) (some true) (some true) t hst
  generalize worldOf t = g0 at hS hN hgt
  have hgz := wsz_sz hgt (by omega)
  have hgm := stW_le g0
  have ml0 : (mkW g0 1).tree.base.length = g0.tree.base.length := markS_length ..
  have ml1 : (mkW g0 1).tree.blocks.length = g0.tree.blocks.length := markS_length ..
  have ml2 : (mkW g0 1).tree.before.length = g0.tree.before.length := markS_length ..
  have ml3 : (mkW g0 1).voters.length = g0.voters.length := markS_length ..
  have ml4 : (mkW g0 1).votes.length = g0.votes.length := markS_length ..
  have eg : decide (g0 = g0) = true := by simp
  have dm : decide (1 + (stW g0 : Int) < 0) = false := by simp; omega
  have dk : decide (1 + (stT t : Int) < 0) = false := by simp; omega
  have ett : decide (t = t) = true := by simp
  simp (config := { maxSteps := 4000000 }) only [go_sem, simprocAttr, ↓dnA, Tryz.f10, encT, encTO, encW, encWO, encWF, List.nodup_cons, rows_length, markS_length, d0, ml0, ml1, ml2, ml3, ml4, eg, dm, dk, ett]
  refine CallTo.det (c_laws_toBlockTree n00 n01 n02 t hst) fun _ => ?_
  simp (config := { maxSteps := 4000000 }) only [go_sem, simprocAttr, ↓dnA, Tryz.f10, encT, encTO, encW, encWO, encWF, List.nodup_cons, rows_length, markS_length, d0, ml0, ml1, ml2, ml3, ml4, eg, dm, dk, ett]
  refine CallTo.det hS fun _ => ?_
  simp (config := { maxSteps := 4000000 }) only [go_sem, simprocAttr, ↓dnA, Tryz.f10, encT, encTO, encW, encWO, encWF, List.nodup_cons, rows_length, markS_length, d0, ml0, ml1, ml2, ml3, ml4, eg, dm, dk, ett]
  refine CallTo.det (c_laws_toBlockTree n00 n01 n02 t hst) fun _ => ?_
  simp (config := { maxSteps := 4000000 }) only [go_sem, simprocAttr, ↓dnA, Tryz.f10, encT, encTO, encW, encWO, encWF, List.nodup_cons, rows_length, markS_length, d0, ml0, ml1, ml2, ml3, ml4, eg, dm, dk, ett]
  refine CallTo.det hN fun _ => ?_
  simp (config := { maxSteps := 4000000 }) only [go_sem, simprocAttr, ↓dnA, Tryz.f10, encT, encTO, encW, encWO, encWF, List.nodup_cons, rows_length, markS_length, d0, ml0, ml1, ml2, ml3, ml4, eg, dm, dk, ett]
  refine CallTo.det (c_laws_eqWorld _ _ _ _ _ _ _ _ _ _ g0 g0 hgz hgz) fun _ => ?_
  simp (config := { maxSteps := 4000000 }) only [go_sem, simprocAttr, ↓dnA, Tryz.f10, encT, encTO, encW, encWO, encWF, List.nodup_cons, rows_length, markS_length, d0, ml0, ml1, ml2, ml3, ml4, eg, dm, dk, ett]
  refine semL_draw tab_ok mixed_ rfl (ord := [(0, []), (1, []), (2, [0]), (3, []), (4, [])]) (by dsimp only; decide +kernel) ?_
  simp (config := { maxSteps := 4000000 }) only [go_sem, simprocAttr, ↓dnA, Tryz.f10, encT, encTO, encW, encWO, encWF, List.nodup_cons, rows_length, markS_length, d0, ml0, ml1, ml2, ml3, ml4, eg, dm, dk, ett]
  refine CallTo.det (c_laws_toBlockTree n00 n01 n02 t hst) fun _ => ?_
  simp (config := { maxSteps := 4000000 }) only [go_sem, simprocAttr, ↓dnA, Tryz.f10, encT, encTO, encW, encWO, encWF, List.nodup_cons, rows_length, markS_length, d0, ml0, ml1, ml2, ml3, ml4, eg, dm, dk, ett]
  refine CallTo.det (c_laws_eqBlockTree _ _ _ _ _ _ t t hst.sz hst.sz) fun _ => ?_
  simp (config := { maxSteps := 4000000 }) only [go_sem, simprocAttr, ↓dnA, Tryz.f10, encT, encTO, encW, encWO, encWF, List.nodup_cons, rows_length, markS_length, d0, ml0, ml1, ml2, ml3, ml4, eg, dm, dk, ett]
  refine CallMTo.of (c_laws_markBlockTree true true true t _ hst.sz ⟨by omega, by omega⟩) ?_
  rintro r ls' ⟨rfl, rfl⟩
  simp (config := { maxSteps := 4000000 }) only [go_sem, simprocAttr, ↓dnA, Tryz.f10, encT, encTO, encW, encWO, encWF, List.nodup_cons, rows_length, markS_length, d0, ml0, ml1, ml2, ml3, ml4, eg, dm, dk, ett]
  refine CallTo.det (c_laws_eqWorld _ _ _ _ _ _ _ _ _ _ g0 g0 hgz hgz) fun _ => ?_
  simp (config := { maxSteps := 4000000 }) only [go_sem, simprocAttr, ↓dnA, Tryz.f10, encT, encTO, encW, encWO, encWF, List.nodup_cons, rows_length, markS_length, d0, ml0, ml1, ml2, ml3, ml4, eg, dm, dk, ett]
  refine CallMTo.of (c_laws_markWorld false false false false false g0 _ hgz ⟨by omega, by omega⟩) ?_
  rintro r ls' ⟨rfl, rfl⟩
  simp (config := { maxSteps := 4000000 }) only [go_sem, simprocAttr, ↓dnA, Tryz.f10, encT, encTO, encW, encWO, encWF, List.nodup_cons, rows_length, markS_length, d0, ml0, ml1, ml2, ml3, ml4, eg, dm, dk, ett]
  refine CallTo.det (c_laws_heldWorld _ _ _ _ _ g0 1 hgz ⟨by omega, by omega⟩) fun _ => ?_
  simp (config := { maxSteps := 4000000 }) only [go_sem, simprocAttr, ↓dnA, Tryz.f10, encT, encTO, encW, encWO, encWF, List.nodup_cons, rows_length, markS_length, d0, ml0, ml1, ml2, ml3, ml4, eg, dm, dk, ett]
  refine CallTo.det (c_laws_toBlockTree n00 n01 n02 t hst) fun _ => ?_
  simp (config := { maxSteps := 4000000 }) only [go_sem, simprocAttr, ↓dnA, Tryz.f10, encT, encTO, encW, encWO, encWF, List.nodup_cons, rows_length, markS_length, d0, ml0, ml1, ml2, ml3, ml4, eg, dm, dk, ett]
  refine CallTo.det hN fun _ => ?_
  simp (config := { maxSteps := 4000000 }) only [go_sem, simprocAttr, ↓dnA, Tryz.f10, encT, encTO, encW, encWO, encWF, List.nodup_cons, rows_length, markS_length, d0, ml0, ml1, ml2, ml3, ml4, eg, dm, dk, ett]
  refine CallTo.det (c_laws_eqWorld _ _ _ _ _ _ _ _ _ _ g0 g0 hgz hgz) fun _ => ?_
  simp (config := { maxSteps := 4000000 }) only [go_sem, simprocAttr, ↓dnA, Tryz.f10, encT, encTO, encW, encWO, encWF, List.nodup_cons, rows_length, markS_length, d0, ml0, ml1, ml2, ml3, ml4, eg, dm, dk, ett]
  refine CallTo.det (c_laws_heldWorld _ _ _ _ _ g0 1 hgz ⟨by omega, by omega⟩) fun _ => ?_
  simp (config := { maxSteps := 4000000 }) only [go_sem, simprocAttr, ↓dnA, Tryz.f10, encT, encTO, encW, encWO, encWF, List.nodup_cons, rows_length, markS_length, d0, ml0, ml1, ml2, ml3, ml4, eg, dm, dk, ett]

end Go.Proofs.YtmibclbinebnjaaGreat

/- The closed facts of the row of FnExactWorldOf. -/
namespace Go.Proofs.YtmibclbinebnjaaGreat
open Go Go.ChangeShapes Go.WideShapes Go.ChangeAt Go.RowKit

theorem fnExactWorldOf_named : Tryz.pinned.checked.prog.funcNamed Rows.fnExactWorldOfRow.func = some 10 := by kernel_rfl
theorem fnExactWorldOf_inst : Tryz.f10.isInstance Tryz.pinned.checked.prog Rows.fnExactWorldOfRow.origin Rows.fnExactWorldOfRow.targs := of_decide_eq_true (by kernel_rfl)
theorem fnExactWorldOf_wrap : Tryz.f10.isWrapper Tryz.pinned.checked.prog Rows.fnExactWorldOfRow.wrapper Rows.fnExactWorldOfRow.mainSum := by
  unfold Func.isWrapper; first | (rw [if_pos (by decide +kernel)]; kernel_rfl) | (rw [if_neg (by decide +kernel)]; exact ⟨rfl, rfl⟩)
set_option maxRecDepth 100000 in
set_option maxHeartbeats 4000000 in
theorem fnExactWorldOf_closed : joinedFacts Tryz.pinned.checked.prog 10 Tryz.f10 Rows.fnExactWorldOfSpec Rows.fnExactWorldOfRow = true := by
  unfold joinedFacts
  simp only [Bool.and_eq_true]
  repeat' apply And.intro
  all_goals first
    | with_reducible exact c_enter
    | (rw [c_final]; as_aux_lemma => kernel_rfl)
    | (rw [c_make]; as_aux_lemma => kernel_rfl)
    | (as_aux_lemma => kernel_rfl)

end Go.Proofs.YtmibclbinebnjaaGreat

