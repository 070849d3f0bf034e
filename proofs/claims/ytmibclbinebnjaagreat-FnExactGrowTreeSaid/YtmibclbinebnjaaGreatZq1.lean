/- FnExactGrowTree (part 1): W90, C90 -/
import Derived.Test.YtmibclbinebnjaaGreatRows
import Derived.ProofKit
import Derived.Test.YtmibclbinebnjaaGreatU2

set_option linter.unusedSimpArgs false
set_option linter.unusedVariables false

/- Contracts: FnExactGrowTree. -/
set_option linter.unusedSimpArgs false
set_option linter.unusedVariables false
set_option maxRecDepth 20000
set_option maxHeartbeats 4000000
namespace Go.Proofs.YtmibclbinebnjaaGreat
open Go Go.RowKit

theorem c_laws_FnExactGrowTree (n00 n01 n02 n30 : Option Bool) (t : Tree) (n : Int) (v : Int) (l : List Action) (ht : TreeLen t) (hl : l.length ≤ 9223372036854775807) :
    Det Tryz.prog 16 [.agg (encT n00 n01 n02 t), .int .i64 n, .int .i64 v, .sl n30 (rows encA l)] (.bool true) := by
  refine fspec_det tab_ok Tryz.call16 Tryz.func16 rfl 129 Tryz.ntmps16 (of_decide_eq_true rfl) fun B => codeK_sound tab_ok _ _ _ ?_
  have hle0 : (0 : Int) ≤ 1048576 ∧ (1048576 : Int) ≤ 1048576 := by omega
  obtain ⟨r0, hr0, hr0b, hT0, hE0⟩ := c_laws_szBlockTree n00 n01 n02 t 1048576 ht hle0
  simp (config := { maxSteps := 4000000 }) only [go_sem, simprocAttr, ↓dnA, Tryz.f16, encT, encTO, encTF, List.nodup_cons, rows_length, markS_length]
  refine CallTo.det hr0 fun _ => ?_
  cases d0 : decide (r0 < 0) with
  | true => simp (config := { maxSteps := 4000000 }) only [go_sem, simprocAttr, ↓dnA, Tryz.f16, encT, encTO, encTF, List.nodup_cons, rows_length, markS_length, d0]
  | false =>
  have d0' := of_decide_eq_false d0
  have hst := hT0 (by omega)
  have hle1 : 0 ≤ r0 ∧ r0 ≤ 1048576 := by omega
  have hmt := stT_small hst
  have hr1b := szI_bd (left := r0) (n := l.length) hle1.2
  simp (config := { maxSteps := 4000000 }) only [go_sem, simprocAttr, ↓dnA, Tryz.f16, encT, encTO, encTF, List.nodup_cons, rows_length, markS_length, d0]
  refine CallTo.det (c_laws_szActionS n30 l _ hl hle1) fun _ => ?_
  cases d1 : decide (szI r0 l.length < 0) with
  | true => simp (config := { maxSteps := 4000000 }) only [go_sem, simprocAttr, ↓dnA, Tryz.f16, encT, encTO, encTF, List.nodup_cons, rows_length, markS_length, d0, d1]
  | false =>
  have d1' := of_decide_eq_false d1
  have hle2 : 0 ≤ szI r0 l.length ∧ szI r0 l.length ≤ 1048576 := by omega
  have ql : l.length ≤ 1048576 := by have := hr1b.2 (by omega); omega
  have el := stepS_const stA 4 (fun _ => rfl) l
  have hgt : tsz (growTree t n v l).1 ≤ 4194304 := by have := growTree_tsz t n v l; have := hst.sum; omega
  have hS := c_spec_GrowTree (some true) (some true) (some true) (some true) t n v l hst (by omega)
  have hN := c_impl_GrowTree (some true) (some true) (some true) (some true) t n v l hst (by omega)
  generalize growTree t n v l = g0 at hS hN hgt
  obtain ⟨g0, g1⟩ := g0
  dsimp only at hS hN hgt
  have hgz := tsz_sz hgt (by omega)
  have hgm := stT_le g0
  have ml0 : (mkT g0 1).base.length = g0.base.length := markS_length ..
  have ml1 : (mkT g0 1).blocks.length = g0.blocks.length := markS_length ..
  have ml2 : (mkT g0 1).before.length = g0.before.length := markS_length ..
  have eg : decide (g0 = g0) = true := by simp
  have dm : decide (1 + (stT g0 : Int) < 0) = false := by simp; omega
  have eo : (g1 != g1) = false := by simp
  have dk : decide (1 + (stT t : Int) + (stepS stA l : Int) < 0) = false := by simp; omega
  have ett : decide (t = t) = true := by simp
  have ell : decide (l = l) = true := by simp
  simp (config := { maxSteps := 4000000 }) only [go_sem, simprocAttr, ↓dnA, Tryz.f16, encT, encTO, encTF, List.nodup_cons, rows_length, markS_length, d0, d1, ml0, ml1, ml2, eg, dm, eo, dk, ett, ell]
  refine CallTo.det (c_laws_toBlockTree n00 n01 n02 t hst) fun _ => ?_
  simp (config := { maxSteps := 4000000 }) only [go_sem, simprocAttr, ↓dnA, Tryz.f16, encT, encTO, encTF, List.nodup_cons, rows_length, markS_length, d0, d1, ml0, ml1, ml2, eg, dm, eo, dk, ett, ell]
  refine CallTo.det (c_laws_toActionS n30 l (by omega)) fun _ => ?_
  simp (config := { maxSteps := 4000000 }) only [go_sem, simprocAttr, ↓dnA, Tryz.f16, encT, encTO, encTF, List.nodup_cons, rows_length, markS_length, d0, d1, ml0, ml1, ml2, eg, dm, eo, dk, ett, ell]
  refine CallTo.det hS fun _ => ?_
  simp (config := { maxSteps := 4000000 }) only [go_sem, simprocAttr, ↓dnA, Tryz.f16, encT, encTO, encTF, List.nodup_cons, rows_length, markS_length, d0, d1, ml0, ml1, ml2, eg, dm, eo, dk, ett, ell]
  refine CallTo.det (c_laws_toBlockTree n00 n01 n02 t hst) fun _ => ?_
  simp (config := { maxSteps := 4000000 }) only [go_sem, simprocAttr, ↓dnA, Tryz.f16, encT, encTO, encTF, List.nodup_cons, rows_length, markS_length, d0, d1, ml0, ml1, ml2, eg, dm, eo, dk, ett, ell]
  refine CallTo.det (c_laws_toActionS n30 l (by omega)) fun _ => ?_
  simp (config := { maxSteps := 4000000 }) only [go_sem, simprocAttr, ↓dnA, Tryz.f16, encT, encTO, encTF, List.nodup_cons, rows_length, markS_length, d0, d1, ml0, ml1, ml2, eg, dm, eo, dk, ett, ell]
  refine CallTo.det hN fun _ => ?_
  simp (config := { maxSteps := 4000000 }) only [go_sem, simprocAttr, ↓dnA, Tryz.f16, encT, encTO, encTF, List.nodup_cons, rows_length, markS_length, d0, d1, ml0, ml1, ml2, eg, dm, eo, dk, ett, ell]
  refine CallTo.det (c_laws_eqBlockTree _ _ _ _ _ _ g0 g0 hgz hgz) fun _ => ?_
  simp (config := { maxSteps := 4000000 }) only [go_sem, simprocAttr, ↓dnA, Tryz.f16, encT, encTO, encTF, List.nodup_cons, rows_length, markS_length, d0, d1, ml0, ml1, ml2, eg, dm, eo, dk, ett, ell]
  refine semL_draw tab_ok mixed_ rfl (ord := [(0, []), (1, []), (2, [0]), (3, []), (4, [])]) (by dsimp only; decide +kernel) ?_
  simp (config := { maxSteps := 4000000 }) only [go_sem, simprocAttr, ↓dnA, Tryz.f16, encT, encTO, encTF, List.nodup_cons, rows_length, markS_length, d0, d1, ml0, ml1, ml2, eg, dm, eo, dk, ett, ell]
  refine CallTo.det (c_laws_toBlockTree n00 n01 n02 t hst) fun _ => ?_
  simp (config := { maxSteps := 4000000 }) only [go_sem, simprocAttr, ↓dnA, Tryz.f16, encT, encTO, encTF, List.nodup_cons, rows_length, markS_length, d0, d1, ml0, ml1, ml2, eg, dm, eo, dk, ett, ell]
  refine CallTo.det (c_laws_eqBlockTree _ _ _ _ _ _ t t hst.sz hst.sz) fun _ => ?_
  simp (config := { maxSteps := 4000000 }) only [go_sem, simprocAttr, ↓dnA, Tryz.f16, encT, encTO, encTF, List.nodup_cons, rows_length, markS_length, d0, d1, ml0, ml1, ml2, eg, dm, eo, dk, ett, ell]
  refine CallTo.det (c_laws_toActionS n30 l (by omega)) fun _ => ?_
  simp (config := { maxSteps := 4000000 }) only [go_sem, simprocAttr, ↓dnA, Tryz.f16, encT, encTO, encTF, List.nodup_cons, rows_length, markS_length, d0, d1, ml0, ml1, ml2, eg, dm, eo, dk, ett, ell]
  refine CallTo.det (c_laws_eqActionS _ _ l l (by omega) (by omega)) fun _ => ?_
  simp (config := { maxSteps := 4000000 }) only [go_sem, simprocAttr, ↓dnA, Tryz.f16, encT, encTO, encTF, List.nodup_cons, rows_length, markS_length, d0, d1, ml0, ml1, ml2, eg, dm, eo, dk, ett, ell]
  refine CallMTo.of (c_laws_markBlockTree true true true t _ hst.sz ⟨by omega, by omega⟩) ?_
  rintro r ls' ⟨rfl, rfl⟩
  simp (config := { maxSteps := 4000000 }) only [go_sem, simprocAttr, ↓dnA, Tryz.f16, encT, encTO, encTF, List.nodup_cons, rows_length, markS_length, d0, d1, ml0, ml1, ml2, eg, dm, eo, dk, ett, ell]
  refine CallMTo.of (c_laws_markActionS true 4 l _ (.inr rfl) (by omega) ⟨by omega, by omega⟩) ?_
  rintro r ls' ⟨rfl, rfl⟩
  simp (config := { maxSteps := 4000000 }) only [go_sem, simprocAttr, ↓dnA, Tryz.f16, encT, encTO, encTF, List.nodup_cons, rows_length, markS_length, d0, d1, ml0, ml1, ml2, eg, dm, eo, dk, ett, ell]
  refine CallTo.det (c_laws_eqBlockTree _ _ _ _ _ _ g0 g0 hgz hgz) fun _ => ?_
  simp (config := { maxSteps := 4000000 }) only [go_sem, simprocAttr, ↓dnA, Tryz.f16, encT, encTO, encTF, List.nodup_cons, rows_length, markS_length, d0, d1, ml0, ml1, ml2, eg, dm, eo, dk, ett, ell]
  refine CallMTo.of (c_laws_markBlockTree false false false g0 _ hgz ⟨by omega, by omega⟩) ?_
  rintro r ls' ⟨rfl, rfl⟩
  simp (config := { maxSteps := 4000000 }) only [go_sem, simprocAttr, ↓dnA, Tryz.f16, encT, encTO, encTF, List.nodup_cons, rows_length, markS_length, d0, d1, ml0, ml1, ml2, eg, dm, eo, dk, ett, ell]
  refine CallTo.det (c_laws_heldBlockTree _ _ _ g0 1 hgz ⟨by omega, by omega⟩) fun _ => ?_
  simp (config := { maxSteps := 4000000 }) only [go_sem, simprocAttr, ↓dnA, Tryz.f16, encT, encTO, encTF, List.nodup_cons, rows_length, markS_length, d0, d1, ml0, ml1, ml2, eg, dm, eo, dk, ett, ell]
  refine CallTo.det (c_laws_toBlockTree n00 n01 n02 t hst) fun _ => ?_
  simp (config := { maxSteps := 4000000 }) only [go_sem, simprocAttr, ↓dnA, Tryz.f16, encT, encTO, encTF, List.nodup_cons, rows_length, markS_length, d0, d1, ml0, ml1, ml2, eg, dm, eo, dk, ett, ell]
  refine CallTo.det (c_laws_toActionS n30 l (by omega)) fun _ => ?_
  simp (config := { maxSteps := 4000000 }) only [go_sem, simprocAttr, ↓dnA, Tryz.f16, encT, encTO, encTF, List.nodup_cons, rows_length, markS_length, d0, d1, ml0, ml1, ml2, eg, dm, eo, dk, ett, ell]
  refine CallTo.det hN fun _ => ?_
  simp (config := { maxSteps := 4000000 }) only [go_sem, simprocAttr, ↓dnA, Tryz.f16, encT, encTO, encTF, List.nodup_cons, rows_length, markS_length, d0, d1, ml0, ml1, ml2, eg, dm, eo, dk, ett, ell]
  refine CallTo.det (c_laws_eqBlockTree _ _ _ _ _ _ g0 g0 hgz hgz) fun _ => ?_
  simp (config := { maxSteps := 4000000 }) only [go_sem, simprocAttr, ↓dnA, Tryz.f16, encT, encTO, encTF, List.nodup_cons, rows_length, markS_length, d0, d1, ml0, ml1, ml2, eg, dm, eo, dk, ett, ell]
  refine CallTo.det (c_laws_heldBlockTree _ _ _ g0 1 hgz ⟨by omega, by omega⟩) fun _ => ?_
  simp (config := { maxSteps := 4000000 }) only [go_sem, simprocAttr, ↓dnA, Tryz.f16, encT, encTO, encTF, List.nodup_cons, rows_length, markS_length, d0, d1, ml0, ml1, ml2, eg, dm, eo, dk, ett, ell]

end Go.Proofs.YtmibclbinebnjaaGreat

/- The closed facts of the row of FnExactGrowTree. -/
namespace Go.Proofs.YtmibclbinebnjaaGreat
open Go Go.ChangeShapes Go.WideShapes Go.ChangeAt Go.RowKit

theorem fnExactGrowTree_named : Tryz.pinned.checked.prog.funcNamed Rows.fnExactGrowTreeRow.func = some 16 := by kernel_rfl
theorem fnExactGrowTree_inst : Tryz.f16.isInstance Tryz.pinned.checked.prog Rows.fnExactGrowTreeRow.origin Rows.fnExactGrowTreeRow.targs := of_decide_eq_true (by kernel_rfl)
theorem fnExactGrowTree_wrap : Tryz.f16.isWrapper Tryz.pinned.checked.prog Rows.fnExactGrowTreeRow.wrapper Rows.fnExactGrowTreeRow.mainSum := by
  unfold Func.isWrapper; first | (rw [if_pos (by decide +kernel)]; kernel_rfl) | (rw [if_neg (by decide +kernel)]; exact ⟨rfl, rfl⟩)
set_option maxRecDepth 100000 in
set_option maxHeartbeats 4000000 in
theorem fnExactGrowTree_closed : joinedFacts Tryz.pinned.checked.prog 16 Tryz.f16 Rows.fnExactGrowTreeSpec Rows.fnExactGrowTreeRow = true := by
  unfold joinedFacts
  simp only [Bool.and_eq_true]
  repeat' apply And.intro
  all_goals first
    | with_reducible exact c_enter
    | (rw [c_final]; as_aux_lemma => kernel_rfl)
    | (rw [c_make]; as_aux_lemma => kernel_rfl)
    | (as_aux_lemma => kernel_rfl)

end Go.Proofs.YtmibclbinebnjaaGreat

