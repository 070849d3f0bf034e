/- FnExactWorldGrow (part 1): W76, W92, C92 -/
import Derived.Test.YtmibclbinebnjaaGreatRows
import Derived.ProofKit
import Derived.Test.YtmibclbinebnjaaGreatU2

set_option linter.unusedSimpArgs false
set_option linter.unusedVariables false

/- Contracts: worlds that grow. -/
set_option linter.unusedSimpArgs false
set_option linter.unusedVariables false
set_option maxRecDepth 20000
set_option maxHeartbeats 4000000
namespace Go.Proofs.YtmibclbinebnjaaGreat
open Go Go.RowKit

noncomputable def worldGrow (w : Wld) (n v : Int) (l : List Action) : Wld × Bool :=
  if worldValid w then (if (growTree w.tree n v l).2 then (⟨(growTree w.tree n v l).1, w.voters, w.votes ++ [0]⟩, true) else (w, false)) else (noW, false)

theorem worldGrow_wsz (w : Wld) (n v : Int) (l : List Action) : wsz (worldGrow w n v l).1 ≤ wsz w + l.length + 3 := by
  unfold worldGrow
  split
  · split
    · have := growTree_tsz w.tree n v l
      unfold wsz; simp; omega
    · show wsz w ≤ _; omega
  · unfold noW wsz tsz; simp [lsum]

theorem c_impl_WorldGrow (n1 n2 n3 n4 n5 n6 : Option Bool) (w : Wld) (n v : Int) (l : List Action) (hx : WldSz w) (hl : l.length < 2 ^ 32) :
    Det Tryz.prog 88 [.agg (encW n1 n2 n3 n4 n5 w), .int .i64 n, .int .i64 v, .sl n6 (rows encA l)] (.tup [.agg (encWF (worldGrow w n v l).1), .bool (worldGrow w n v l).2]) := by
  refine fspec_det tab_ok Tryz.call88 Tryz.func88 rfl 40 Tryz.ntmps88 (of_decide_eq_true rfl) fun B => codeK_sound tab_ok _ _ _ ?_
  unfold worldGrow
  simp (config := { maxSteps := 4000000 }) only [go_sem, simprocAttr, ↓dnA, Tryz.f88, rows_length, encW]
  refine CallTo.det (c_impl_WorldValid n1 n2 n3 n4 n5 w hx) fun _ => ?_
  cases h0 : worldValid w with
  | false => simp (config := { maxSteps := 4000000 }) only [go_sem, simprocAttr, ↓dnA, Tryz.f88, rows_length, encW, h0, encWF, noW, rows_nil]
  | true =>
    have hs := worldOk_s32 h0
    obtain ⟨ht, h4, hvo, hvl, hvs⟩ := worldValid_parts h0
    have hlen := ht.len
    simp (config := { maxSteps := 4000000 }) only [go_sem, simprocAttr, ↓dnA, Tryz.f88, rows_length, encW, h0]
    refine CallTo.det (c_impl_World_clone n1 n2 n3 n4 n5 w hs.tree hs.voters hs.votes) fun _ => ?_
    simp (config := { maxSteps := 4000000 }) only [go_sem, simprocAttr, ↓dnA, Tryz.f88, rows_length, encW, h0, encWF]
    refine CallTo.det (c_impl_GrowTree n6 n1 n2 n3 w.tree n v l hs.tree hl) fun _ => ?_
    have hgo := growTree_ok ht n v l
    generalize growTree w.tree n v l = g at hgo
    obtain ⟨g, ok⟩ := g
    dsimp only at hgo ⊢
    cases ok with
    | false => simp (config := { maxSteps := 4000000 }) only [go_sem, simprocAttr, ↓dnA, Tryz.f88, rows_length, encW, h0, encWF, encTF]
    | true =>
      have hgs := tb_s32 hgo
      have tk2 : (rows encI w.votes).take w.votes.length = rows encI w.votes := by rw [List.take_of_length_le]; rw [rows_length]; omega
      have e2 : rows encI w.votes ++ [[AV.int IntKind.i64 0]] = rows encI (w.votes ++ [0]) := by
        rw [← rows_snoc]; rfl
      have l2 : (w.votes ++ [(0 : Int)]).length = w.votes.length + 1 := by simp
      have hc := c_impl_World_clone none none none none (some true) ⟨g, w.voters, w.votes ++ [0]⟩ hgs hs.voters (by show (w.votes ++ [(0 : Int)]).length < _; rw [l2]; omega)
      have hf : encWF ⟨g, w.voters, w.votes ++ [0]⟩ = [.osl false 2 (rows encE g.base), .osl false 6 (rows encB1 g.blocks), .osl false 1 (rows encI g.before), .osl false 2 (rows encV w.voters), .osl false 1 (rows encI (w.votes ++ [0]))] := rfl
      simp (config := { maxSteps := 4000000 }) only [go_sem, simprocAttr, ↓dnA, Tryz.f88, rows_length, encW, h0, encWF, encTF, tk2, e2, l2]
      repeat refine And.intro (by first | omega | (simp; done) | (simp; omega) | assumption) ?_
      refine CallTo.det hc fun _ => ?_
      simp (config := { maxSteps := 4000000 }) only [go_sem, simprocAttr, ↓dnA, Tryz.f88, rows_length, encW, h0, hf, encWF, encTF, tk2, e2, l2]

theorem c_spec_WorldGrow (n1 n2 n3 n4 n5 n6 : Option Bool) (w : Wld) (n v : Int) (l : List Action) (hx : WldSz w) (hl : l.length < 2 ^ 32) :
    Det Tryz.prog 87 [.agg (encW n1 n2 n3 n4 n5 w), .int .i64 n, .int .i64 v, .sl n6 (rows encA l)] (.tup [.agg (encWF (worldGrow w n v l).1), .bool (worldGrow w n v l).2]) := by
  refine fspec_det tab_ok Tryz.call87 Tryz.func87 rfl 39 Tryz.ntmps87 (of_decide_eq_true rfl) fun B => codeK_sound tab_ok _ _ _ ?_
  unfold worldGrow
  simp (config := { maxSteps := 4000000 }) only [go_sem, simprocAttr, ↓dnA, Tryz.f87, rows_length, encW]
  refine CallTo.det (c_spec_WorldValid n1 n2 n3 n4 n5 w hx) fun _ => ?_
  cases h0 : worldValid w with
  | false => simp (config := { maxSteps := 4000000 }) only [go_sem, simprocAttr, ↓dnA, Tryz.f87, rows_length, encW, h0, encWF, noW, rows_nil]
  | true =>
    have hs := worldOk_s32 h0
    obtain ⟨ht, h4, hvo, hvl, hvs⟩ := worldValid_parts h0
    have hlen := ht.len
    simp (config := { maxSteps := 4000000 }) only [go_sem, simprocAttr, ↓dnA, Tryz.f87, rows_length, encW, h0]
    refine CallTo.det (c_spec_l18Copy n1 n2 n3 n4 n5 w hs.tree hs.voters hs.votes) fun _ => ?_
    simp (config := { maxSteps := 4000000 }) only [go_sem, simprocAttr, ↓dnA, Tryz.f87, rows_length, encW, h0, encWF]
    refine CallTo.det (c_spec_GrowTree n1 n2 n3 n6 w.tree n v l hs.tree hl) fun _ => ?_
    have hgo := growTree_ok ht n v l
    generalize growTree w.tree n v l = g at hgo
    obtain ⟨g, ok⟩ := g
    dsimp only at hgo ⊢
    cases ok with
    | false => simp (config := { maxSteps := 4000000 }) only [go_sem, simprocAttr, ↓dnA, Tryz.f87, rows_length, encW, h0, encWF, encTF]
    | true =>
      have hgs := tb_s32 hgo
      have tk2 : (rows encI w.votes).take w.votes.length = rows encI w.votes := by rw [List.take_of_length_le]; rw [rows_length]; omega
      have e2 : rows encI w.votes ++ [[AV.int IntKind.i64 0]] = rows encI (w.votes ++ [0]) := by
        rw [← rows_snoc]; rfl
      have l2 : (w.votes ++ [(0 : Int)]).length = w.votes.length + 1 := by simp
      simp (config := { maxSteps := 4000000 }) only [go_sem, simprocAttr, ↓dnA, Tryz.f87, rows_length, encW, h0, encWF, encTF, tk2, e2, l2]
      repeat refine And.intro (by first | omega | (simp; done) | (simp; omega) | assumption) ?_
      omega

end Go.Proofs.YtmibclbinebnjaaGreat

/- Contracts: FnExactWorldGrow. -/
set_option linter.unusedSimpArgs false
set_option linter.unusedVariables false
set_option maxRecDepth 20000
set_option maxHeartbeats 4000000
namespace Go.Proofs.YtmibclbinebnjaaGreat
open Go Go.RowKit

theorem c_laws_FnExactWorldGrow (n00 n01 n02 n03 n04 n30 : Option Bool) (w : Wld) (n : Int) (v : Int) (l : List Action) (hw : WldLen w) (hl : l.length ≤ 9223372036854775807) :
    Det Tryz.prog 19 [.agg (encW n00 n01 n02 n03 n04 w), .int .i64 n, .int .i64 v, .sl n30 (rows encA l)] (.bool true) := by
  refine fspec_det tab_ok Tryz.call19 Tryz.func19 rfl 129 Tryz.ntmps19 (of_decide_eq_true rfl) fun B => codeK_sound tab_ok _ _ _ ?_
  have hle0 : (0 : Int) ≤ 1048576 ∧ (1048576 : Int) ≤ 1048576 := by omega
  obtain ⟨r0, hr0, hr0b, hT0, hE0⟩ := c_laws_szWorld n00 n01 n02 n03 n04 w 1048576 hw hle0
  simp (config := { maxSteps := 4000000 }) only [go_sem, simprocAttr, ↓dnA, Tryz.f19, encW, encWO, encWF, encT, encTO, List.nodup_cons, rows_length, markS_length]
  refine CallTo.det hr0 fun _ => ?_
  cases d0 : decide (r0 < 0) with
  | true => simp (config := { maxSteps := 4000000 }) only [go_sem, simprocAttr, ↓dnA, Tryz.f19, encW, encWO, encWF, encT, encTO, List.nodup_cons, rows_length, markS_length, d0]
  | false =>
  have d0' := of_decide_eq_false d0
  have hsw := hT0 (by omega)
  have hle1 : 0 ≤ r0 ∧ r0 ≤ 1048576 := by omega
  have hmw := stW_small hsw
  have hr1b := szI_bd (left := r0) (n := l.length) hle1.2
  simp (config := { maxSteps := 4000000 }) only [go_sem, simprocAttr, ↓dnA, Tryz.f19, encW, encWO, encWF, encT, encTO, List.nodup_cons, rows_length, markS_length, d0]
  refine CallTo.det (c_laws_szActionS n30 l _ hl hle1) fun _ => ?_
  cases d1 : decide (szI r0 l.length < 0) with
  | true => simp (config := { maxSteps := 4000000 }) only [go_sem, simprocAttr, ↓dnA, Tryz.f19, encW, encWO, encWF, encT, encTO, List.nodup_cons, rows_length, markS_length, d0, d1]
  | false =>
  have d1' := of_decide_eq_false d1
  have hle2 : 0 ≤ szI r0 l.length ∧ szI r0 l.length ≤ 1048576 := by omega
  have ql : l.length ≤ 1048576 := by have := hr1b.2 (by omega); omega
  have el := stepS_const stA 4 (fun _ => rfl) l
  have hgt : wsz (worldGrow w n v l).1 ≤ 4194304 := by have := worldGrow_wsz w n v l; have := hsw.sum; omega
  have hS := c_spec_WorldGrow (some true) (some true) (some true) (some true) (some true) (some true) w n v l hsw.sz (by omega)
  have hN := c_impl_WorldGrow (some true) (some true) (some true) (some true) (some true) (some true) w n v l hsw.sz (by omega)
  generalize worldGrow w n v l = g0 at hS hN hgt
  obtain ⟨g0, g1⟩ := g0
  dsimp only at hS hN hgt
  have hgz := wsz_sz hgt (by omega)
  have hgm := stW_le g0
  have ml0 : (mkW g0 1).tree.base.length = g0.tree.base.length := markS_length ..
  have ml1 : (mkW g0 1).tree.blocks.length = g0.tree.blocks.length := markS_length ..
  have ml2 : (mkW g0 1).tree.before.length = g0.tree.before.length := markS_length ..
  have ml3 : (mkW g0 1).voters.length = g0.voters.length := markS_length ..
  have ml4 : (mkW g0 1).votes.length = g0.votes.length := markS_length ..
  have eg : decide (g0 = g0) = true := by simp
  have dm : decide (1 + (stW g0 : Int) < 0) = false := by simp; omega
  have eo : (g1 != g1) = false := by simp
  have dk : decide (1 + (stW w : Int) + (stepS stA l : Int) < 0) = false := by simp; omega
  have eww : decide (w = w) = true := by simp
  have ell : decide (l = l) = true := by simp
  simp (config := { maxSteps := 4000000 }) only [go_sem, simprocAttr, ↓dnA, Tryz.f19, encW, encWO, encWF, encT, encTO, List.nodup_cons, rows_length, markS_length, d0, d1, ml0, ml1, ml2, ml3, ml4, eg, dm, eo, dk, eww, ell]
  refine CallTo.det (c_laws_toWorld n00 n01 n02 n03 n04 w hsw) fun _ => ?_
  simp (config := { maxSteps := 4000000 }) only [go_sem, simprocAttr, ↓dnA, Tryz.f19, encW, encWO, encWF, encT, encTO, List.nodup_cons, rows_length, markS_length, d0, d1, ml0, ml1, ml2, ml3, ml4, eg, dm, eo, dk, eww, ell]
  refine CallTo.det (c_laws_toActionS n30 l (by omega)) fun _ => ?_
  simp (config := { maxSteps := 4000000 }) only [go_sem, simprocAttr, ↓dnA, Tryz.f19, encW, encWO, encWF, encT, encTO, List.nodup_cons, rows_length, markS_length, d0, d1, ml0, ml1, ml2, ml3, ml4, eg, dm, eo, dk, eww, ell]
  refine CallTo.det hS fun _ => ?_
  simp (config := { maxSteps := 4000000 }) only [go_sem, simprocAttr, ↓dnA, Tryz.f19, encW, encWO, encWF, encT, encTO, List.nodup_cons, rows_length, markS_length, d0, d1, ml0, ml1, ml2, ml3, ml4, eg, dm, eo, dk, eww, ell]
  refine CallTo.det (c_laws_toWorld n00 n01 n02 n03 n04 w hsw) fun _ => ?_
  simp (config := { maxSteps := 4000000 }) only [go_sem, simprocAttr, ↓dnA, Tryz.f19, encW, encWO, encWF, encT, encTO, List.nodup_cons, rows_length, markS_length, d0, d1, ml0, ml1, ml2, ml3, ml4, eg, dm, eo, dk, eww, ell]
  refine CallTo.det (c_laws_toActionS n30 l (by omega)) fun _ => ?_
  simp (config := { maxSteps := 4000000 }) only [go_sem, simprocAttr, ↓dnA, Tryz.f19, encW, encWO, encWF, encT, encTO, List.nodup_cons, rows_length, markS_length, d0, d1, ml0, ml1, ml2, ml3, ml4, eg, dm, eo, dk, eww, ell]
  refine CallTo.det hN fun _ => ?_
  simp (config := { maxSteps := 4000000 }) only [go_sem, simprocAttr, ↓dnA, Tryz.f19, encW, encWO, encWF, encT, encTO, List.nodup_cons, rows_length, markS_length, d0, d1, ml0, ml1, ml2, ml3, ml4, eg, dm, eo, dk, eww, ell]
  refine CallTo.det (c_laws_eqWorld _ _ _ _ _ _ _ _ _ _ g0 g0 hgz hgz) fun _ => ?_
  simp (config := { maxSteps := 4000000 }) only [go_sem, simprocAttr, ↓dnA, Tryz.f19, encW, encWO, encWF, encT, encTO, List.nodup_cons, rows_length, markS_length, d0, d1, ml0, ml1, ml2, ml3, ml4, eg, dm, eo, dk, eww, ell]
  refine semL_draw tab_ok mixed_ rfl (ord := [(0, []), (1, []), (2, [0]), (3, []), (4, [])]) (by dsimp only; decide +kernel) ?_
  simp (config := { maxSteps := 4000000 }) only [go_sem, simprocAttr, ↓dnA, Tryz.f19, encW, encWO, encWF, encT, encTO, List.nodup_cons, rows_length, markS_length, d0, d1, ml0, ml1, ml2, ml3, ml4, eg, dm, eo, dk, eww, ell]
  refine CallTo.det (c_laws_toWorld n00 n01 n02 n03 n04 w hsw) fun _ => ?_
  simp (config := { maxSteps := 4000000 }) only [go_sem, simprocAttr, ↓dnA, Tryz.f19, encW, encWO, encWF, encT, encTO, List.nodup_cons, rows_length, markS_length, d0, d1, ml0, ml1, ml2, ml3, ml4, eg, dm, eo, dk, eww, ell]
  refine CallTo.det (c_laws_eqWorld _ _ _ _ _ _ _ _ _ _ w w hsw.sz hsw.sz) fun _ => ?_
  simp (config := { maxSteps := 4000000 }) only [go_sem, simprocAttr, ↓dnA, Tryz.f19, encW, encWO, encWF, encT, encTO, List.nodup_cons, rows_length, markS_length, d0, d1, ml0, ml1, ml2, ml3, ml4, eg, dm, eo, dk, eww, ell]
  refine CallTo.det (c_laws_toActionS n30 l (by omega)) fun _ => ?_
  simp (config := { maxSteps := 4000000 }) only [go_sem, simprocAttr, ↓dnA, Tryz.f19, encW, encWO, encWF, encT, encTO, List.nodup_cons, rows_length, markS_length, d0, d1, ml0, ml1, ml2, ml3, ml4, eg, dm, eo, dk, eww, ell]
  refine CallTo.det (c_laws_eqActionS _ _ l l (by omega) (by omega)) fun _ => ?_
  simp (config := { maxSteps := 4000000 }) only [go_sem, simprocAttr, ↓dnA, Tryz.f19, encW, encWO, encWF, encT, encTO, List.nodup_cons, rows_length, markS_length, d0, d1, ml0, ml1, ml2, ml3, ml4, eg, dm, eo, dk, eww, ell]
  refine CallMTo.of (c_laws_markWorld true true true true true w _ hsw.sz ⟨by omega, by omega⟩) ?_
  rintro r ls' ⟨rfl, rfl⟩
  simp (config := { maxSteps := 4000000 }) only [go_sem, simprocAttr, ↓dnA, Tryz.f19, encW, encWO, encWF, encT, encTO, List.nodup_cons, rows_length, markS_length, d0, d1, ml0, ml1, ml2, ml3, ml4, eg, dm, eo, dk, eww, ell]
  refine CallMTo.of (c_laws_markActionS true 4 l _ (.inr rfl) (by omega) ⟨by omega, by omega⟩) ?_
  rintro r ls' ⟨rfl, rfl⟩
  simp (config := { maxSteps := 4000000 }) only [go_sem, simprocAttr, ↓dnA, Tryz.f19, encW, encWO, encWF, encT, encTO, List.nodup_cons, rows_length, markS_length, d0, d1, ml0, ml1, ml2, ml3, ml4, eg, dm, eo, dk, eww, ell]
  refine CallTo.det (c_laws_eqWorld _ _ _ _ _ _ _ _ _ _ g0 g0 hgz hgz) fun _ => ?_
  simp (config := { maxSteps := 4000000 }) only [go_sem, simprocAttr, ↓dnA, Tryz.f19, encW, encWO, encWF, encT, encTO, List.nodup_cons, rows_length, markS_length, d0, d1, ml0, ml1, ml2, ml3, ml4, eg, dm, eo, dk, eww, ell]
  refine CallMTo.of (c_laws_markWorld false false false false false g0 _ hgz ⟨by omega, by omega⟩) ?_
  rintro r ls' ⟨rfl, rfl⟩
  simp (config := { maxSteps := 4000000 }) only [go_sem, simprocAttr, ↓dnA, Tryz.f19, encW, encWO, encWF, encT, encTO, List.nodup_cons, rows_length, markS_length, d0, d1, ml0, ml1, ml2, ml3, ml4, eg, dm, eo, dk, eww, ell]
  refine CallTo.det (c_laws_heldWorld _ _ _ _ _ g0 1 hgz ⟨by omega, by omega⟩) fun _ => ?_
  simp (config := { maxSteps := 4000000 }) only [go_sem, simprocAttr, ↓dnA, Tryz.f19, encW, encWO, encWF, encT, encTO, List.nodup_cons, rows_length, markS_length, d0, d1, ml0, ml1, ml2, ml3, ml4, eg, dm, eo, dk, eww, ell]
  refine CallTo.det (c_laws_toWorld n00 n01 n02 n03 n04 w hsw) fun _ => ?_
  simp (config := { maxSteps := 4000000 }) only [go_sem, simprocAttr, ↓dnA, Tryz.f19, encW, encWO, encWF, encT, encTO, List.nodup_cons, rows_length, markS_length, d0, d1, ml0, ml1, ml2, ml3, ml4, eg, dm, eo, dk, eww, ell]
  refine CallTo.det (c_laws_toActionS n30 l (by omega)) fun _ => ?_
  simp (config := { maxSteps := 4000000 }) only [go_sem, simprocAttr, ↓dnA, Tryz.f19, encW, encWO, encWF, encT, encTO, List.nodup_cons, rows_length, markS_length, d0, d1, ml0, ml1, ml2, ml3, ml4, eg, dm, eo, dk, eww, ell]
  refine CallTo.det hN fun _ => ?_
  simp (config := { maxSteps := 4000000 }) only [go_sem, simprocAttr, ↓dnA, Tryz.f19, encW, encWO, encWF, encT, encTO, List.nodup_cons, rows_length, markS_length, d0, d1, ml0, ml1, ml2, ml3, ml4, eg, dm, eo, dk, eww, ell]
  refine CallTo.det (c_laws_eqWorld _ _ _ _ _ _ _ _ _ _ g0 g0 hgz hgz) fun _ => ?_
  simp (config := { maxSteps := 4000000 }) only [go_sem, simprocAttr, ↓dnA, Tryz.f19, encW, encWO, encWF, encT, encTO, List.nodup_cons, rows_length, markS_length, d0, d1, ml0, ml1, ml2, ml3, ml4, eg, dm, eo, dk, eww, ell]
  refine CallTo.det (c_laws_heldWorld _ _ _ _ _ g0 1 hgz ⟨by omega, by omega⟩) fun _ => ?_
  simp (config := { maxSteps := 4000000 }) only [go_sem, simprocAttr, ↓dnA, Tryz.f19, encW, encWO, encWF, encT, encTO, List.nodup_cons, rows_length, markS_length, d0, d1, ml0, ml1, ml2, ml3, ml4, eg, dm, eo, dk, eww, ell]

end Go.Proofs.YtmibclbinebnjaaGreat

/- The closed facts of the row of FnExactWorldGrow. -/
namespace Go.Proofs.YtmibclbinebnjaaGreat
open Go Go.ChangeShapes Go.WideShapes Go.ChangeAt Go.RowKit

theorem fnExactWorldGrow_named : Tryz.pinned.checked.prog.funcNamed Rows.fnExactWorldGrowRow.func = some 19 := by kernel_rfl
theorem fnExactWorldGrow_inst : Tryz.f19.isInstance Tryz.pinned.checked.prog Rows.fnExactWorldGrowRow.origin Rows.fnExactWorldGrowRow.targs := of_decide_eq_true (by kernel_rfl)
theorem fnExactWorldGrow_wrap : Tryz.f19.isWrapper Tryz.pinned.checked.prog Rows.fnExactWorldGrowRow.wrapper Rows.fnExactWorldGrowRow.mainSum := by
  unfold Func.isWrapper; first | (rw [if_pos (by decide +kernel)]; kernel_rfl) | (rw [if_neg (by decide +kernel)]; exact ⟨rfl, rfl⟩)
set_option maxRecDepth 100000 in
set_option maxHeartbeats 4000000 in
theorem fnExactWorldGrow_closed : joinedFacts Tryz.pinned.checked.prog 19 Tryz.f19 Rows.fnExactWorldGrowSpec Rows.fnExactWorldGrowRow = true := by
  unfold joinedFacts
  simp only [Bool.and_eq_true]
  repeat' apply And.intro
  all_goals first
    | with_reducible exact c_enter
    | (rw [c_final]; as_aux_lemma => kernel_rfl)
    | (rw [c_make]; as_aux_lemma => kernel_rfl)
    | (as_aux_lemma => kernel_rfl)

end Go.Proofs.YtmibclbinebnjaaGreat

