/- Shared texts I (part 6): W102, W106, W107, W116, W117, W69, W111, W115, W27, W30, W31, W67, W70, W74, W77, W78, W79, W113, W72, W80, W73, W98, W65, W105, W110, W125, W76, W121, W129, W120, W104, W128, W75, W101, W122, W123 -/
import Derived.Test.YthcfafpjkbbaoaaGreatI5

set_option linter.unusedSimpArgs false
set_option linter.unusedVariables false

/- Contracts: drawn trees in a line. -/
set_option linter.unusedSimpArgs false
set_option linter.unusedVariables false
set_option maxRecDepth 20000
set_option maxHeartbeats 4000000
namespace Go.Proofs.YthcfafpjkbbaoaaGreat
open Go Go.RowKit

theorem putValue_valid {s : List Entry} (h : storeValid s = true) (k x : Int) : storeValid (putValue s k x).1 = true := by
  unfold putValue
  rw [if_pos h]
  split
  · rename_i hb
    rw [Bool.and_eq_true] at hb
    exact (putD_ok (inB_iff.1 hb.1) (inB_iff.1 hb.2) h).1
  · exact h

theorem c_spec_odd0 (nb : Option Bool) (bs : List Int) (p : Int) (h : RdOk bs p) : FSpec Tryz.prog 105 [.loc 0 0, .int .i64 0] true (rd nb bs p) (fun r b => r = .bool false ∧ b = rd nb bs p) := by
  refine fspec_rel tab_ok Tryz.call105 Tryz.func105 rfl 15 Tryz.ntmps105 (of_decide_eq_true rfl) fun B => codeK_sound tab_ok _ _ _ ?_
  unfold rd
  simp (config := { maxSteps := 4000000 }) only [go_sem, simprocAttr, ↓dnA, Tryz.f105]
  exact .same ⟨rfl, rfl⟩

def StoreVQ (nb : Option Bool) (bs : List Int) (p : Int) (r : AV) (b : List AV) : Prop := ∃ (xs : List Entry) (q : Int), r = .osl true 2 (rows encE xs) ∧ b = rd nb bs q ∧ p ≤ q ∧ q ≤ p + 200 ∧ storeValid xs = true

theorem c_spec_l20Store0 (nb : Option Bool) (bs : List Int) (p : Int) (h : RdOk bs p) (hp : p ≤ 999990000) : FSpec Tryz.prog 132 [.loc 0 0, .int .i64 0] true (rd nb bs p) (StoreVQ nb bs p) := by
  refine fspec_rel tab_ok Tryz.call132 Tryz.func132 rfl 57 Tryz.ntmps132 (of_decide_eq_true rfl) fun B => codeK_sound tab_ok _ _ _ ?_
  unfold rd
  simp (config := { maxSteps := 4000000 }) only [go_sem, simprocAttr, ↓dnA, Tryz.f132, rows_length, wr0, wr1, wr2, wr3, tn0, tn1, tn2, tn3]
  refine CallTo.of (c_spec_pick nb bs p 7 h) ?_
  rintro r b ⟨x, rfl, rfl, hx⟩
  unfold rd
  simp (config := { maxSteps := 4000000 }) only [go_sem, simprocAttr, ↓dnA, Tryz.f132, rows_length, wr0, wr1, wr2, wr3, tn0, tn1, tn2, tn3]
  obtain ⟨c0, rfl⟩ : ∃ c0 : Nat, x = (c0 : Int) := ⟨x.toNat, by omega⟩
  refine semL_for tab_ok (fun s : List Entry × Nat × Int => ⟨57, [(0, .loc 900 0), (1, .int .i64 0), (5, .row 600 s.1.length), (6, .int .i64 s.2.1)], [(900, .var (rd nb bs s.2.2)), (600, .row true true 2 (rows encE s.1))]⟩) (fun s => s.2.1)
    (fun s => storeValid s.1 = true ∧ p ≤ s.2.2 ∧ s.2.2 + 6 * s.2.1 ≤ p + 91) ([], c0, p + 1) [(900, 900), (7, 600)] (Weak.of (by rfl) ?_ ?_ (by rfl)) ⟨(show storeValid [] = true by decide), by dsimp only; omega, by dsimp only; omega⟩ ?_
  · simp (config := { maxSteps := 4000000 }) only [go_sem, simprocAttr, ↓dnA, Tryz.f132, rows_length, wr0, wr1, wr2, wr3, tn0, tn1, tn2, tn3, rd, frW, wk2, wk1, wkL, wkB, hpW, List.mem_cons, Prod.mk.injEq, exists_eq_left, exists_eq_right, exists_eq]
    try rfl
  · simp (config := { maxSteps := 4000000 }) only [go_sem, simprocAttr, ↓dnA, Tryz.f132, rows_length, wr0, wr1, wr2, wr3, tn0, tn1, tn2, tn3, rd, frW, wk2, wk1, wkL, wkB, hpW, List.mem_cons, Prod.mk.injEq, exists_eq_left, exists_eq_right, exists_eq]
    try rfl
  · rintro ⟨xs, c, q⟩ ⟨i1, i2, i3⟩
    dsimp only at i1 i2 i3 ⊢
    have hq := h.step (q := q) (by omega) (by omega)
    have hxl := store_len i1
    have htk : (rows encE xs).take xs.length = rows encE xs := by rw [List.take_of_length_le]; rw [rows_length]; omega
    by_cases hc : 0 < c
    · have hd : decide ((c : Int) > 0) = true := by simp; omega
      have hw : IntKind.i64.wrap ((c : Int) - 1) = ((c - 1 : Nat) : Int) := by rw [wrap_small _ (by omega) (by omega)]; omega
      simp (config := { maxSteps := 4000000 }) only [go_sem, simprocAttr, ↓dnA, Tryz.f132, rows_length, wr0, wr1, wr2, wr3, tn0, tn1, tn2, tn3, rd, hd, hw, htk]
      refine CallTo.of (c_spec_l20Key nb bs q hq (by omega)) ?_
      rintro r b ⟨k, q', rfl, rfl, hq1, hq2, hk⟩
      have hq' := h.step (q := q') (by omega) (by omega)
      simp (config := { maxSteps := 4000000 }) only [go_sem, simprocAttr, ↓dnA, Tryz.f132, rows_length, wr0, wr1, wr2, wr3, tn0, tn1, tn2, tn3, rd, hd, hw, htk]
      refine CallTo.of (c_spec_l20Value nb bs q' hq' (by omega)) ?_
      rintro r b ⟨v, q2, rfl, rfl, hq3, hq4, hv⟩
      simp (config := { maxSteps := 4000000 }) only [go_sem, simprocAttr, ↓dnA, Tryz.f132, rows_length, wr0, wr1, wr2, wr3, tn0, tn1, tn2, tn3, rd, hd, hw, htk]
      have hpl := putValue_valid i1 k v
      refine CallTo.det (c_spec_PutValue _ xs k v (by omega)) fun _ => ?_
      generalize putValue xs k v = ys at hpl
      obtain ⟨ys, ok⟩ := ys
      dsimp only at hpl ⊢
      simp (config := { maxSteps := 4000000 }) only [go_sem, simprocAttr, ↓dnA, Tryz.f132, rows_length, wr0, wr1, wr2, wr3, tn0, tn1, tn2, tn3, rd, hd, hw, htk]
      refine ⟨(ys, c - 1, q2), [(900, 900), (21000, 600)], ⟨hpl, by dsimp only; omega, by dsimp only; omega⟩, by dsimp only; omega, Weak.of (by rfl) ?_ ?_ (by rfl)⟩
      · simp (config := { maxSteps := 4000000 }) only [go_sem, simprocAttr, ↓dnA, Tryz.f132, rows_length, wr0, wr1, wr2, wr3, tn0, tn1, tn2, tn3, rd, frW, wk2, wk1, wkL, wkB, hpW, List.mem_cons, Prod.mk.injEq, exists_eq_left, exists_eq_right, exists_eq]
      · simp (config := { maxSteps := 4000000 }) only [go_sem, simprocAttr, ↓dnA, Tryz.f132, rows_length, wr0, wr1, wr2, wr3, tn0, tn1, tn2, tn3, rd, frW, wk2, wk1, wkL, wkB, hpW, List.mem_cons, Prod.mk.injEq, exists_eq_left, exists_eq_right, exists_eq]
    · obtain rfl : c = 0 := by omega
      simp (config := { maxSteps := 4000000 }) only [go_sem, simprocAttr, ↓dnA, Tryz.f132, rows_length, wr0, wr1, wr2, wr3, tn0, tn1, tn2, tn3, rd, htk]
      refine CallTo.of (c_spec_odd0 nb bs q hq) ?_
      rintro r b ⟨rfl, rfl⟩
      unfold rd
      simp (config := { maxSteps := 4000000 }) only [go_sem, simprocAttr, ↓dnA, Tryz.f132, rows_length, wr0, wr1, wr2, wr3, tn0, tn1, tn2, tn3, htk]
      exact .same ⟨xs, q, rfl, rfl, by omega, by omega, i1⟩

theorem c_spec_FirstBlock0 (n1 : Option Bool) (s : List Entry) (hx : s.length < 2 ^ 62) : Det Tryz.prog 75 [.sl n1 (rows encE s)] (.agg (encBk0 (firstBlock s))) := by
  refine fspec_det tab_ok Tryz.call75 Tryz.func75 rfl 12 Tryz.ntmps75 (of_decide_eq_true rfl) fun B => codeK_sound tab_ok _ _ _ ?_
  simp (config := { maxSteps := 4000000 }) only [go_sem, simprocAttr, ↓dnA, Tryz.f75, rows_length]
  refine CallTo.det (c_spec_StoreValid _ _ hx) fun _ => ?_
  cases h : storeValid s with
  | false => simp (config := { maxSteps := 4000000 }) only [go_sem, simprocAttr, ↓dnA, Tryz.f75, rows_length, h, firstBlock, encBk0]
  | true =>
    simp (config := { maxSteps := 4000000 }) only [go_sem, simprocAttr, ↓dnA, Tryz.f75, rows_length, h]
    refine CallTo.det (c_spec_RootOf _ _ hx) fun _ => ?_
    simp (config := { maxSteps := 4000000 }) only [go_sem, simprocAttr, ↓dnA, Tryz.f75, rows_length, h]
    refine CallTo.det (c_spec_EffectsSum0 _) fun _ => ?_
    simp (config := { maxSteps := 4000000 }) only [go_sem, simprocAttr, ↓dnA, Tryz.f75, rows_length, h, firstBlock, encBk0]

theorem c_spec_TreeOf (n1 : Option Bool) (s : List Entry) (hs : storeValid s = true) : Det Tryz.prog 131 [.sl n1 (rows encE s)] (.agg (encTF (treeOf s))) := by
  refine fspec_det tab_ok Tryz.call131 Tryz.func131 rfl 15 Tryz.ntmps131 (of_decide_eq_true rfl) fun B => codeK_sound tab_ok _ _ _ ?_
  have hsl := store_len hs
  have b1 := all_rows encE AV.flat (fun _ => rfl) s
  have b2 := all_rows encE AV.one (fun _ => rfl) s
  have b3 := sz0_rows encE 2 (fun _ => rfl) s
  have ht : treeOf s = ⟨s, [firstBlock s], [-1]⟩ := by unfold treeOf; rw [if_pos hs]
  rw [ht]
  simp (config := { maxSteps := 4000000 }) only [go_sem, simprocAttr, ↓dnA, Tryz.f131, rows_length]
  refine CallTo.det (c_spec_StoreValid n1 s (by omega)) fun _ => ?_
  simp (config := { maxSteps := 4000000 }) only [go_sem, simprocAttr, ↓dnA, Tryz.f131, rows_length, hs]
  repeat refine And.intro (by first | omega | (simp; done) | (simp; omega) | assumption) ?_
  refine CallTo.det (c_spec_FirstBlock0 n1 s (by omega)) fun _ => ?_
  have hf : encBk none (firstBlock s) = [.int .i64 (firstBlock s).before, .int .i64 (firstBlock s).height, .int .i64 (firstBlock s).view, .sl none [], .int .i64 (firstBlock s).root, .int .i64 (firstBlock s).effects] := by
    unfold encBk
    rw [firstBlock_list]
    rfl
  simp (config := { maxSteps := 4000000 }) only [go_sem, simprocAttr, ↓dnA, Tryz.f131, rows_length, hs, encBk0]
  simp only [encTF, rows, List.map_cons, List.map_nil, encB1, hf, encI]
  simp [rwL, rwC]

def LineQ (nb : Option Bool) (bs : List Int) (p n : Int) (r : AV) (b : List AV) : Prop := ∃ (t : Tree) (q : Int), r = .agg (encTF t) ∧ b = rd nb bs q ∧ p ≤ q ∧ q ≤ p + 1000 ∧ tsz t ≤ 200 ∧ 1 ≤ t.blocks.length ∧ t.blocks.length ≤ 14 ∧ (n = 0 → TreeOk t)

theorem treeOk_small {t : Tree} (ht : TreeOk t) : tsz t ≤ 200 := by
  have h1 := store_len ht.store
  have h2 := ht.len
  have h3 := ht.bef
  have h4 := lsum_le t.blocks fun b hb => by
    obtain ⟨i, hi, rfl⟩ := List.getElem_of_mem hb
    rw [t.blk_get i hi]
    exact (blk_acts ht hi).2.1
  unfold tsz; omega

theorem c_spec_l20Line (nb : Option Bool) (bs : List Int) (p n : Int) (h : RdOk bs p) (hp : p ≤ 999980000) (hn : 0 ≤ n ∧ n ≤ 1000000) : FSpec Tryz.prog 103 [.loc 0 0, .int .i64 n] true (rd nb bs p) (LineQ nb bs p n) := by
  refine fspec_rel tab_ok Tryz.call103 Tryz.func103 rfl 63 Tryz.ntmps103 (of_decide_eq_true rfl) fun B => codeK_sound tab_ok _ _ _ ?_
  unfold rd
  simp (config := { maxSteps := 4000000 }) only [go_sem, simprocAttr, ↓dnA, Tryz.f103, rows_length]
  refine CallTo.of (c_spec_l20Store0 nb bs p h (by omega)) ?_
  rintro r b ⟨s, p1, rfl, rfl, hp1, hp2, hsv⟩
  unfold rd
  simp (config := { maxSteps := 4000000 }) only [go_sem, simprocAttr, ↓dnA, Tryz.f103, rows_length]
  refine CallTo.det (c_spec_TreeOf _ s hsv) fun _ => ?_
  have ht0 := treeOf_ok hsv
  generalize treeOf s = t0 at ht0
  have hr1 := h.step (q := p1) (by omega) (by omega)
  simp (config := { maxSteps := 4000000 }) only [go_sem, simprocAttr, ↓dnA, Tryz.f103, rows_length, encTF]
  refine CallTo.of (c_spec_pick nb bs p1 9 hr1) ?_
  rintro r b ⟨x, rfl, rfl, hx⟩
  unfold rd
  simp (config := { maxSteps := 4000000 }) only [go_sem, simprocAttr, ↓dnA, Tryz.f103, rows_length, encTF]
  obtain ⟨c0, rfl⟩ : ∃ c0 : Nat, x = (c0 : Int) := ⟨x.toNat, by omega⟩
  refine semL_for tab_ok (fun s : Tree × Nat × Int => ⟨63, [(0, .loc 900 0), (1, .int .i64 n), (4, .loc 4 0), (5, .loc 5 0), (6, .int .i64 s.2.1)],
      [(900, .var (rd nb bs s.2.2)), (4, .var [.sl (some false) [], .sl (some false) [], .sl (some false) []]), (5, .var [.row 601 s.1.base.length, .row 602 s.1.blocks.length, .row 603 s.1.before.length]),
        (601, .row true false 2 (rows encE s.1.base)), (602, .row true false 6 (rows encB1 s.1.blocks)), (603, .row true false 1 (rows encI s.1.before))]⟩) (fun s => s.2.1)
    (fun s => TreeOk s.1 ∧ p1 + 1 ≤ s.2.2 ∧ s.2.2 + 20 * s.2.1 ≤ p1 + 181) (t0, c0, p1 + 1) [(900, 900), (4, 4), (5, 5), (11000, 601), (11001, 602), (11002, 603)] (Weak.of (by rfl) ?_ ?_ (by rfl)) ⟨ht0, by dsimp only; omega, by dsimp only; omega⟩ ?_
  · simp (config := { maxSteps := 4000000 }) only [go_sem, simprocAttr, ↓dnA, Tryz.f103, rows_length, rd, encTF, frW, wk2, wk1, wkL, wkB, hpW, List.mem_cons, Prod.mk.injEq, exists_eq_left, exists_eq_right, exists_eq]
    try rfl
  · simp (config := { maxSteps := 4000000 }) only [go_sem, simprocAttr, ↓dnA, Tryz.f103, rows_length, rd, frW, wk2, wk1, wkL, wkB, hpW, List.mem_cons, Prod.mk.injEq, exists_eq_left, exists_eq_right, exists_eq]
    try rfl
  · rintro ⟨t, c, q⟩ ⟨ht, i2, i3⟩
    dsimp only at ht i2 i3 ⊢
    have hq := h.step (q := q) (by omega) (by omega)
    have hlen := ht.len
    have hbf := ht.bef
    by_cases hc : 0 < c
    · have hd : decide ((c : Int) > 0) = true := by simp; omega
      have hwc : IntKind.i64.wrap ((c : Int) - 1) = ((c - 1 : Nat) : Int) := by rw [wrap_small _ (by omega) (by omega)]; omega
      have hwl : IntKind.i64.wrap ((t.blocks.length : Int) - 1) = ((t.blocks.length - 1 : Nat) : Int) := by rw [wrap_small _ (by omega) (by omega)]; omega
      simp (config := { maxSteps := 4000000 }) only [go_sem, simprocAttr, ↓dnA, Tryz.f103, rows_length, encTF, rd, hd, hwl]
      refine CallTo.of (c_spec_pick nb bs q 5 hq) ?_
      rintro r b ⟨z, rfl, rfl, hz⟩
      have hq1 := h.step (q := q + 1) (by omega) (by omega)
      by_cases hz0 : z = 0
      · subst hz0
        have e0 : ((0 : Int) == 0) = true := rfl
        simp (config := { maxSteps := 4000000 }) only [go_sem, simprocAttr, ↓dnA, Tryz.f103, rows_length, encTF, rd, hd, hwl, e0]
        refine CallTo.of (c_spec_pick nb bs (q + 1) (t.blocks.length : Int) hq1) ?_
        rintro r b ⟨m, rfl, rfl, hm⟩
        have hq1' := h.step (q := q + 1 + 1) (by omega) (by omega)
        obtain ⟨k, rfl⟩ : ∃ k : Nat, m = (k : Int) := ⟨m.toNat, by omega⟩
        have hk : k < t.blocks.length := by omega
        have hbk : (rows encB1 t.blocks).getD k [] = encB1 (t.blk k) := rows_gd encB1 t.blocks k hk
        have hvb := (blockValid_bd (ht.valid k hk)).2.1
        have hv1 : IntKind.i64.wrap ((t.blk k).view + 1) = (t.blk k).view + 1 := wrap_small _ (by omega) (by omega)
        simp (config := { maxSteps := 4000000 }) only [go_sem, simprocAttr, ↓dnA, Tryz.f103, rows_length, encTF, rd, hd, hwl, e0]
        refine semL_draw tab_ok mixed_ rfl (ord := [(0, []), (1, []), (2, []), (3, []), (4, []), (5, []), (6, []), (7, []), (8, []), (9, []), (13, []), (10, [0, 1, 2, 3, 4, 5, 6, 7, 8, 13]), (11, []), (12, []), (14, [0, 1, 2, 3, 4, 5, 6, 7, 8, 11, 12]), (15, [0, 1, 2, 3, 4, 5, 6, 7, 8, 11, 12]), (16, []), (17, []), (18, []), (19, []), (20, [19])]) (by dsimp only; decide +kernel) ?_
        simp (config := { maxSteps := 4000000 }) only [go_sem, simprocAttr, ↓dnA, Tryz.f103, rows_length, encTF, rd, hd, hwl, e0, nlt hk, hk, nn0, hbk, encB1, encBk, hv1]
        refine CallTo.of (c_spec_pick nb bs (q + 1 + 1) 6 hq1') ?_
        rintro r b ⟨y, rfl, rfl, hy⟩
        have hq2 := h.step (q := (q + 1 + 1) + 1) (by omega) (by omega)
        have hyd : y.tdiv 5 = y / 5 := Int.tdiv_eq_ediv_of_nonneg hy.1
        have hv2 : IntKind.i64.wrap (y.tdiv 5) = y / 5 := by rw [hyd]; exact wrap_small _ (by omega) (by omega)
        have hv3 : IntKind.i64.wrap ((t.blk k).view + 1 + y / 5) = (t.blk k).view + 1 + y / 5 := wrap_small _ (by omega) (by omega)
        simp (config := { maxSteps := 4000000 }) only [go_sem, simprocAttr, ↓dnA, Tryz.f103, rows_length, encTF, rd, hd, hwl, e0, nlt hk, hk, nn0, hbk, encB1, encBk, hv1, hv2, hv3]
        refine CallTo.of (c_spec_l20Action nb bs ((q + 1 + 1) + 1) 0 hq2 (by omega) (by omega)) ?_
        rintro r b ⟨a, q', rfl, rfl, hq3, hq4⟩
        have hgo := growTree_ok ht (k : Int) ((t.blk k).view + 1 + y / 5) [a]
        have hG := c_spec_GrowTree none none none (some true) t (k : Int) ((t.blk k).view + 1 + y / 5) [a] (treeOk_s32 ht) (by simp)
        generalize growTree t (k : Int) ((t.blk k).view + 1 + y / 5) [a] = g at hgo hG
        obtain ⟨g, ok⟩ := g
        dsimp only at hgo hG
        simp (config := { maxSteps := 4000000 }) only [go_sem, simprocAttr, ↓dnA, Tryz.f103, rows_length, encTF, rd, hd, hwl, e0, nlt hk, hk, nn0, hbk, encB1, encBk, hv1, hv2, hv3, encA]
        refine CallTo.det hG fun _ => ?_
        simp (config := { maxSteps := 4000000 }) only [go_sem, simprocAttr, ↓dnA, Tryz.f103, rows_length, encTF, rd, hd, hwl, e0, nlt hk, hk, nn0, hbk, encB1, encBk, hv1, hv2, hv3, encA, hwc]
        refine ⟨(g, c - 1, q'), [(900, 900), (4, 4), (5, 5), (47000, 601), (47001, 602), (47002, 603)], ⟨hgo, by dsimp only; omega, by dsimp only; omega⟩, by dsimp only; omega, Weak.of (by rfl) ?_ ?_ (by rfl)⟩
        · simp (config := { maxSteps := 4000000 }) only [go_sem, simprocAttr, ↓dnA, Tryz.f103, rows_length, rd, encTF, frW, wk2, wk1, wkL, wkB, hpW, List.mem_cons, Prod.mk.injEq, exists_eq_left, exists_eq_right, exists_eq]
        · simp (config := { maxSteps := 4000000 }) only [go_sem, simprocAttr, ↓dnA, Tryz.f103, rows_length, rd, frW, wk2, wk1, wkL, wkB, hpW, List.mem_cons, Prod.mk.injEq, exists_eq_left, exists_eq_right, exists_eq]
      · have e0 : (z == 0) = false := by simp [hz0]
        obtain ⟨k, hkk⟩ : ∃ k : Nat, t.blocks.length - 1 = k := ⟨_, rfl⟩
        rw [hkk] at hwl
        have hk : k < t.blocks.length := by omega
        have hbk : (rows encB1 t.blocks).getD k [] = encB1 (t.blk k) := rows_gd encB1 t.blocks k hk
        have hvb := (blockValid_bd (ht.valid k hk)).2.1
        have hv1 : IntKind.i64.wrap ((t.blk k).view + 1) = (t.blk k).view + 1 := wrap_small _ (by omega) (by omega)
        simp (config := { maxSteps := 4000000 }) only [go_sem, simprocAttr, ↓dnA, Tryz.f103, rows_length, encTF, rd, hd, hwl, e0]
        refine semL_draw tab_ok mixed_ rfl (ord := [(0, []), (1, []), (2, []), (3, []), (4, []), (5, []), (6, []), (7, []), (8, []), (9, []), (13, []), (10, [0, 1, 2, 3, 4, 5, 6, 7, 8, 13]), (11, []), (12, []), (14, [0, 1, 2, 3, 4, 5, 6, 7, 8, 11, 12]), (15, [0, 1, 2, 3, 4, 5, 6, 7, 8, 11, 12]), (16, []), (17, []), (18, []), (19, []), (20, [19])]) (by dsimp only; decide +kernel) ?_
        simp (config := { maxSteps := 4000000 }) only [go_sem, simprocAttr, ↓dnA, Tryz.f103, rows_length, encTF, rd, hd, hwl, e0, nlt hk, hk, nn0, hbk, encB1, encBk, hv1]
        refine CallTo.of (c_spec_pick nb bs (q + 1) 6 hq1) ?_
        rintro r b ⟨y, rfl, rfl, hy⟩
        have hq2 := h.step (q := (q + 1) + 1) (by omega) (by omega)
        have hyd : y.tdiv 5 = y / 5 := Int.tdiv_eq_ediv_of_nonneg hy.1
        have hv2 : IntKind.i64.wrap (y.tdiv 5) = y / 5 := by rw [hyd]; exact wrap_small _ (by omega) (by omega)
        have hv3 : IntKind.i64.wrap ((t.blk k).view + 1 + y / 5) = (t.blk k).view + 1 + y / 5 := wrap_small _ (by omega) (by omega)
        simp (config := { maxSteps := 4000000 }) only [go_sem, simprocAttr, ↓dnA, Tryz.f103, rows_length, encTF, rd, hd, hwl, e0, nlt hk, hk, nn0, hbk, encB1, encBk, hv1, hv2, hv3]
        refine CallTo.of (c_spec_l20Action nb bs ((q + 1) + 1) 0 hq2 (by omega) (by omega)) ?_
        rintro r b ⟨a, q', rfl, rfl, hq3, hq4⟩
        have hgo := growTree_ok ht (k : Int) ((t.blk k).view + 1 + y / 5) [a]
        have hG := c_spec_GrowTree none none none (some true) t (k : Int) ((t.blk k).view + 1 + y / 5) [a] (treeOk_s32 ht) (by simp)
        generalize growTree t (k : Int) ((t.blk k).view + 1 + y / 5) [a] = g at hgo hG
        obtain ⟨g, ok⟩ := g
        dsimp only at hgo hG
        simp (config := { maxSteps := 4000000 }) only [go_sem, simprocAttr, ↓dnA, Tryz.f103, rows_length, encTF, rd, hd, hwl, e0, nlt hk, hk, nn0, hbk, encB1, encBk, hv1, hv2, hv3, encA]
        refine CallTo.det hG fun _ => ?_
        simp (config := { maxSteps := 4000000 }) only [go_sem, simprocAttr, ↓dnA, Tryz.f103, rows_length, encTF, rd, hd, hwl, e0, nlt hk, hk, nn0, hbk, encB1, encBk, hv1, hv2, hv3, encA, hwc]
        refine ⟨(g, c - 1, q'), [(900, 900), (4, 4), (5, 5), (47000, 601), (47001, 602), (47002, 603)], ⟨hgo, by dsimp only; omega, by dsimp only; omega⟩, by dsimp only; omega, Weak.of (by rfl) ?_ ?_ (by rfl)⟩
        · simp (config := { maxSteps := 4000000 }) only [go_sem, simprocAttr, ↓dnA, Tryz.f103, rows_length, rd, encTF, frW, wk2, wk1, wkL, wkB, hpW, List.mem_cons, Prod.mk.injEq, exists_eq_left, exists_eq_right, exists_eq]
        · simp (config := { maxSteps := 4000000 }) only [go_sem, simprocAttr, ↓dnA, Tryz.f103, rows_length, rd, frW, wk2, wk1, wkL, wkB, hpW, List.mem_cons, Prod.mk.injEq, exists_eq_left, exists_eq_right, exists_eq]
    · obtain rfl : c = 0 := by omega
      simp (config := { maxSteps := 4000000 }) only [go_sem, simprocAttr, ↓dnA, Tryz.f103, rows_length, encTF, rd]
      have hts := treeOk_small ht
      by_cases hn0 : n = 0
      · subst hn0
        refine CallTo.of (c_spec_odd0 nb bs q hq) ?_
        rintro r b ⟨rfl, rfl⟩
        simp (config := { maxSteps := 4000000 }) only [go_sem, simprocAttr, ↓dnA, Tryz.f103, rows_length, encTF, rd]
        exact .same ⟨t, q, rfl, rfl, by omega, by omega, hts, by omega, by omega, fun _ => ht⟩
      refine CallTo.of (c_spec_odd nb bs q n hq hn) ?_
      rintro r b ⟨g, q1, rfl, rfl, hq1, hq2⟩
      cases g with
      | false =>
        simp (config := { maxSteps := 4000000 }) only [go_sem, simprocAttr, ↓dnA, Tryz.f103, rows_length, encTF, rd]
        exact .same ⟨t, q1, rfl, rfl, by omega, by omega, hts, by omega, by omega, fun _ => ht⟩
      | true =>
        have hwb : IntKind.i64.wrap ((t.before.length : Int) - 1) = ((t.before.length - 1 : Nat) : Int) := by rw [wrap_small _ (by omega) (by omega)]; omega
        obtain ⟨k, hkk⟩ : ∃ k : Nat, t.before.length - 1 = k := ⟨_, rfl⟩
        rw [hkk] at hwb
        have hkb : k < t.before.length := by omega
        have hrs : (rows encI t.before).set k [.int .i64 (t.before.length : Int)] = rows encI (t.before.set k (t.before.length : Int)) := by rw [← rows_set]; rfl
        simp (config := { maxSteps := 4000000 }) only [go_sem, simprocAttr, ↓dnA, Tryz.f103, rows_length, encTF, rd, hwb, nlt hkb, hkb, nn0, rows_get _ _ _ hkb, encI, spliceL, List.length_set, hrs]
        exact .same ⟨⟨t.base, t.blocks, t.before.set k (t.before.length : Int)⟩, q1, by simp [encTF], rfl, by omega, by omega, by unfold tsz at hts ⊢; simp; omega, by dsimp only; omega, by dsimp only; omega, fun h => absurd h hn0⟩

end Go.Proofs.YthcfafpjkbbaoaaGreat

/- Regions with an operation that waits for none of several calls; pieces of code that lead to one of some states. -/
set_option linter.unusedSimpArgs false
set_option linter.unusedVariables false
set_option maxRecDepth 20000
set_option maxHeartbeats 4000000
namespace Go.Proofs.YthcfafpjkbbaoaaGreat
open Go Go.RowKit

section
variable {P : Program} {T : Tab} {B : Base} {ops : Array Oper}

def rkL (l : List Nat) (i : Nat) : Nat := l.getD i 0

/-- The region with the operation b at its place i beside the operations cs. -/
def slotsOk (T : Tab) (n : Nat) (b : Nat) : List Nat → Array Oper → List (List Nat × List (Nat × List Nat)) → Bool
  | [], ops, [o] => drawOkS (rkL o.1) T ops n o.2
  | c :: r, ops, o :: q => drawOkS (rkL o.1) T (addDep ops c b) n o.2 && slotsOk T n b r (addDep ops b c) q
  | _, _, _ => false
def slotsK (P : Program) (T : Tab) (ops : List Oper) (Φ : AState → Prop) (s : AState) : List (List Nat × List (Nat × List Nat)) → Prop
  | [] => True
  | o :: q => drawK P T ops Φ o.2 s ∧ slotsK P T ops Φ s q

theorem slots_run (hT : TabOk P T) {Kx : Exit → AState → Prop} {X : Ctx} {s : AState} {x : Act} {w : World} {n : Nat} (hn : s.nt = n) (hXB : X.base = B) (hR : R X s x w) (b : Nat) {l : List Nat} : ∀ (cs : List Nat) (ops : Array Oper) (os : List (List Nat × List (Nat × List Nat))),
    (cs.all fun c => b != c) = true → slotsOk T n b cs ops os = true → slotsK P T ops.toList (Kx .normal) s os → ValE ops (Array.replicate ops.size false) l →
    wpOps P ops (fun e a w => Post B (Kx e) a w) l x { w with drawn := w.drawn + 1 }
  | [], ops, [], _, h, _, _ => by cases h
  | [], ops, [o], _, h, hk, hv => by
    have e := draw_start (B := B) (Kx := Kx) hT hn (show drawOkS (rkL o.1) T ops n o.2 = true from h) hXB hR hk.1
    exact val_run _ _ _ _ _ hv e
  | [], ops, _ :: _ :: _, _, h, _, _ => by cases h
  | c :: r, ops, [], _, h, _, _ => by cases h
  | c :: r, ops, o :: q, hb, h, hk, hv => by
    have hb := hb
    rw [List.all_cons, Bool.and_eq_true] at hb
    have hbc : b ≠ c := by simpa using hb.1
    have h : (drawOkS (rkL o.1) T (addDep ops c b) n o.2 && slotsOk T n b r (addDep ops b c) q) = true := h
    rw [Bool.and_eq_true] at h
    obtain ⟨k1, k2⟩ := hk
    have hsz : ∀ (ops : Array Oper) b a, (addDep ops b a).size = ops.size := fun ops b a => by unfold addDep; simp
    have kk : ∀ (os : List (List Nat × List (Nat × List Nat))), slotsK P T ops.toList (Kx .normal) s os → slotsK P T (addDep ops b c).toList (Kx .normal) s os := by
      intro os
      induction os with
      | nil => intro h; exact h
      | cons y z ih => intro h; exact ⟨by rw [drawK_addDep]; exact h.1, ih h.2⟩
    rcases val_two hbc _ _ (by simp) hv with hv | hv
    · have e1 := draw_start (B := B) (Kx := Kx) hT hn h.1 hXB hR (by rw [drawK_addDep]; exact k1)
      rw [hsz] at e1
      exact wpOps_addDep _ _ _ (val_run _ _ _ _ _ hv e1)
    · have hv : ValE (addDep ops b c) (Array.replicate (addDep ops b c).size false) l := by rw [hsz]; exact hv
      exact wpOps_addDep _ _ _ (slots_run hT hn hXB hR b r (addDep ops b c) q hb.2 h.2 (kk q k2) hv)

/-- A region in which the operation b may come at any place beside the operations cs, each of which waits for the one before it. -/
theorem semL_slots (hT : TabOk P T) {Kx : Exit → AState → Prop} {s : AState} {id n : Nat} (b : Nat) (cs : List Nat) {os : List (List Nat × List (Nat × List Nat))} (hm : P.follows .mixedOrders = true) (hn : s.nt = n) (hb : (cs.all fun c => b != c) = true)
    (hk : slotsOk T n b cs ops os = true) (h : slotsK P T ops.toList (Kx .normal) s os) : @SemL P B (.region id ops true) s ⟨Kx⟩ := by
  intro X x w hXB hR
  refine wp_region_draw fun t => ?_
  simp only [Region.schedule, hm, Bool.true_or, if_true]
  have hv := go_val (ops := ops) ops.size t (Array.replicate ops.size false) (by simp) (by
    rw [Array.toList_replicate]
    generalize ops.size = m
    induction m with
    | zero => exact Nat.le_refl _
    | succ m ih => rw [List.replicate_succ]; simp only [cntF]; simp; omega)
  exact slots_run hT hn hXB hR b cs ops os hb hk h hv

/-- Nested values of an own row may be read as immutable ones. -/
theorem Ghost.disown {s : AState} (id : Nat) {nn : Bool} {sz : Nat} {es : List (List AV)} (hb : s.blk id = .row true nn sz es) : Ghost s { s with hp := (id, .row false nn sz es) :: s.hp } := fun X a w h => by
  obtain ⟨X', h1, _, _, h2⟩ := h.disown hb
  exact ⟨X', h1, h2⟩
end

end Go.Proofs.YthcfafpjkbbaoaaGreat

/- Contracts: drawn trees. -/
set_option linter.unusedSimpArgs false
set_option linter.unusedVariables false
set_option maxRecDepth 20000
set_option maxHeartbeats 4000000
namespace Go.Proofs.YthcfafpjkbbaoaaGreat
open Go Go.RowKit

end Go.Proofs.YthcfafpjkbbaoaaGreat

/- Results that are owned, taken as read only; drawn trees and lines so. -/
set_option linter.unusedSimpArgs false
set_option linter.unusedVariables false
set_option maxRecDepth 20000
set_option maxHeartbeats 4000000
namespace Go.Proofs.YthcfafpjkbbaoaaGreat
open Go Go.RowKit

def pureC : AV → AV
  | .osl _ _ es => .sl none es
  | a => a

theorem reads_pureC {w : World} {S : Nat → Prop} {v : Value} {a : AV} (h : Reads w S v a) : Reads w S v (pureC a) := by
  cases a <;> first | exact h | cases h

theorem OwnS.readsN {w : World} {v : Value} {nn : Bool} {sz : Nat} {es : List (List AV)} {F : Nat → Prop} (h : OwnS w v nn sz es F) : Reads w F v (.sl none es) := by
  obtain ⟨h1, h2, h3⟩ := h
  rcases h3 with ⟨rfl, rfl, _, _⟩ | ⟨b, cap, c, ty, FF, rfl, hb, hc, hcap, hO, hd, hnb, hF⟩
  · exact .nil none (by simp)
  · exact (OwnV.slice b cap sz none es c ty FF F (by simp) h2 h1 hcap hb hc hO hd hnb hF).reads

theorem pure_getD (cs : List AV) (i : Nat) : (cs.map pureC).getD i .top = pureC (cs.getD i .top) := by
  rw [List.getD_eq_getElem?_getD, List.getD_eq_getElem?_getD, List.getElem?_map]
  cases cs[i]? <;> rfl

/-- An aggregate of owned slices may be taken as one that is only read. -/
theorem FSpec.pureAgg {P : Program} {k : FuncId} {args : List AV} {hb : Bool} {bx : List AV} {Q Q' : AV → List AV → Prop} (h : FSpec P k args hb bx Q) (hq : ∀ r b, Q r b → ∃ cs, r = .agg cs ∧ Q' (.agg (cs.map pureC)) b) : FSpec P k args hb bx Q' := by
  refine ⟨h.1, fun w S vs b BF h1 h2 h3 h4 => (h.2 w S vs b BF h1 h2 h3 h4).mono ?_⟩
  rintro e w' ⟨v, r, bx1, F, BF', rfl, hQ, g1, g2, g3, g4, g5⟩
  obtain ⟨cs, rfl, hQ'⟩ := hq _ _ hQ
  have hS : ∀ x, (¬ F x ∧ ¬ BoxM hb b bx1 BF' x ∧ (S x ∨ BoxM hb b bx BF x ∨ w.heap.size ≤ x)) → (¬ False ∧ ¬ BoxM hb b bx1 BF' x ∧ (S x ∨ BoxM hb b bx BF x ∨ w.heap.size ≤ x)) := fun x hx => ⟨fun e => e, hx.2⟩
  have hF : ∀ x, F x → (¬ False ∧ ¬ BoxM hb b bx1 BF' x ∧ (S x ∨ BoxM hb b bx BF x ∨ w.heap.size ≤ x)) := fun x hx => ⟨fun e => e, g4 x hx, .inr (g5 x (.inl hx)).1⟩
  refine ⟨v, .agg (cs.map pureC), bx1, fun _ => False, BF', rfl, hQ', g1, ?_, fun e => (g3 e).mono hS, fun x e => e.elim, fun x e => ?_⟩
  · generalize ha : AV.agg cs = a at g2
    cases g2 with
    | part v a F h =>
      cases h with
      | cell v a F h =>
        cases h with
        | pure a F h hF' =>
          subst ha
          refine .part _ _ _ (.cell _ _ _ (.pure _ _ _ ?_ (fun _ e => e)))
          cases h with
          | agg vs cs hl h =>
            refine .agg vs _ (by simpa using hl) fun i hi => ?_
            rw [pure_getD]
            exact (reads_pureC (h i (by simpa using hi))).mono hS
        | osl nn sz es F h => cases ha
      | agg vs cs' FF F hl h hFF =>
        injection ha with ha
        subst ha
        refine .part _ _ _ (.agg vs _ (fun _ _ => False) _ (by simpa using hl) ⟨fun i hi => ?_, fun i j x _ _ e => e.elim⟩ (fun x => ⟨fun e => e.elim, fun ⟨i, _, e⟩ => e.elim⟩))
        have hi' : i < cs.length := by simpa using hi
        have hc := h.cell i hi'
        have hFi : ∀ x, FF i x → F x := fun x hx => (hFF x).2 ⟨i, hi', hx⟩
        rw [pure_getD]
        generalize cs.getD i .top = a at hc
        generalize FF i = G at hc hFi
        cases hc with
        | pure a F h hF' => exact .pure _ _ _ ((reads_pureC h).mono hS) (fun _ e => e)
        | osl nn sz es F h => exact .pure _ _ _ (h.readsN.mono fun x hx => hF x (hFi x hx)) (fun _ e => e)
    | tup => cases ha
    | box => cases ha
  · rcases e with e | e
    · exact e.elim
    · exact g5 x (.inr e)

def LineP (nb : Option Bool) (bs : List Int) (p n : Int) (r : AV) (b : List AV) : Prop := ∃ (t : Tree) (q : Int), r = .agg (encT none none none t) ∧ b = rd nb bs q ∧ p ≤ q ∧ q ≤ p + 1000 ∧ tsz t ≤ 200 ∧ 1 ≤ t.blocks.length ∧ t.blocks.length ≤ 14 ∧ (n = 0 → TreeOk t)
theorem c_spec_l20LineP (nb : Option Bool) (bs : List Int) (p n : Int) (h : RdOk bs p) (hp : p ≤ 999980000) (hn : 0 ≤ n ∧ n ≤ 1000000) : FSpec Tryz.prog 103 [.loc 0 0, .int .i64 n] true (rd nb bs p) (LineP nb bs p n) := by
  refine (c_spec_l20Line nb bs p n h hp hn).pureAgg ?_
  rintro r b ⟨t, q, rfl, rfl, h1, h2, h3, h4, h5, h6⟩
  exact ⟨_, rfl, t, q, rfl, rfl, h1, h2, h3, h4, h5, h6⟩

end Go.Proofs.YthcfafpjkbbaoaaGreat

/- Regions with an operation that waits for none of several calls, and a last operation that waits for all others. -/
set_option linter.unusedSimpArgs false
set_option linter.unusedVariables false
set_option maxRecDepth 20000
set_option maxHeartbeats 4000000
namespace Go.Proofs.YthcfafpjkbbaoaaGreat
open Go Go.RowKit

section
variable {P : Program} {T : Tab} {B : Base} {ops : Array Oper}

end

end Go.Proofs.YthcfafpjkbbaoaaGreat

/- Contracts: blocks that are certified. -/
set_option linter.unusedSimpArgs false
set_option linter.unusedVariables false
set_option maxRecDepth 20000
set_option maxHeartbeats 4000000
namespace Go.Proofs.YthcfafpjkbbaoaaGreat
open Go Go.RowKit

theorem OwnS.readsT {w : World} {v : Value} {sz : Nat} {es : List (List AV)} {F : Nat → Prop} (h : OwnS w v true sz es F) : Reads w F v (.sl (some true) es) := by
  obtain ⟨h1, h2, h3⟩ := h
  rcases h3 with ⟨_, _, g, _⟩ | ⟨b, cap, c, ty, FF, rfl, hb, hc, hcap, hO, hd, hnb, hF⟩
  · cases g
  · exact (OwnV.slice b cap sz (some true) es c ty FF F (by simp) h2 h1 hcap hb hc hO hd hnb hF).reads

/-- A result that is owned may be taken as one that is only read. -/
theorem Det.pureT {P : Program} {k : FuncId} {args : List AV} {sz : Nat} {es : List (List AV)} (h : Det P k args (.osl true sz es)) : Det P k args (.sl (some true) es) := by
  refine ⟨h.1, fun w S vs b BF h1 h2 h3 h4 => (h.2 w S vs b BF h1 h2 h3 h4).mono ?_⟩
  rintro e w' ⟨v, r, bx1, F, BF', rfl, hQ, g1, g2, g3, g4, g5⟩
  subst hQ
  have hno : ∀ {b : Nat} {cs : List AV} {B : Nat → Nat → Prop} (x : Nat), ¬ BoxM false b cs B x := fun x e => by cases e.1
  refine ⟨v, .sl (some true) es, bx1, fun _ => False, BF', rfl, rfl, g1, ?_, (fun e => by cases e), fun x e => e.elim, fun x e => ?_⟩
  · have hO : OwnS w' v true sz es F := by
      cases g2 with
      | part v a F h =>
        cases h with
        | cell v a F h =>
          cases h with
          | pure a F h hF => cases h
          | osl nn sz es F h => exact h
    refine .part _ _ _ (.cell _ _ _ (.pure _ _ _ (hO.readsT.mono fun x hx => ?_) (fun _ e => e)))
    exact ⟨fun e => e, hno x, .inr (.inr (((g5 x (.inl hx)).1).resolve_left (hno x)))⟩
  · rcases e with e | e
    · exact e.elim
    · exact (hno x e).elim

theorem certified_yes {t : Tree} {cs : List Cert} (h0 : treeValid t = true) (hc : cs.length ≤ 30) : certified t cs = certL t cs := by
  unfold certified; rw [if_pos ⟨h0, hc⟩]
theorem certified_no {t : Tree} {cs : List Cert} (h : ¬ (treeValid t = true ∧ cs.length ≤ 30)) : certified t cs = [] := by
  unfold certified; rw [if_neg h]
theorem certF_take (t : Tree) (cs : List Cert) (l : List Bool) (i : Nat) (h : i < cs.length) : certF t (cs.take (i + 1)) l = certStep t (certF t (cs.take i) l) cs[i] := by
  unfold certF; rw [take_snoc _ _ h, List.foldl_append]; rfl
theorem certs0_rows (n : Nat) : boolRows (certs0 n) = (List.replicate n [.bool false]).set 0 [.bool true] := by
  unfold certs0; rw [← boolRows_set, boolRows_rep]

theorem c_impl_CertifiedBlocks_yes (n1 n2 n3 n4 : Option Bool) (t : Tree) (cs : List Cert) (hx : TreeSz t) (h0 : treeValid t = true) (hc : cs.length ≤ 30) :
    Det Tryz.prog 18 [.agg (encT n1 n2 n3 t), .sl n4 (rows encC cs)] (.osl true 1 (boolRows (certL t cs))) := by
  refine fspec_det tab_ok Tryz.call18 Tryz.func18 rfl 39 Tryz.ntmps18 (of_decide_eq_true rfl) fun B => codeK_sound tab_ok _ _ _ ?_
  have ht := treeOk_of h0
  have hlen := ht.len
  have hd : decide ((cs.length : Int) > 30) = false := by simp; omega
  have hp : (0 < t.blocks.length) = True := by simp; omega
  have hp2 : ((0 : Int) < (t.blocks.length : Int)) = True := by simp; omega
  have hg0 : (List.replicate t.blocks.length [AV.bool false]).getD 0 [] = [.bool false] := by
    rw [List.getD_eq_getElem?_getD, List.getElem?_replicate, if_pos (by omega)]; rfl
  simp (config := { maxSteps := 4000000 }) only [go_sem, simprocAttr, ↓dnA, Tryz.f18, encT, rows_length, boolRows_length, List.length_set, List.length_replicate]
  refine CallTo.det (c_impl_BlockTreeValid n1 n2 n3 t hx) fun _ => ?_
  simp (config := { maxSteps := 4000000 }) only [go_sem, simprocAttr, ↓dnA, Tryz.f18, encT, rows_length, boolRows_length, List.length_set, List.length_replicate, h0, hd, hp, hp2, hg0, spliceL]
  repeat refine And.intro (by first | omega | (simp; done) | (simp; omega) | assumption) ?_
  refine semL_for tab_ok (fun i : Nat => ⟨39, [(2, .loc 2 0), (5, .row 600 t.blocks.length), (23, .sl n4 (rows encC cs)), (24, .int .i64 cs.length), (25, .int .i64 i)],
      [(2, .var (encT n1 n2 n3 t)), (600, .row true true 1 (boolRows (certF t (cs.take i) (certs0 t.blocks.length))))]⟩) (fun i => cs.length - i)
    (fun i => i ≤ cs.length) 0 [(2, 2), (20, 600)] (Weak.of (by rfl) ?_ ?_ (by rfl)) (by omega) ?_
  · simp (config := { maxSteps := 4000000 }) only [go_sem, simprocAttr, ↓dnA, Tryz.f18, encT, rows_length, boolRows_length, List.length_set, List.length_replicate, frW, wk2, wk1, wkL, wkB, hpW, List.mem_cons, Prod.mk.injEq, exists_eq_left, exists_eq_right, exists_eq]
    exact certs0_rows _
  · simp (config := { maxSteps := 4000000 }) only [go_sem, simprocAttr, ↓dnA, Tryz.f18, encT, rows_length, boolRows_length, List.length_set, List.length_replicate, frW, wk2, wk1, wkL, wkB, hpW, List.mem_cons, Prod.mk.injEq, exists_eq_left, exists_eq_right, exists_eq]
  · rintro i hi
    have hl : (certF t (cs.take i) (certs0 t.blocks.length)).length = t.blocks.length := by rw [certF_len]; simp [certs0]
    by_cases h : i < cs.length
    · have hst := certF_take t cs (certs0 t.blocks.length) i h
      generalize certF t (cs.take i) (certs0 t.blocks.length) = l at hl hst
      have hw : IntKind.i64.wrap ((i : Int) + 1) = ((i + 1 : Nat) : Int) := wsucc h (by omega)
      simp (config := { maxSteps := 4000000 }) only [go_sem, simprocAttr, ↓dnA, Tryz.f18, encT, rows_length, boolRows_length, List.length_set, List.length_replicate, nlt h, h, rows_get _ _ _ h, nn0, encC]
      refine CallTo.det (c_impl_certBlock n1 n2 n3 t cs[i] hx) fun _ => ?_
      rcases certBlock_cases t cs[i] with hb | ⟨k, hk, hb⟩
      · have hs : certStep t l cs[i] = l := by unfold certStep; rw [hb, if_pos (by omega)]
        rw [hs] at hst
        simp (config := { maxSteps := 4000000 }) only [go_sem, simprocAttr, ↓dnA, Tryz.f18, encT, rows_length, boolRows_length, List.length_set, List.length_replicate, nlt h, h, rows_get _ _ _ h, nn0, encC, hb, hw]
        refine ⟨i + 1, [(2, 2), (600, 600)], by omega, by dsimp only; omega, Weak.of (by rfl) ?_ ?_ (by rfl)⟩
        · simp (config := { maxSteps := 4000000 }) only [go_sem, simprocAttr, ↓dnA, Tryz.f18, encT, rows_length, boolRows_length, List.length_set, List.length_replicate, hst, frW, wk2, wk1, wkL, wkB, hpW, List.mem_cons, Prod.mk.injEq, exists_eq_left, exists_eq_right, exists_eq]
        · simp (config := { maxSteps := 4000000 }) only [go_sem, simprocAttr, ↓dnA, Tryz.f18, encT, rows_length, boolRows_length, List.length_set, List.length_replicate, frW, wk2, wk1, wkL, wkB, hpW, List.mem_cons, Prod.mk.injEq, exists_eq_left, exists_eq_right, exists_eq]
      · have hs : certStep t l cs[i] = l.set k true := by unfold certStep; rw [hb, if_neg (by omega), Int.toNat_natCast]
        rw [hs] at hst
        have hd2 : decide ((k : Int) ≥ 0) = true := by simp
        simp (config := { maxSteps := 4000000 }) only [go_sem, simprocAttr, ↓dnA, Tryz.f18, encT, rows_length, boolRows_length, List.length_set, List.length_replicate, nlt h, h, rows_get _ _ _ h, nn0, encC, hb, hd2, nlt hk, hk, hl, boolRows_get l k (by omega), spliceL, hw]
        refine ⟨i + 1, [(2, 2), (600, 600)], by omega, by dsimp only; omega, Weak.of (by rfl) ?_ ?_ (by rfl)⟩
        · simp (config := { maxSteps := 4000000 }) only [go_sem, simprocAttr, ↓dnA, Tryz.f18, encT, rows_length, boolRows_length, List.length_set, List.length_replicate, hst, ← boolRows_set, frW, wk2, wk1, wkL, wkB, hpW, List.mem_cons, Prod.mk.injEq, exists_eq_left, exists_eq_right, exists_eq]
        · simp (config := { maxSteps := 4000000 }) only [go_sem, simprocAttr, ↓dnA, Tryz.f18, encT, rows_length, boolRows_length, List.length_set, List.length_replicate, frW, wk2, wk1, wkL, wkB, hpW, List.mem_cons, Prod.mk.injEq, exists_eq_left, exists_eq_right, exists_eq]
    · have hi' : i = cs.length := by omega
      subst hi'
      rw [List.take_length] at hl
      simp (config := { maxSteps := 4000000 }) only [go_sem, simprocAttr, ↓dnA, Tryz.f18, encT, rows_length, boolRows_length, List.length_set, List.length_replicate, nlf h, List.take_length, certL, hl]

theorem c_impl_CertifiedBlocks_T (n1 n2 n3 n4 : Option Bool) (t : Tree) (cs : List Cert) (hx : TreeSz t) (h0 : treeValid t = true) (hc : cs.length ≤ 30) :
    Det Tryz.prog 18 [.agg (encT n1 n2 n3 t), .sl n4 (rows encC cs)] (.sl (some true) (boolRows (certL t cs))) := (c_impl_CertifiedBlocks_yes n1 n2 n3 n4 t cs hx h0 hc).pureT

theorem c_impl_CertifiedBlocks_no (n1 n2 n3 n4 : Option Bool) (t : Tree) (cs : List Cert) (hx : TreeSz t) (h : ¬ (treeValid t = true ∧ cs.length ≤ 30)) :
    Det Tryz.prog 18 [.agg (encT n1 n2 n3 t), .sl n4 (rows encC cs)] (.sl (some false) []) := by
  refine fspec_det tab_ok Tryz.call18 Tryz.func18 rfl 39 Tryz.ntmps18 (of_decide_eq_true rfl) fun B => codeK_sound tab_ok _ _ _ ?_
  simp (config := { maxSteps := 4000000 }) only [go_sem, simprocAttr, ↓dnA, Tryz.f18, encT, rows_length, boolRows_length, List.length_set, List.length_replicate]
  refine CallTo.det (c_impl_BlockTreeValid n1 n2 n3 t hx) fun _ => ?_
  cases h0 : treeValid t with
  | false => simp (config := { maxSteps := 4000000 }) only [go_sem, simprocAttr, ↓dnA, Tryz.f18, encT, rows_length, boolRows_length, List.length_set, List.length_replicate, h0]
  | true =>
    have hd : decide ((cs.length : Int) > 30) = true := by
      have : ¬ cs.length ≤ 30 := fun e => h ⟨h0, e⟩
      simp; omega
    simp (config := { maxSteps := 4000000 }) only [go_sem, simprocAttr, ↓dnA, Tryz.f18, encT, rows_length, boolRows_length, List.length_set, List.length_replicate, h0, hd]

theorem c_spec_CertifiedBlocks (n1 n2 n3 n4 : Option Bool) (t : Tree) (cs : List Cert) (hx : TreeSz t) :
    Det Tryz.prog 61 [.agg (encT n1 n2 n3 t), .sl n4 (rows encC cs)] (.osl true 1 (boolRows (certified t cs))) := by
  refine fspec_det tab_ok Tryz.call61 Tryz.func61 rfl 42 Tryz.ntmps61 (of_decide_eq_true rfl) fun B => codeK_sound tab_ok _ _ _ ?_
  simp (config := { maxSteps := 4000000 }) only [go_sem, simprocAttr, ↓dnA, Tryz.f61, encT, rows_length, boolRows_length, List.length_set, List.length_replicate]
  refine CallTo.det (c_spec_BlockTreeValid n1 n2 n3 t hx) fun _ => ?_
  cases h0 : treeValid t with
  | false =>
    have hr := certified_no (t := t) (cs := cs) (fun e => by rw [h0] at e; cases e.1)
    simp (config := { maxSteps := 4000000 }) only [go_sem, simprocAttr, ↓dnA, Tryz.f61, encT, rows_length, boolRows_length, List.length_set, List.length_replicate, h0, hr, boolRows, List.map_nil]
  | true =>
    by_cases hc : cs.length ≤ 30
    · have ht := treeOk_of h0
      have hlen := ht.len
      have hd : decide ((cs.length : Int) > 30) = false := by simp; omega
      have hp : (0 < t.blocks.length) = True := by simp; omega
      have hp2 : ((0 : Int) < (t.blocks.length : Int)) = True := by simp; omega
      have hg0 : (List.replicate t.blocks.length [AV.bool false]).getD 0 [] = [.bool false] := by
        rw [List.getD_eq_getElem?_getD, List.getElem?_replicate, if_pos (by omega)]; rfl
      rw [certified_yes h0 hc]
      simp (config := { maxSteps := 4000000 }) only [go_sem, simprocAttr, ↓dnA, Tryz.f61, encT, rows_length, boolRows_length, List.length_set, List.length_replicate, h0, hd, hp, hp2, hg0, spliceL]
      repeat refine And.intro (by first | omega | (simp; done) | (simp; omega) | assumption) ?_
      refine semL_for tab_ok (fun i : Nat => ⟨42, [(2, .loc 2 0), (1, .sl n4 (rows encC cs)), (5, .row 600 t.blocks.length), (6, .int .i64 i)],
          [(2, .var (encT n1 n2 n3 t)), (600, .row true true 1 (boolRows (certF t (cs.take i) (certs0 t.blocks.length))))]⟩) (fun i => cs.length - i)
        (fun i => i ≤ cs.length) 0 [(2, 2), (21, 600)] (Weak.of (by rfl) ?_ ?_ (by rfl)) (by omega) ?_
      · simp (config := { maxSteps := 4000000 }) only [go_sem, simprocAttr, ↓dnA, Tryz.f61, encT, rows_length, boolRows_length, List.length_set, List.length_replicate, frW, wk2, wk1, wkL, wkB, hpW, List.mem_cons, Prod.mk.injEq, exists_eq_left, exists_eq_right, exists_eq]
        exact certs0_rows _
      · simp (config := { maxSteps := 4000000 }) only [go_sem, simprocAttr, ↓dnA, Tryz.f61, encT, rows_length, boolRows_length, List.length_set, List.length_replicate, frW, wk2, wk1, wkL, wkB, hpW, List.mem_cons, Prod.mk.injEq, exists_eq_left, exists_eq_right, exists_eq]
      · rintro i hi
        have hl : (certF t (cs.take i) (certs0 t.blocks.length)).length = t.blocks.length := by rw [certF_len]; simp [certs0]
        by_cases h : i < cs.length
        · have hst := certF_take t cs (certs0 t.blocks.length) i h
          generalize certF t (cs.take i) (certs0 t.blocks.length) = l at hl hst
          have hw : IntKind.i64.wrap ((i : Int) + 1) = ((i + 1 : Nat) : Int) := wsucc h (by omega)
          simp (config := { maxSteps := 4000000 }) only [go_sem, simprocAttr, ↓dnA, Tryz.f61, encT, rows_length, boolRows_length, List.length_set, List.length_replicate, nlt h, h, rows_get _ _ _ h, nn0, encC]
          refine semL_draw tab_ok mixed_ rfl (ord := [(0, []), (1, []), (2, []), (3, []), (4, []), (5, []), (6, [])]) (by dsimp only; decide +kernel) ?_
          simp (config := { maxSteps := 4000000 }) only [go_sem, simprocAttr, ↓dnA, Tryz.f61, encT, rows_length, boolRows_length, List.length_set, List.length_replicate, nlt h, h, rows_get _ _ _ h, nn0, encC]
          refine CallTo.det (c_spec_CertBlock n1 n2 n3 t cs[i] hx) fun _ => ?_
          rw [if_pos h0]
          rcases certBlock_cases t cs[i] with hb | ⟨k, hk, hb⟩
          · have hs : certStep t l cs[i] = l := by unfold certStep; rw [hb, if_pos (by omega)]
            rw [hs] at hst
            simp (config := { maxSteps := 4000000 }) only [go_sem, simprocAttr, ↓dnA, Tryz.f61, encT, rows_length, boolRows_length, List.length_set, List.length_replicate, nlt h, h, rows_get _ _ _ h, nn0, encC, hb, hw]
            refine ⟨i + 1, [(2, 2), (600, 600)], by omega, by dsimp only; omega, Weak.of (by rfl) ?_ ?_ (by rfl)⟩
            · simp (config := { maxSteps := 4000000 }) only [go_sem, simprocAttr, ↓dnA, Tryz.f61, encT, rows_length, boolRows_length, List.length_set, List.length_replicate, hst, frW, wk2, wk1, wkL, wkB, hpW, List.mem_cons, Prod.mk.injEq, exists_eq_left, exists_eq_right, exists_eq]
            · simp (config := { maxSteps := 4000000 }) only [go_sem, simprocAttr, ↓dnA, Tryz.f61, encT, rows_length, boolRows_length, List.length_set, List.length_replicate, frW, wk2, wk1, wkL, wkB, hpW, List.mem_cons, Prod.mk.injEq, exists_eq_left, exists_eq_right, exists_eq]
          · have hs : certStep t l cs[i] = l.set k true := by unfold certStep; rw [hb, if_neg (by omega), Int.toNat_natCast]
            rw [hs] at hst
            have hd2 : decide ((k : Int) ≥ 0) = true := by simp
            simp (config := { maxSteps := 4000000 }) only [go_sem, simprocAttr, ↓dnA, Tryz.f61, encT, rows_length, boolRows_length, List.length_set, List.length_replicate, nlt h, h, rows_get _ _ _ h, nn0, encC, hb, hd2, nlt hk, hk, hl, boolRows_get l k (by omega), spliceL, hw]
            refine ⟨i + 1, [(2, 2), (600, 600)], by omega, by dsimp only; omega, Weak.of (by rfl) ?_ ?_ (by rfl)⟩
            · simp (config := { maxSteps := 4000000 }) only [go_sem, simprocAttr, ↓dnA, Tryz.f61, encT, rows_length, boolRows_length, List.length_set, List.length_replicate, hst, ← boolRows_set, frW, wk2, wk1, wkL, wkB, hpW, List.mem_cons, Prod.mk.injEq, exists_eq_left, exists_eq_right, exists_eq]
            · simp (config := { maxSteps := 4000000 }) only [go_sem, simprocAttr, ↓dnA, Tryz.f61, encT, rows_length, boolRows_length, List.length_set, List.length_replicate, frW, wk2, wk1, wkL, wkB, hpW, List.mem_cons, Prod.mk.injEq, exists_eq_left, exists_eq_right, exists_eq]
        · have hi' : i = cs.length := by omega
          subst hi'
          rw [List.take_length] at hl
          simp (config := { maxSteps := 4000000 }) only [go_sem, simprocAttr, ↓dnA, Tryz.f61, encT, rows_length, boolRows_length, List.length_set, List.length_replicate, nlf h, List.take_length, certL, hl]
    · have hr := certified_no (t := t) (cs := cs) (fun e => hc e.2)
      have hd : decide ((cs.length : Int) > 30) = true := by simp; omega
      simp (config := { maxSteps := 4000000 }) only [go_sem, simprocAttr, ↓dnA, Tryz.f61, encT, rows_length, boolRows_length, List.length_set, List.length_replicate, h0, hd, hr, boolRows, List.map_nil]

end Go.Proofs.YthcfafpjkbbaoaaGreat

/- Contracts: drawn certificates; FnCertBlock, FnCertifiedBlocks. -/
set_option linter.unusedSimpArgs false
set_option linter.unusedVariables false
set_option maxRecDepth 20000
set_option maxHeartbeats 4000000
namespace Go.Proofs.YthcfafpjkbbaoaaGreat
open Go Go.RowKit

end Go.Proofs.YthcfafpjkbbaoaaGreat

/- Contracts: drawn lists of certificates; FnCertifiedBlocks. -/
set_option linter.unusedSimpArgs false
set_option linter.unusedVariables false
set_option maxRecDepth 20000
set_option maxHeartbeats 4000000
namespace Go.Proofs.YthcfafpjkbbaoaaGreat
open Go Go.RowKit

end Go.Proofs.YthcfafpjkbbaoaaGreat

/- Contracts: voters after their votes. -/
set_option linter.unusedSimpArgs false
set_option linter.unusedVariables false
set_option maxRecDepth 20000
set_option maxHeartbeats 4000000
namespace Go.Proofs.YthcfafpjkbbaoaaGreat
open Go Go.RowKit

open Classical in
/-- A voter after its vote. -/
noncomputable def voteFor (v : Voter) (t : Tree) (c : List Bool) (n : Int) : Voter × Bool :=
  if voterValid v.last v.lock then (if mayVote v t c n then
    (⟨(t.blk n.toNat).view, if t.bef (t.bef n.toNat).toNat ≥ 0 then max v.lock (t.blk (t.bef (t.bef n.toNat).toNat).toNat).view else v.lock⟩, true) else (v, false)) else (⟨0, 0⟩, false)

theorem max_if (a b : Int) : (if b > a then b else a) = max a b := by
  rw [Int.max_def]; split <;> split <;> omega

/-- What is needed of the block before the one before. -/
theorem voteFor_ok {v : Voter} {t : Tree} {c : List Bool} {n : Int} (h0 : voterValid v.last v.lock = true) (h : mayVote v t c n = true) :
    ∃ j k : Nat, n = (j : Int) ∧ j < t.blocks.length ∧ j < t.before.length ∧ k < t.before.length ∧ (rows encI t.before).getD j [] = [.int .i64 (k : Int)] ∧ (rows encI t.before).getD k [] = [.int .i64 (t.bef k)] ∧
      (rows encB1 t.blocks).getD j [] = encB1 (t.blk j) ∧
      ((t.bef k < 0 ∧ decide (t.bef k ≥ 0) = false ∧ voteFor v t c n = (⟨(t.blk j).view, v.lock⟩, true)) ∨
       ∃ m : Nat, t.bef k = (m : Int) ∧ m < t.blocks.length ∧ (rows encB1 t.blocks).getD m [] = encB1 (t.blk m) ∧ voteFor v t c n = (⟨(t.blk j).view, max v.lock (t.blk m).view⟩, true)) := by
  have hm := mayOk_of h
  obtain ⟨j, k, rfl, hj0, hj, hjb, hkj, hk, g1, g2, g3, _⟩ := may_facts hm.tree hm.len hm.n1 hm.n2
  have hkb : k < t.before.length := by omega
  have g4 : (rows encI t.before).getD k [] = [.int .i64 (t.bef k)] := by rw [rows_get _ _ k hkb, t.bef_get k hkb]; rfl
  refine ⟨j, k, rfl, hj, hjb, hkb, g1, g4, g2, ?_⟩
  have hv : voteFor v t c (j : Int) = (⟨(t.blk j).view, if t.bef k ≥ 0 then max v.lock (t.blk (t.bef k).toNat).view else v.lock⟩, true) := by
    unfold voteFor
    rw [h0, h, if_pos rfl, if_pos rfl, Int.toNat_natCast, hk, Int.toNat_natCast]
  by_cases hb : t.bef k ≥ 0
  · obtain ⟨m, hmk⟩ : ∃ m : Nat, t.bef k = (m : Int) := ⟨(t.bef k).toNat, by omega⟩
    have hml : m < t.blocks.length := by
      by_cases hk0 : k = 0
      · subst hk0; rw [hm.tree.bef0] at hb; omega
      · have := (hm.tree.link k (by omega) (by omega)).hi; omega
    refine .inr ⟨m, hmk, hml, rows_gd _ _ m hml, ?_⟩
    rw [hv, if_pos hb, hmk, Int.toNat_natCast]
  · exact .inl ⟨by omega, by simp; omega, by rw [hv, if_neg hb]⟩

theorem c_spec_VoteFor (n1 n2 n3 n4 : Option Bool) (v : Voter) (t : Tree) (c : List Bool) (n : Int) (hx : TreeSz t) (hc : c.length < 2 ^ 62) :
    Det Tryz.prog 110 [.agg (encV v), .agg (encT n1 n2 n3 t), .sl n4 (boolRows c), .int .i64 n] (.tup [.agg (encV (voteFor v t c n).1), .bool (voteFor v t c n).2]) := by
  refine fspec_det tab_ok Tryz.call110 Tryz.func110 rfl 54 Tryz.ntmps110 (of_decide_eq_true rfl) fun B => codeK_sound tab_ok _ _ _ ?_
  unfold encT
  simp (config := { maxSteps := 4000000 }) only [go_sem, simprocAttr, ↓dnA, Tryz.f110, encV]
  refine CallTo.det (c_spec_VoterValid _ _) fun _ => ?_
  cases h1 : voterValid v.last v.lock with
  | false =>
    have hv : voteFor v t c n = (⟨0, 0⟩, false) := by unfold voteFor; rw [h1, if_neg Bool.false_ne_true]
    simp (config := { maxSteps := 4000000 }) only [go_sem, simprocAttr, ↓dnA, Tryz.f110, encV, h1, hv]
  | true =>
    simp (config := { maxSteps := 4000000 }) only [go_sem, simprocAttr, ↓dnA, Tryz.f110, encV, h1]
    refine CallTo.det (c_spec_MayVote n1 n2 n3 n4 v t c n hx hc) fun _ => ?_
    cases h2 : mayVote v t c n with
    | false =>
      have hv : voteFor v t c n = (v, false) := by unfold voteFor; rw [h1, h2, if_pos rfl, if_neg Bool.false_ne_true]
      simp (config := { maxSteps := 4000000 }) only [go_sem, simprocAttr, ↓dnA, Tryz.f110, encV, h1, h2, hv]
    | true =>
      obtain ⟨j, k, rfl, hj, hjb, hkb, g1, g4, g2, hcase⟩ := voteFor_ok h1 h2
      simp (config := { maxSteps := 4000000 }) only [go_sem, simprocAttr, ↓dnA, Tryz.f110, encV, h1, h2, rows_length, nn0, nlt hj, nlt hjb, nlt hkb, g1, g2, g4, encB1, encBk]
      refine semL_draw tab_ok mixed_ rfl (ord := [(0, []), (1, []), (2, []), (3, []), (4, []), (5, []), (6, []), (7, []), (8, []), (9, [0, 1, 2, 3, 4, 5, 6, 7, 8]), (10, [])]) (by dsimp only; decide +kernel) ?_
      simp (config := { maxSteps := 4000000 }) only [go_sem, simprocAttr, ↓dnA, Tryz.f110, encV, h1, h2, rows_length, nn0, nlt hj, nlt hjb, nlt hkb, g1, g2, g4, encB1, encBk]
      refine semL_draw tab_ok mixed_ rfl (ord := [(0, []), (1, []), (2, []), (3, []), (4, []), (5, []), (6, []), (7, []), (8, []), (9, [])]) (by dsimp only; decide +kernel) ?_
      rcases hcase with ⟨hb, hd, hv⟩ | ⟨m, hm, hml, g5, hv⟩
      · simp (config := { maxSteps := 4000000 }) only [go_sem, simprocAttr, ↓dnA, Tryz.f110, encV, h1, h2, rows_length, nn0, nlt hj, nlt hjb, nlt hkb, g1, g2, g4, encB1, encBk, hd, hv]
      · have hd : decide ((m : Int) ≥ 0) = true := by simp
        simp (config := { maxSteps := 4000000 }) only [go_sem, simprocAttr, ↓dnA, Tryz.f110, encV, h1, h2, rows_length, nn0, nlt hj, nlt hjb, nlt hkb, g1, g2, g4, encB1, encBk, hd, hm]
        refine semL_draw tab_ok mixed_ rfl (ord := [(0, []), (1, []), (2, []), (3, []), (4, []), (5, []), (6, []), (7, []), (8, []), (9, []), (10, [])]) (by dsimp only; decide +kernel) ?_
        simp (config := { maxSteps := 4000000 }) only [go_sem, simprocAttr, ↓dnA, Tryz.f110, encV, h1, h2, rows_length, nn0, nlt hml, g5, encB1, encBk, max_if, hv]

end Go.Proofs.YthcfafpjkbbaoaaGreat

/- Contracts: worlds, and when they are valid. -/
set_option linter.unusedSimpArgs false
set_option linter.unusedVariables false
set_option maxRecDepth 20000
set_option maxHeartbeats 4000000
namespace Go.Proofs.YthcfafpjkbbaoaaGreat
open Go Go.RowKit

structure Wld where
  tree : Tree
  voters : List Voter
  votes : List Int
deriving DecidableEq, Inhabited

def encW (n1 n2 n3 n4 n5 : Option Bool) (w : Wld) : List AV :=
  [.sl n1 (rows encE w.tree.base), .sl n2 (rows encB1 w.tree.blocks), .sl n3 (rows encI w.tree.before), .sl n4 (rows encV w.voters), .sl n5 (rows encI w.votes)]
structure WldSz (w : Wld) : Prop where
  tree : TreeSz w.tree
  voters : w.voters.length < 2 ^ 62
  votes : w.votes.length < 2 ^ 62

def voterOk (v : Voter) : Bool := voterValid v.last v.lock
noncomputable def worldValid (w : Wld) : Bool := ((((treeValid w.tree && decide (w.voters.length = 4)) && w.voters.all voterOk) && decide (w.votes.length = w.tree.blocks.length)) && w.votes.all fun n => inB n 0 15)

theorem c_impl_WorldValid1 (v : Voter) : Det Tryz.prog 77 [.agg (encV v)] (.bool (!voterOk v)) := by
  refine fspec_det tab_ok Tryz.call77 Tryz.func77 rfl 6 Tryz.ntmps77 (of_decide_eq_true rfl) fun B => codeK_sound tab_ok _ _ _ ?_
  simp (config := { maxSteps := 4000000 }) only [go_sem, simprocAttr, ↓dnA, Tryz.f77, encV]
  refine CallTo.det (c_impl_VoterValid _ _) fun _ => ?_
  simp (config := { maxSteps := 4000000 }) only [go_sem, simprocAttr, ↓dnA, Tryz.f77, encV, voterOk]

theorem c_impl_WorldValid2 (n : Int) : Det Tryz.prog 80 [.int .i64 n] (.bool (!inB n 0 15)) := by
  refine fspec_det tab_ok Tryz.call80 Tryz.func80 rfl 6 Tryz.ntmps80 (of_decide_eq_true rfl) fun B => codeK_sound tab_ok _ _ _ ?_
  simp (config := { maxSteps := 4000000 }) only [go_sem, simprocAttr, ↓dnA, Tryz.f80]
  refine CallTo.det (c_impl_isSigners _) fun _ => ?_
  simp (config := { maxSteps := 4000000 }) only [go_sem, simprocAttr, ↓dnA, Tryz.f80]

theorem c_slices_IndexFunc_Voter (n1 : Option Bool) (xs : List Voter) (k : FuncId) (p : Voter → Bool) (hx : xs.length < 2 ^ 62) (hm : mutB k = false) (hp : ∀ x, x ∈ xs → Det Tryz.prog k [.agg (encV x)] (.bool (p x))) :
    Det Tryz.prog 139 [.sl n1 (rows encV xs), .fn k []] (.int .i64 (idxF p xs 0)) := by
  simp only [mutB] at hm
  refine fspec_det tab_ok Tryz.call139 Tryz.func139 rfl 19 Tryz.ntmps139 (of_decide_eq_true rfl) fun B => codeK_sound tab_ok _ _ _ ?_
  simp (config := { maxSteps := 4000000 }) only [go_sem, simprocAttr, ↓dnA, Tryz.f139, rows_length, hm]
  refine semL_for tab_ok (fun i : Nat => ⟨19, [(0, .sl n1 (rows encV xs)), (1, .fn k []), (7, .int .i64 xs.length), (8, .int .i64 i)], []⟩) (fun i => xs.length - i)
    (fun i => i ≤ xs.length ∧ idxF p (xs.drop i) i = idxF p xs 0) 0 [] (Weak.of rfl trivial ?_ rfl) ⟨by omega, rfl⟩ ?_
  · simp (config := { maxSteps := 4000000 }) only [go_sem, simprocAttr, ↓dnA, Tryz.f139, frW, wk2, wk1, wkL, wkB, hpW, List.mem_cons, Prod.mk.injEq, exists_eq_left, exists_eq_right, exists_eq]
  · rintro i ⟨hi, hp'⟩
    by_cases h : i < xs.length
    · simp (config := { maxSteps := 4000000 }) only [go_sem, simprocAttr, ↓dnA, Tryz.f139, rows_length, rows_get _ _ _ h, encV, nlt h, nn0, hm]
      refine CallTo.det (hp _ (List.getElem_mem h)) fun _ => ?_
      rw [drop_cons xs i h] at hp'
      simp (config := { maxSteps := 4000000 }) only [go_sem, simprocAttr, ↓dnA, Tryz.f139, rows_length, rows_get _ _ _ h, encV, nlt h, hm]
      refine ⟨fun h => ?_, fun h' => ?_⟩
      · rw [← hp']; simp [idxF, h]
      · refine ⟨i + 1, [], ⟨by omega, ?_⟩, by dsimp only; omega, Weak.of rfl trivial ?_ rfl⟩
        · rw [← hp']; simp [idxF, h']
        · simp (config := { maxSteps := 4000000 }) only [go_sem, simprocAttr, ↓dnA, Tryz.f139, wsucc h hx, frW, wk2, wk1, wkL, wkB, hpW, List.mem_cons, Prod.mk.injEq, exists_eq_left, exists_eq_right, exists_eq]
    · have : i = xs.length := by omega
      subst this
      rw [List.drop_length] at hp'
      simp (config := { maxSteps := 4000000 }) only [go_sem, simprocAttr, ↓dnA, Tryz.f139, nlf h, hm]
      rw [← hp']
      rfl

theorem c_slices_ContainsFunc_Voter (n1 : Option Bool) (xs : List Voter) (k : FuncId) (p : Voter → Bool) (hx : xs.length < 2 ^ 62) (hm : mutB k = false) (hp : ∀ x, x ∈ xs → Det Tryz.prog k [.agg (encV x)] (.bool (p x))) :
    Det Tryz.prog 76 [.sl n1 (rows encV xs), .fn k []] (.bool (xs.any p)) := by
  refine fspec_det tab_ok Tryz.call76 Tryz.func76 rfl 9 Tryz.ntmps76 (of_decide_eq_true rfl) fun B => codeK_sound tab_ok _ _ _ ?_
  simp (config := { maxSteps := 4000000 }) only [go_sem, simprocAttr, ↓dnA, Tryz.f76]
  refine CallTo.det (c_slices_IndexFunc_Voter _ _ _ _ hx hm hp) fun _ => ?_
  simp (config := { maxSteps := 4000000 }) only [go_sem, simprocAttr, ↓dnA, Tryz.f76, idxF_any]


theorem eqN (a b : Nat) : (((a : Int)) == (b : Int)) = decide (a = b) := by
  rw [Bool.eq_iff_iff]; simp; omega

theorem eqN4 (a : Nat) : (((a : Int)) == 4) = decide (a = 4) := by
  rw [Bool.eq_iff_iff]; simp; omega

theorem c_impl_WorldValid (n1 n2 n3 n4 n5 : Option Bool) (w : Wld) (hx : WldSz w) : Det Tryz.prog 25 [.agg (encW n1 n2 n3 n4 n5 w)] (.bool (worldValid w)) := by
  refine fspec_det tab_ok Tryz.call25 Tryz.func25 rfl 34 Tryz.ntmps25 (of_decide_eq_true rfl) fun B => codeK_sound tab_ok _ _ _ ?_
  unfold worldValid
  have e1 : w.voters.any (fun v => !voterOk v) = !w.voters.all voterOk := any_not _ _
  have e2 : w.votes.any (fun n => !inB n 0 15) = !w.votes.all fun n => inB n 0 15 := any_not _ _
  simp (config := { maxSteps := 4000000 }) only [go_sem, simprocAttr, ↓dnA, Tryz.f25, encW]
  refine CallTo.det (c_impl_BlockTreeValid n1 n2 n3 w.tree hx.tree) fun _ => ?_
  cases h1 : treeValid w.tree with
  | false => simp (config := { maxSteps := 4000000 }) only [go_sem, simprocAttr, ↓dnA, Tryz.f25, h1]
  | true =>
    cases h2 : decide (w.voters.length = 4) with
    | false => simp (config := { maxSteps := 4000000 }) only [go_sem, simprocAttr, ↓dnA, Tryz.f25, h1, rows_length, eqN4, h2]
    | true =>
      simp (config := { maxSteps := 4000000 }) only [go_sem, simprocAttr, ↓dnA, Tryz.f25, h1, rows_length, eqN4, h2]
      refine CallTo.det (c_slices_ContainsFunc_Voter n4 w.voters _ _ hx.voters rfl fun v _ => c_impl_WorldValid1 v) fun _ => ?_
      cases h3 : w.voters.all voterOk with
      | false => simp (config := { maxSteps := 4000000 }) only [go_sem, simprocAttr, ↓dnA, Tryz.f25, h1, rows_length, eqN4, h2, e1, h3]
      | true =>
        cases h4 : decide (w.votes.length = w.tree.blocks.length) with
        | false => simp (config := { maxSteps := 4000000 }) only [go_sem, simprocAttr, ↓dnA, Tryz.f25, h1, rows_length, eqN4, h2, e1, h3, eqN, h4]
        | true =>
          simp (config := { maxSteps := 4000000 }) only [go_sem, simprocAttr, ↓dnA, Tryz.f25, h1, rows_length, eqN4, h2, e1, h3, eqN, h4]
          refine CallTo.det (c_slices_ContainsFunc_int n5 w.votes _ _ hx.votes rfl fun v _ => c_impl_WorldValid2 v) fun _ => ?_
          simp (config := { maxSteps := 4000000 }) only [go_sem, simprocAttr, ↓dnA, Tryz.f25, h1, rows_length, eqN4, h2, e1, h3, eqN, h4, e2, Bool.not_not]

theorem c_spec_WorldValid (n1 n2 n3 n4 n5 : Option Bool) (w : Wld) (hx : WldSz w) : Det Tryz.prog 45 [.agg (encW n1 n2 n3 n4 n5 w)] (.bool (worldValid w)) := by
  refine fspec_det tab_ok Tryz.call45 Tryz.func45 rfl 52 Tryz.ntmps45 (of_decide_eq_true rfl) fun B => codeK_sound tab_ok _ _ _ ?_
  have hf1 : w.voters.all voterOk = false → worldValid w = false := fun h => by unfold worldValid; rw [h]; simp
  have hf2 : w.votes.all (fun n => inB n 0 15) = false → worldValid w = false := fun h => by unfold worldValid; rw [h]; simp
  simp (config := { maxSteps := 4000000 }) only [go_sem, simprocAttr, ↓dnA, Tryz.f45, encW]
  refine semL_for tab_ok (fun i : Nat => ⟨52, [(1, .loc 1 0), (3, .int .i64 i)], [(1, .var (encW n1 n2 n3 n4 n5 w))]⟩) (fun i => w.voters.length - i)
    (fun i => i ≤ w.voters.length ∧ (w.voters.drop i).all voterOk = w.voters.all voterOk) 0 [(1, 1)] (Weak.of (by rfl) ?_ ?_ (by rfl)) ⟨by omega, rfl⟩ ?_
  · simp (config := { maxSteps := 4000000 }) only [go_sem, simprocAttr, ↓dnA, Tryz.f45, encW, frW, wk2, wk1, wkL, wkB, hpW, List.mem_cons, Prod.mk.injEq, exists_eq_left, exists_eq_right, exists_eq]
  · simp (config := { maxSteps := 4000000 }) only [go_sem, simprocAttr, ↓dnA, Tryz.f45, encW, frW, wk2, wk1, wkL, wkB, hpW, List.mem_cons, Prod.mk.injEq, exists_eq_left, exists_eq_right, exists_eq]
  rintro i ⟨hi, hp⟩
  by_cases h : i < w.voters.length
  · rw [drop_cons w.voters i h, List.all_cons] at hp
    simp (config := { maxSteps := 4000000 }) only [go_sem, simprocAttr, ↓dnA, Tryz.f45, encW, rows_length, rows_get _ _ _ h, encV, nlt h, nn0]
    refine CallTo.det (c_spec_VoterValid _ _) fun _ => ?_
    cases h1 : voterOk w.voters[i] with
    | false =>
      rw [h1, Bool.false_and] at hp
      have h1' : voterValid w.voters[i].last w.voters[i].lock = false := h1
      simp (config := { maxSteps := 4000000 }) only [go_sem, simprocAttr, ↓dnA, Tryz.f45, h1', hf1 hp.symm]
    | true =>
      rw [h1, Bool.true_and] at hp
      have h1' : voterValid w.voters[i].last w.voters[i].lock = true := h1
      simp (config := { maxSteps := 4000000 }) only [go_sem, simprocAttr, ↓dnA, Tryz.f45, h1']
      refine ⟨i + 1, [(1, 1)], ⟨by omega, hp⟩, by dsimp only; omega, Weak.of (by rfl) ?_ ?_ (by rfl)⟩
      · simp (config := { maxSteps := 4000000 }) only [go_sem, simprocAttr, ↓dnA, Tryz.f45, encW, frW, wk2, wk1, wkL, wkB, hpW, List.mem_cons, Prod.mk.injEq, exists_eq_left, exists_eq_right, exists_eq]
      · simp (config := { maxSteps := 4000000 }) only [go_sem, simprocAttr, ↓dnA, Tryz.f45, encW, wsucc h hx.voters, frW, wk2, wk1, wkL, wkB, hpW, List.mem_cons, Prod.mk.injEq, exists_eq_left, exists_eq_right, exists_eq]
  have hi' : i = w.voters.length := by omega
  subst hi'
  simp only [List.drop_length, List.all_nil] at hp
  simp (config := { maxSteps := 4000000 }) only [go_sem, simprocAttr, ↓dnA, Tryz.f45, encW, rows_length, nlf h]
  refine semL_for tab_ok (fun i : Nat => ⟨52, [(1, .loc 1 0), (4, .int .i64 i)], [(1, .var (encW n1 n2 n3 n4 n5 w))]⟩) (fun i => w.votes.length - i)
    (fun i => i ≤ w.votes.length ∧ (w.votes.drop i).all (fun n => inB n 0 15) = w.votes.all fun n => inB n 0 15) 0 [(1, 1)] (Weak.of (by rfl) ?_ ?_ (by rfl)) ⟨by omega, rfl⟩ ?_
  · simp (config := { maxSteps := 4000000 }) only [go_sem, simprocAttr, ↓dnA, Tryz.f45, encW, frW, wk2, wk1, wkL, wkB, hpW, List.mem_cons, Prod.mk.injEq, exists_eq_left, exists_eq_right, exists_eq]
  · simp (config := { maxSteps := 4000000 }) only [go_sem, simprocAttr, ↓dnA, Tryz.f45, encW, frW, wk2, wk1, wkL, wkB, hpW, List.mem_cons, Prod.mk.injEq, exists_eq_left, exists_eq_right, exists_eq]
  rintro i ⟨hi, hq⟩
  by_cases h : i < w.votes.length
  · rw [drop_cons w.votes i h, List.all_cons] at hq
    simp (config := { maxSteps := 4000000 }) only [go_sem, simprocAttr, ↓dnA, Tryz.f45, encW, rows_length, rows_get _ _ _ h, encI, nlt h, nn0]
    refine CallTo.det (c_l1In _ _ _) fun _ => ?_
    cases h1 : inB w.votes[i] 0 15 with
    | false =>
      rw [h1, Bool.false_and] at hq
      simp (config := { maxSteps := 4000000 }) only [go_sem, simprocAttr, ↓dnA, Tryz.f45, h1, hf2 hq.symm]
    | true =>
      rw [h1, Bool.true_and] at hq
      simp (config := { maxSteps := 4000000 }) only [go_sem, simprocAttr, ↓dnA, Tryz.f45, h1]
      refine ⟨i + 1, [(1, 1)], ⟨by omega, hq⟩, by dsimp only; omega, Weak.of (by rfl) ?_ ?_ (by rfl)⟩
      · simp (config := { maxSteps := 4000000 }) only [go_sem, simprocAttr, ↓dnA, Tryz.f45, encW, frW, wk2, wk1, wkL, wkB, hpW, List.mem_cons, Prod.mk.injEq, exists_eq_left, exists_eq_right, exists_eq]
      · simp (config := { maxSteps := 4000000 }) only [go_sem, simprocAttr, ↓dnA, Tryz.f45, encW, wsucc h hx.votes, frW, wk2, wk1, wkL, wkB, hpW, List.mem_cons, Prod.mk.injEq, exists_eq_left, exists_eq_right, exists_eq]
  have hi' : i = w.votes.length := by omega
  subst hi'
  simp only [List.drop_length, List.all_nil] at hq
  have hw : worldValid w = ((treeValid w.tree && decide (w.voters.length = 4)) && decide (w.votes.length = w.tree.blocks.length)) := by
    unfold worldValid; rw [← hp, ← hq]; simp
  rw [hw]
  simp (config := { maxSteps := 4000000 }) only [go_sem, simprocAttr, ↓dnA, Tryz.f45, encW, rows_length, nlf h]
  refine CallTo.det (c_spec_BlockTreeValid n1 n2 n3 w.tree hx.tree) fun _ => ?_
  cases h1 : treeValid w.tree with
  | false => simp (config := { maxSteps := 4000000 }) only [go_sem, simprocAttr, ↓dnA, Tryz.f45, encW, h1]
  | true =>
    cases h2 : decide (w.voters.length = 4) with
    | false => simp (config := { maxSteps := 4000000 }) only [go_sem, simprocAttr, ↓dnA, Tryz.f45, encW, h1, rows_length, eqN4, h2]
    | true => simp (config := { maxSteps := 4000000 }) only [go_sem, simprocAttr, ↓dnA, Tryz.f45, encW, h1, rows_length, eqN4, h2, eqN]

end Go.Proofs.YthcfafpjkbbaoaaGreat

/- Contracts: FnExactWorldValid. -/
set_option linter.unusedSimpArgs false
set_option linter.unusedVariables false
set_option maxRecDepth 20000
set_option maxHeartbeats 4000000
namespace Go.Proofs.YthcfafpjkbbaoaaGreat
open Go Go.RowKit

/-- How much a world is. -/
def wsz (w : Wld) : Nat := tsz w.tree + w.voters.length + w.votes.length
structure WldS32 (w : Wld) : Prop where
  sum : wsz w ≤ 1048576
theorem WldS32.tree {w : Wld} (h : WldS32 w) : TreeS32 w.tree := ⟨by have := h.sum; unfold wsz at this; omega⟩
theorem WldS32.voters {w : Wld} (h : WldS32 w) : w.voters.length < 2 ^ 32 := by have := h.sum; unfold wsz at this; omega
theorem WldS32.votes {w : Wld} (h : WldS32 w) : w.votes.length < 2 ^ 32 := by have := h.sum; unfold wsz at this; omega

theorem WldS32.sz {w : Wld} (h : WldS32 w) : WldSz w := ⟨h.tree.sz, by have := h.voters; omega, by have := h.votes; omega⟩

end Go.Proofs.YthcfafpjkbbaoaaGreat

/- Contracts: copies, sizes, tests and marks of certificates, bools, worlds. -/
set_option linter.unusedSimpArgs false
set_option linter.unusedVariables false
set_option maxRecDepth 20000
set_option maxHeartbeats 4000000
namespace Go.Proofs.YthcfafpjkbbaoaaGreat
open Go Go.RowKit

def encBo (b : Bool) : List AV := [.bool b]
end Go.Proofs.YthcfafpjkbbaoaaGreat

/- Worlds: new ones, their certificates, what is committed in them: plain. -/
set_option linter.unusedSimpArgs false
set_option linter.unusedVariables false
set_option maxRecDepth 20000
set_option maxHeartbeats 4000000
namespace Go.Proofs.YthcfafpjkbbaoaaGreat
open Go Go.RowKit

def noW : Wld := ⟨⟨[], [], []⟩, [], []⟩
noncomputable def worldOf (t : Tree) : Wld := if treeValid t then ⟨t, List.replicate 4 ⟨0, 0⟩, List.replicate t.blocks.length 0⟩ else noW
def encWF (w : Wld) : List AV :=
  [.osl false 2 (rows encE w.tree.base), .osl false 6 (rows encB1 w.tree.blocks), .osl false 1 (rows encI w.tree.before), .osl false 2 (rows encV w.voters), .osl false 1 (rows encI w.votes)]

theorem worldValid_parts {w : Wld} (h : worldValid w = true) : TreeOk w.tree ∧ w.voters.length = 4 ∧ (∀ v, v ∈ w.voters → voterOk v = true) ∧ w.votes.length = w.tree.blocks.length ∧ ∀ n, n ∈ w.votes → 0 ≤ n ∧ n ≤ 15 := by
  unfold worldValid at h
  simp only [Bool.and_eq_true, decide_eq_true_eq, List.all_eq_true] at h
  exact ⟨treeOk_of h.1.1.1.1, h.1.1.1.2, h.1.1.2, h.1.2, fun n hn => inB_iff.1 (h.2 n hn)⟩

/-! Valid trees and worlds are small. -/
theorem tb_ent {lo : Int} : ∀ {s : List Entry} {last : Int}, -1 ≤ last → entOk lo last s = true → s = [] ∨ (s.length : Int) ≤ 31 - last
  | [], _, _, _ => .inl rfl
  | e :: r, last, hl, h => by
    simp only [entOk, Bool.and_eq_true, inB_iff] at h
    obtain ⟨⟨h1, h2⟩, h3⟩ := h
    rcases tb_ent (by omega) h3 with e1 | e1
    · subst e1; right; simp only [List.length_cons, List.length_nil]; omega
    · right; rw [List.length_cons]; omega
theorem tb_store {s : List Entry} (h : storeValid s = true) : s.length ≤ 32 := by
  rcases tb_ent (by omega) h with e | e
  · subst e; simp
  · omega
theorem tb_list {b : Block} (h : blockValid b = true) : b.list.length ≤ 10 := by
  unfold blockValid at h
  simp only [Bool.and_eq_true] at h
  obtain ⟨⟨⟨⟨⟨_, _⟩, _⟩, _⟩, _⟩, h6⟩ := h
  unfold actionsValid at h6
  rw [Bool.and_eq_true] at h6
  exact of_decide_eq_true h6.1
theorem tb_lsum : ∀ (bs : List Block), (∀ b, b ∈ bs → b.list.length ≤ 10) → lsum bs ≤ 10 * bs.length
  | [], _ => Nat.le_refl _
  | b :: r, h => by
    have h1 := h b (List.mem_cons_self ..)
    have h2 := tb_lsum r fun c hc => h c (List.mem_cons_of_mem _ hc)
    unfold lsum
    rw [List.length_cons]
    omega
theorem treeOk_tsz {t : Tree} (ht : TreeOk t) : tsz t ≤ 200 := by
  have h1 := tb_store ht.store
  have h2 := ht.len
  have h3 := ht.bef
  have h4 := tb_lsum t.blocks fun b hb => by
    obtain ⟨i, hi, rfl⟩ := List.getElem_of_mem hb
    rw [t.blk_get i hi]
    exact tb_list (ht.valid i hi)
  unfold tsz; omega
theorem tb_s32 {t : Tree} (ht : TreeOk t) : TreeS32 t := ⟨by have := treeOk_tsz ht; omega⟩
theorem worldOk_wsz {w : Wld} (h : worldValid w = true) : wsz w ≤ 218 := by
  obtain ⟨ht, h4, _, hl, _⟩ := worldValid_parts h
  have h1 := treeOk_tsz ht
  have h2 := ht.len
  unfold wsz; omega
theorem worldOk_s32 {w : Wld} (h : worldValid w = true) : WldS32 w := ⟨by have := worldOk_wsz h; omega⟩

/-- The certificate of the block k. -/
def certAt (w : Wld) (k : Nat) : Cert := ⟨blockSum (w.tree.blk k), (w.tree.blk k).view, w.votes.getD k 0⟩
/-- The certificates of the first k blocks. -/
def certsTo (w : Wld) : Nat → List Cert
  | 0 => []
  | k + 1 => if 0 < k ∧ 0 < w.votes.getD k 0 then certsTo w k ++ [certAt w k] else certsTo w k
noncomputable def worldCerts (w : Wld) : List Cert := if worldValid w then certsTo w w.votes.length else []

theorem certsTo_len (w : Wld) : ∀ k, (certsTo w k).length ≤ k - 1
  | 0 => by simp [certsTo]
  | k + 1 => by
    have := certsTo_len w k
    unfold certsTo
    split
    · rename_i h
      simp; omega
    · omega

noncomputable def headW (w : Wld) : Int := committedTo w.tree (certsTo w w.votes.length)
noncomputable def worldHead (w : Wld) : Int := if worldValid w then headW w else -1

theorem headW_bd {w : Wld} (h : worldValid w = true) : 0 ≤ headW w ∧ headW w < w.tree.blocks.length := by
  obtain ⟨ht, h4, hv, hl, hs⟩ := worldValid_parts h
  have hlen := ht.len
  have hc := certsTo_len w w.votes.length
  obtain ⟨e1, e2⟩ := certified_ne (treeValid_true ht) (cs := certsTo w w.votes.length) (by omega)
  unfold headW committedTo
  rw [if_neg e2]
  exact bestF_bd w.tree w.tree.blocks.length _ 0 (headsL_bd _ _) (by omega)

/-- The actions of the blocks of a way. -/
def actsOf (t : Tree) (p : List Int) : List Action := p.flatMap fun n => (t.blk n.toNat).list
noncomputable def worldActions (w : Wld) : List Action := if worldValid w then actsOf w.tree (pathL w.tree (headW w)) else []

theorem actsOf_take (t : Tree) (p : List Int) (i : Nat) (h : i < p.length) : actsOf t (p.take (i + 1)) = actsOf t (p.take i) ++ (t.blk p[i].toNat).list := by
  unfold actsOf
  rw [take_snoc _ _ h, List.flatMap_append]
  simp

end Go.Proofs.YthcfafpjkbbaoaaGreat

/- Contracts: copies of worlds, new worlds, their certificates and heads. -/
set_option linter.unusedSimpArgs false
set_option linter.unusedVariables false
set_option maxRecDepth 20000
set_option maxHeartbeats 4000000
namespace Go.Proofs.YthcfafpjkbbaoaaGreat
open Go Go.RowKit

theorem rows_rep {α : Type} (e : α → List AV) (n : Nat) (x : α) : rows e (List.replicate n x) = List.replicate n (e x) := by simp [rows]
theorem c_spec_l18Copy (n1 n2 n3 n4 n5 : Option Bool) (w : Wld) (hx : TreeS32 w.tree) (h1 : w.voters.length < 2 ^ 32) (h2 : w.votes.length < 2 ^ 32) :
    Det Tryz.prog 109 [.agg (encW n1 n2 n3 n4 n5 w)] (.agg (encWF w)) := by
  refine fspec_det tab_ok Tryz.call109 Tryz.func109 rfl 15 Tryz.ntmps109 (of_decide_eq_true rfl) fun B => codeK_sound tab_ok _ _ _ ?_
  have a1 := all_rows encI AV.flat (fun _ => rfl) w.votes
  have a2 := all_rows encI AV.one (fun _ => rfl) w.votes
  have a3 := sz0_rows encI 1 (fun _ => rfl) w.votes
  have b1 := all_rows encV AV.flat (fun _ => rfl) w.voters
  have b2 := all_rows encV AV.one (fun _ => rfl) w.voters
  have b3 := sz0_rows encV 2 (fun _ => rfl) w.voters
  unfold encW encWF
  simp (config := { maxSteps := 4000000 }) only [go_sem, simprocAttr, ↓dnA, Tryz.f109, rows_length]
  refine semL_draw tab_ok mixed_ rfl (ord := [(0, []), (1, []), (4, []), (5, []), (8, []), (9, []), (2, [4, 5, 8, 9]), (3, [0, 1, 4, 5, 8, 9]), (6, [8, 9]), (7, [0, 1, 4, 5, 8, 9]), (10, []), (11, []), (12, [])]) (by dsimp only; decide +kernel) ?_
  simp (config := { maxSteps := 4000000 }) only [go_sem, simprocAttr, ↓dnA, Tryz.f109, rows_length]
  refine CallTo.det (c_spec_l13Copy n1 n2 n3 w.tree hx) fun _ => ?_
  simp (config := { maxSteps := 4000000 }) only [go_sem, simprocAttr, ↓dnA, Tryz.f109, rows_length, encTF]
  repeat refine And.intro (by first | omega | (simp; done) | (simp; omega) | assumption) ?_
  omega

theorem c_spec_WorldOf (n1 n2 n3 : Option Bool) (t : Tree) (hx : TreeS32 t) : Det Tryz.prog 23 [.agg (encT n1 n2 n3 t)] (.agg (encWF (worldOf t))) := by
  refine fspec_det tab_ok Tryz.call23 Tryz.func23 rfl 15 Tryz.ntmps23 (of_decide_eq_true rfl) fun B => codeK_sound tab_ok _ _ _ ?_
  unfold worldOf
  have hb := hx.blocks
  simp (config := { maxSteps := 4000000 }) only [go_sem, simprocAttr, ↓dnA, Tryz.f23, rows_length, encT]
  refine CallTo.det (c_spec_BlockTreeValid n1 n2 n3 t hx.sz) fun _ => ?_
  cases h0 : treeValid t with
  | false => simp (config := { maxSteps := 4000000 }) only [go_sem, simprocAttr, ↓dnA, Tryz.f23, rows_length, encT, h0, noW, encWF, rows_nil]
  | true =>
    simp (config := { maxSteps := 4000000 }) only [go_sem, simprocAttr, ↓dnA, Tryz.f23, rows_length, encT, h0]
    refine semL_draw tab_ok mixed_ rfl (ord := [(0, []), (3, []), (4, []), (5, [6]), (1, [3, 4, 5, 6]), (2, [0, 3, 4, 5, 6]), (6, [0]), (7, []), (8, [])]) (by dsimp only; decide +kernel) ?_
    simp (config := { maxSteps := 4000000 }) only [go_sem, simprocAttr, ↓dnA, Tryz.f23, rows_length, encT, h0]
    refine ⟨by omega, ?_⟩
    refine CallTo.det (c_spec_l13Copy n1 n2 n3 t hx) fun _ => ?_
    simp (config := { maxSteps := 4000000 }) only [go_sem, simprocAttr, ↓dnA, Tryz.f23, rows_length, encT, encTF, h0, encWF, rows_rep, encV, encI, List.length_replicate]
    repeat refine And.intro (by first | omega | (simp; done) | (simp; omega) | assumption) ?_
    rfl

end Go.Proofs.YthcfafpjkbbaoaaGreat

/- Contracts: votes in worlds. -/
set_option linter.unusedSimpArgs false
set_option linter.unusedVariables false
set_option maxRecDepth 20000
set_option maxHeartbeats 4000000
namespace Go.Proofs.YthcfafpjkbbaoaaGreat
open Go Go.RowKit

/-- Whether the member m is in a mask; the mask with it. -/
def hasB (v : Int) (m : Nat) : Bool := (v / 2 ^ m) % 2 == 1
def orB (v : Int) (m : Nat) : Int := if hasB v m then v else v + 2 ^ m
def andI (a b : Int) : Int := IntKind.i64.wrap ((BitVec.ofInt 64 a &&& BitVec.ofInt 64 b).toNat : Nat)
def orI (a b : Int) : Int := IntKind.i64.wrap ((BitVec.ofInt 64 a ||| BitVec.ofInt 64 b).toNat : Nat)
theorem intK_or (a b : Int) (K : AV → Prop) : intK .or .i64 .i64 a b K = K (.int .i64 (orI a b)) := propext ⟨fun h => h.2, fun h => ⟨rfl, h⟩⟩
theorem maskF : ∀ (a : Fin 16) (m : Fin 4), (andI ((a.val : Int).fdiv (2 ^ min m.val 64)) 1 == 1) = hasB a.val m.val ∧
    ((((a.val : Int).fdiv (2 ^ min m.val 64)).tmod 2 == 1) = hasB a.val m.val) ∧
    orI (a.val : Int) (IntKind.i64.wrap (1 * 2 ^ min m.val 64)) = orB a.val m.val ∧
    0 ≤ orB a.val m.val ∧ orB a.val m.val ≤ 15 := by decide +kernel
theorem mask_facts {v : Int} (h : 0 ≤ v ∧ v ≤ 15) {m : Nat} (hm : m < 4) : (andI (v.fdiv (2 ^ min m 64)) 1 == 1) = hasB v m ∧
    (((v.fdiv (2 ^ min m 64)).tmod 2 == 1) = hasB v m) ∧
    orI v (IntKind.i64.wrap (1 * 2 ^ min m 64)) = orB v m ∧ 0 ≤ orB v m ∧ orB v m ≤ 15 := by
  obtain ⟨a, rfl⟩ : ∃ a : Nat, v = (a : Int) := ⟨v.toNat, by omega⟩
  exact maskF ⟨a, by omega⟩ ⟨m, hm⟩

/-- Which blocks are certified by their votes. -/
def certW (w : Wld) : List Bool := (List.range w.votes.length).map fun i => i == 0 || decide (many (w.votes.getD i 0) ≥ 3)
theorem certW_len (w : Wld) : (certW w).length = w.votes.length := by simp [certW]
theorem certW_get (w : Wld) (i : Nat) (h : i < w.votes.length) : (certW w).getD i false = (i == 0 || decide (many w.votes[i] ≥ 3)) := by
  have hg : w.votes.getD i 0 = w.votes[i] := by rw [List.getD_eq_getElem?_getD, List.getElem?_eq_getElem h]; rfl
  rw [List.getD_eq_getElem?_getD]
  unfold certW
  rw [List.getElem?_map, List.getElem?_range h]
  show (i == 0 || decide (many (w.votes.getD i 0) ≥ 3)) = _
  rw [hg]
theorem certW_take (w : Wld) (i : Nat) (h : i < w.votes.length) : (certW w).take (i + 1) = (certW w).take i ++ [(certW w).getD i false] := take_succ_getD _ i false (by rw [certW_len]; exact h)

def VoteOk (w : Wld) (m n : Int) : Prop := (0 ≤ m ∧ m ≤ 3) ∧ (1 ≤ n ∧ n < w.votes.length) ∧ hasB (w.votes.getD n.toNat 0) m.toNat = false
def voted (w : Wld) (m n : Int) : List Int := w.votes.set n.toNat (orB (w.votes.getD n.toNat 0) m.toNat)
noncomputable def voteR (w : Wld) (m n : Int) : Voter × Bool := voteFor (w.voters.getD m.toNat ⟨0, 0⟩) w.tree (certW w) n
open Classical in
/-- A world after a vote. -/
noncomputable def voteW (w : Wld) (m n : Int) : Wld × Bool :=
  if VoteOk w m n then (if m = 3 then (⟨w.tree, w.voters, voted w m n⟩, true) else if (voteR w m n).2 then (⟨w.tree, w.voters.set m.toNat (voteR w m n).1, voted w m n⟩, true) else (w, false)) else (w, false)

theorem voteW_no {w : Wld} {m n : Int} (h : ¬ VoteOk w m n) : voteW w m n = (w, false) := by unfold voteW; rw [if_neg h]
theorem voteW_3 {w : Wld} {m n : Int} (h : VoteOk w m n) (h3 : m = 3) : voteW w m n = (⟨w.tree, w.voters, voted w m n⟩, true) := by unfold voteW; rw [if_pos h, if_pos h3]
theorem voteW_yes {w : Wld} {m n : Int} (h : VoteOk w m n) (h3 : m ≠ 3) (hr : (voteR w m n).2 = true) : voteW w m n = (⟨w.tree, w.voters.set m.toNat (voteR w m n).1, voted w m n⟩, true) := by unfold voteW; rw [if_pos h, if_neg h3, if_pos hr]
theorem voteW_not {w : Wld} {m n : Int} (h : VoteOk w m n) (h3 : m ≠ 3) (hr : (voteR w m n).2 = false) : voteW w m n = (w, false) := by unfold voteW; rw [if_pos h, if_neg h3, hr]; rfl

theorem voteW_wsz (w : Wld) (m n : Int) : wsz (voteW w m n).1 = wsz w := by
  unfold voteW
  split
  · split
    · simp [wsz, voted]
    · split
      · simp [wsz, voted]
      · rfl
  · rfl

theorem voterOk_iff (v : Voter) : voterOk v = true ↔ (0 ≤ v.last ∧ v.last ≤ 1000) ∧ 0 ≤ v.lock ∧ v.lock ≤ 1000 := by
  unfold voterOk voterValid
  simp only [Bool.and_eq_true, decide_eq_true_eq]

theorem voteFor_valid {v : Voter} {t : Tree} {c : List Bool} {n : Int} (h : (voteFor v t c n).2 = true) : voterOk (voteFor v t c n).1 = true := by
  cases h0 : voterValid v.last v.lock with
  | false => unfold voteFor at h; rw [h0, if_neg Bool.false_ne_true] at h; cases h
  | true =>
    cases h1 : mayVote v t c n with
    | false => unfold voteFor at h; rw [h0, h1, if_pos rfl, if_neg Bool.false_ne_true] at h; cases h
    | true =>
      have hm := mayOk_of h1
      have hv := (voterOk_iff v).1 h0
      obtain ⟨j, k, rfl, hj, hjb, hkb, g1, g4, g2, hcase⟩ := voteFor_ok h0 h1
      have hbj := view_bd (hm.tree.valid j hj)
      rcases hcase with ⟨hb, hd, he⟩ | ⟨i, hi, hil, g5, he⟩
      · rw [he, voterOk_iff]
        exact ⟨hbj, hv.2⟩
      · have hbi := view_bd (hm.tree.valid i hil)
        rw [he, voterOk_iff]
        refine ⟨hbj, ?_⟩
        show 0 ≤ max v.lock (t.blk i).view ∧ max v.lock (t.blk i).view ≤ 1000
        omega

theorem voteW_valid {w : Wld} (h : worldValid w = true) (m n : Int) : worldValid (voteW w m n).1 = true := by
  obtain ⟨ht, h4, hvo, hvl, hvs⟩ := worldValid_parts h
  have mk : ∀ (vs : List Voter) (ns : List Int), vs.length = 4 → (∀ v, v ∈ vs → voterOk v = true) → ns.length = w.tree.blocks.length → (∀ n, n ∈ ns → 0 ≤ n ∧ n ≤ 15) → worldValid ⟨w.tree, vs, ns⟩ = true := by
    intro vs ns a1 a2 a3 a4
    unfold worldValid
    simp only [Bool.and_eq_true, decide_eq_true_eq, List.all_eq_true]
    exact ⟨⟨⟨⟨treeValid_true ht, a1⟩, a2⟩, a3⟩, fun n hn => inB_iff.2 (a4 n hn)⟩
  by_cases hok : VoteOk w m n
  · obtain ⟨⟨h1, h2⟩, ⟨h3, h5⟩, h6⟩ := hok
    have hnl : n.toNat < w.votes.length := by omega
    have hvb : 0 ≤ w.votes.getD n.toNat 0 ∧ w.votes.getD n.toNat 0 ≤ 15 := by
      rw [List.getD_eq_getElem?_getD, List.getElem?_eq_getElem hnl]
      exact hvs _ (List.getElem_mem hnl)
    have hor := (mask_facts hvb (m := m.toNat) (by omega)).2.2.2
    have hvd : ∀ x, x ∈ voted w m n → 0 ≤ x ∧ x ≤ 15 := fun x hx => by
      unfold voted at hx
      rcases List.mem_or_eq_of_mem_set hx with e | e
      · exact hvs x e
      · rw [e]; exact hor
    have hvdl : (voted w m n).length = w.tree.blocks.length := by unfold voted; rw [List.length_set]; exact hvl
    by_cases hm3 : m = 3
    · rw [voteW_3 ⟨⟨h1, h2⟩, ⟨h3, h5⟩, h6⟩ hm3]
      exact mk _ _ h4 hvo hvdl hvd
    · cases hr : (voteR w m n).2 with
      | false => rw [voteW_not ⟨⟨h1, h2⟩, ⟨h3, h5⟩, h6⟩ hm3 hr]; exact h
      | true =>
        rw [voteW_yes ⟨⟨h1, h2⟩, ⟨h3, h5⟩, h6⟩ hm3 hr]
        refine mk _ _ (by rw [List.length_set]; exact h4) (fun v hv => ?_) hvdl hvd
        rcases List.mem_or_eq_of_mem_set hv with e | e
        · exact hvo v e
        · rw [e]; exact voteFor_valid hr
  · rw [voteW_no hok]; exact h

theorem c_spec_l18Certified (n1 n2 n3 n4 n5 : Option Bool) (w : Wld) (hvt : w.votes.length < 2 ^ 32) (hvs : ∀ n, n ∈ w.votes → 0 ≤ n ∧ n ≤ 15) :
    Det Tryz.prog 111 [.agg (encW n1 n2 n3 n4 n5 w)] (.osl true 1 (boolRows (certW w))) := by
  refine fspec_det tab_ok Tryz.call111 Tryz.func111 rfl 28 Tryz.ntmps111 (of_decide_eq_true rfl) fun B => codeK_sound tab_ok _ _ _ ?_
  simp (config := { maxSteps := 4000000 }) only [go_sem, simprocAttr, ↓dnA, Tryz.f111, rows_length, boolRows_length, encW]
  refine semL_for tab_ok (fun i : Nat => ⟨28, [(1, .loc 1 0), (3, .row 600 i), (4, .int .i64 i)], [(1, .var (encW n1 n2 n3 n4 n5 w)), (600, .row true true 1 (boolRows ((certW w).take i)))]⟩) (fun i => w.votes.length - i)
    (fun i => i ≤ w.votes.length) 0 [(1, 1), (5, 600)] (Weak.of (by rfl) ?_ ?_ (by rfl)) (by omega) ?_
  · simp (config := { maxSteps := 4000000 }) only [go_sem, simprocAttr, ↓dnA, Tryz.f111, rows_length, boolRows_length, encW, frW, wk2, wk1, wkL, wkB, hpW, List.mem_cons, Prod.mk.injEq, exists_eq_left, exists_eq_right, exists_eq]
    try rfl
  · simp (config := { maxSteps := 4000000 }) only [go_sem, simprocAttr, ↓dnA, Tryz.f111, rows_length, boolRows_length, nc0, frW, wk2, wk1, wkL, wkB, hpW, List.mem_cons, Prod.mk.injEq, exists_eq_left, exists_eq_right, exists_eq]
  · rintro i hi
    have hcl := certW_len w
    by_cases h : i < w.votes.length
    · have hw : IntKind.i64.wrap ((i : Int) + 1) = ((i + 1 : Nat) : Int) := wsucc h (by omega)
      have hg := certW_get w i h
      have hst := certW_take w i h
      have htl : ((certW w).take i).length = i := by rw [List.length_take]; omega
      have htk : (boolRows ((certW w).take i)).take i = boolRows ((certW w).take i) := by rw [List.take_of_length_le]; rw [boolRows_length, htl]; omega
      have hsn : ∀ b : Bool, boolRows ((certW w).take i) ++ [[.bool b]] = boolRows ((certW w).take i ++ [b]) := fun b => rows_snoc encBo _ b
      by_cases h0 : i = 0
      · have hz : ((i : Int) == 0) = true := by simp; omega
        have hgt : (certW w).getD i false = true := by rw [hg]; simp [h0]
        rw [hgt] at hst
        simp (config := { maxSteps := 4000000 }) only [go_sem, simprocAttr, ↓dnA, Tryz.f111, rows_length, boolRows_length, encW, nlt h, h, nn0, hz, htl, htk, hw]
        repeat refine And.intro (by first | omega | (simp; done) | (simp; omega) | assumption) ?_
        refine ⟨i + 1, [(1, 1), (26, 600)], by omega, by dsimp only; omega, Weak.of (by rfl) ?_ ?_ (by rfl)⟩
        · simp (config := { maxSteps := 4000000 }) only [go_sem, simprocAttr, ↓dnA, Tryz.f111, rows_length, boolRows_length, encW, hst, hsn, frW, wk2, wk1, wkL, wkB, hpW, List.mem_cons, Prod.mk.injEq, exists_eq_left, exists_eq_right, exists_eq]
        · simp (config := { maxSteps := 4000000 }) only [go_sem, simprocAttr, ↓dnA, Tryz.f111, rows_length, boolRows_length, frW, wk2, wk1, wkL, wkB, hpW, List.mem_cons, Prod.mk.injEq, exists_eq_left, exists_eq_right, exists_eq]
      · have hz : ((i : Int) == 0) = false := by simp; omega
        have hb := hvs _ (List.getElem_mem h)
        have hgt : (certW w).getD i false = decide (many w.votes[i] ≥ 3) := by rw [hg]; simp [h0]
        rw [hgt] at hst
        simp (config := { maxSteps := 4000000 }) only [go_sem, simprocAttr, ↓dnA, Tryz.f111, rows_length, boolRows_length, encW, nlt h, h, nn0, hz, rows_get _ _ _ h, encI]
        refine CallTo.det (c_spec_l15Many _ hb) fun _ => ?_
        simp (config := { maxSteps := 4000000 }) only [go_sem, simprocAttr, ↓dnA, Tryz.f111, rows_length, boolRows_length, encW, nlt h, h, nn0, hz, rows_get _ _ _ h, encI, htl, htk, hw]
        repeat refine And.intro (by first | omega | (simp; done) | (simp; omega) | assumption) ?_
        refine ⟨i + 1, [(1, 1), (26, 600)], by omega, by dsimp only; omega, Weak.of (by rfl) ?_ ?_ (by rfl)⟩
        · simp (config := { maxSteps := 4000000 }) only [go_sem, simprocAttr, ↓dnA, Tryz.f111, rows_length, boolRows_length, encW, hst, hsn, frW, wk2, wk1, wkL, wkB, hpW, List.mem_cons, Prod.mk.injEq, exists_eq_left, exists_eq_right, exists_eq]
        · simp (config := { maxSteps := 4000000 }) only [go_sem, simprocAttr, ↓dnA, Tryz.f111, rows_length, boolRows_length, frW, wk2, wk1, wkL, wkB, hpW, List.mem_cons, Prod.mk.injEq, exists_eq_left, exists_eq_right, exists_eq]
    · have hi' : i = w.votes.length := by omega
      subst hi'
      have htl : (certW w).take w.votes.length = certW w := by rw [List.take_of_length_le]; omega
      simp (config := { maxSteps := 4000000 }) only [go_sem, simprocAttr, ↓dnA, Tryz.f111, rows_length, boolRows_length, encW, nlf h, htl, hcl]

end Go.Proofs.YthcfafpjkbbaoaaGreat

/- Contracts: worlds after a vote. -/
set_option linter.unusedSimpArgs false
set_option linter.unusedVariables false
set_option maxRecDepth 20000
set_option maxHeartbeats 4000000
namespace Go.Proofs.YthcfafpjkbbaoaaGreat
open Go Go.RowKit

noncomputable def worldVote (w : Wld) (m n : Int) : Wld × Bool := if worldValid w then voteW w m n else (noW, false)
theorem worldVote_yes {w : Wld} (h : worldValid w = true) (m n : Int) : worldVote w m n = voteW w m n := by unfold worldVote; rw [if_pos h]
theorem worldVote_no {w : Wld} (h : worldValid w = false) (m n : Int) : worldVote w m n = (noW, false) := by unfold worldVote; rw [h]; rfl
theorem c_spec_WorldVote (n1 n2 n3 n4 n5 : Option Bool) (w : Wld) (m n : Int) (hx : WldSz w) :
    Det Tryz.prog 36 [.agg (encW n1 n2 n3 n4 n5 w), .int .i64 m, .int .i64 n] (.tup [.agg (encWF (worldVote w m n).1), .bool (worldVote w m n).2]) := by
  refine fspec_det tab_ok Tryz.call36 Tryz.func36 rfl 78 Tryz.ntmps36 (of_decide_eq_true rfl) fun B => codeK_sound tab_ok _ _ _ ?_
  simp (config := { maxSteps := 4000000 }) only [go_sem, simprocAttr, ↓dnA, Tryz.f36, rows_length, encW, encWF]
  refine CallTo.det (c_spec_WorldValid n1 n2 n3 n4 n5 w hx) fun _ => ?_
  cases h0 : worldValid w with
  | false => simp (config := { maxSteps := 4000000 }) only [go_sem, simprocAttr, ↓dnA, Tryz.f36, rows_length, encW, encWF, h0, worldVote_no h0, noW, rows_nil]
  | true =>
    have hs := worldOk_s32 h0
    obtain ⟨ht, h4, hvo, hvl, hvs⟩ := worldValid_parts h0
    have hlen := ht.len
    have hw : IntKind.i64.wrap ((w.votes.length : Int) - 1) = (w.votes.length : Int) - 1 := wrap_small _ (by omega) (by omega)
    rw [worldVote_yes h0]
    simp (config := { maxSteps := 4000000 }) only [go_sem, simprocAttr, ↓dnA, Tryz.f36, rows_length, encW, encWF, h0]
    refine CallTo.det (c_spec_l18Copy n1 n2 n3 n4 n5 w hs.tree hs.voters hs.votes) fun _ => ?_
    simp (config := { maxSteps := 4000000 }) only [go_sem, simprocAttr, ↓dnA, Tryz.f36, rows_length, encW, encWF, h0, hw]
    refine CallTo.det (c_l1In _ _ _) fun _ => ?_
    cases q1 : inB m 0 3 with
    | false =>
      have hno := voteW_no (w := w) (m := m) (n := n) (fun e => by have := inB_iff.2 e.1; rw [q1] at this; cases this)
      simp (config := { maxSteps := 4000000 }) only [go_sem, simprocAttr, ↓dnA, Tryz.f36, rows_length, encW, encWF, h0, hw, q1, hno]
    | true =>
      have hm := inB_iff.1 q1
      obtain ⟨a, rfl⟩ : ∃ a : Nat, m = (a : Int) := ⟨m.toNat, by omega⟩
      simp (config := { maxSteps := 4000000 }) only [go_sem, simprocAttr, ↓dnA, Tryz.f36, rows_length, encW, encWF, h0, hw, q1]
      refine CallTo.det (c_l1In _ _ _) fun _ => ?_
      cases q2 : inB n 1 ((w.votes.length : Int) - 1) with
      | false =>
        have hno := voteW_no (w := w) (m := (a : Int)) (n := n) (fun e => by have h := e.2.1; have := inB_iff.2 (show 1 ≤ n ∧ n ≤ (w.votes.length : Int) - 1 by omega); rw [q2] at this; cases this)
        simp (config := { maxSteps := 4000000 }) only [go_sem, simprocAttr, ↓dnA, Tryz.f36, rows_length, encW, encWF, h0, hw, q1, q2, hno]
      | true =>
        have hn := inB_iff.1 q2
        obtain ⟨b, rfl⟩ : ∃ b : Nat, n = (b : Int) := ⟨n.toNat, by omega⟩
        have hbl : b < w.votes.length := by omega
        have hgb : w.votes.getD b 0 = w.votes[b] := by rw [List.getD_eq_getElem?_getD, List.getElem?_eq_getElem hbl]; rfl
        have hvb := hvs _ (List.getElem_mem hbl)
        have ha4 : a < 4 := by omega
        obtain ⟨k1, k2, k3, k4, k5⟩ := mask_facts hvb ha4
        cases q3 : hasB w.votes[b] a with
        | true =>
          have hno := voteW_no (w := w) (m := (a : Int)) (n := (b : Int)) (fun e => by have h := e.2.2; rw [Int.toNat_natCast, Int.toNat_natCast, hgb, q3] at h; cases h)
          rw [q3] at k2
          simp (config := { maxSteps := 4000000 }) only [go_sem, simprocAttr, ↓dnA, Tryz.f36, rows_length, encW, encWF, h0, hw, q1, q2, nlt hbl, hbl, nn0, rows_get _ _ _ hbl, encI, k2, hno]
        | false =>
          have hok : VoteOk w (a : Int) (b : Int) := ⟨hm, by omega, by rw [Int.toNat_natCast, Int.toNat_natCast, hgb]; exact q3⟩
          have hvd : voted w (a : Int) (b : Int) = w.votes.set b (orB w.votes[b] a) := by unfold voted; rw [Int.toNat_natCast, Int.toNat_natCast, hgb]
          have hrs : (rows encI w.votes).set b [.int .i64 (orB w.votes[b] a)] = rows encI (w.votes.set b (orB w.votes[b] a)) := by rw [← rows_set]; rfl
          rw [q3] at k2
          by_cases hm3 : (a : Int) = 3
          · have hne : decide ((a : Int) < 3) = false := by simp; omega
            have hr := voteW_3 hok hm3
            rw [hvd] at hr
            simp (config := { maxSteps := 4000000 }) only [go_sem, simprocAttr, ↓dnA, Tryz.f36, rows_length, encW, encWF, h0, hw, q1, q2, nlt hbl, hbl, nn0, rows_get _ _ _ hbl, encI, k2, hne]
            refine semL_draw tab_ok mixed_ rfl (ord := [(0, []), (1, []), (2, []), (3, []), (4, []), (5, []), (6, []), (7, []), (8, []), (9, []), (10, []), (11, []), (12, [])]) (by dsimp only; decide +kernel) ?_
            simp (config := { maxSteps := 4000000 }) only [go_sem, simprocAttr, ↓dnA, Tryz.f36, rows_length, encW, encWF, h0, hw, q1, q2, nlt hbl, hbl, nn0, rows_get _ _ _ hbl, encI, k2, hne, ↓intK_or, k3, spliceL, hr, hrs, List.length_set]
          · have hne : decide ((a : Int) < 3) = true := by simp; omega
            have hav : a < w.voters.length := by omega
            have hgv : w.voters.getD a ⟨0, 0⟩ = w.voters[a] := by rw [List.getD_eq_getElem?_getD, List.getElem?_eq_getElem hav]; rfl
            have hre : voteR w (a : Int) (b : Int) = voteFor w.voters[a] w.tree (certW w) (b : Int) := by unfold voteR; rw [Int.toNat_natCast, hgv]
            have ev : encV w.voters[a] = [.int .i64 w.voters[a].last, .int .i64 w.voters[a].lock] := rfl
            have hcl := certW_len w
            simp (config := { maxSteps := 4000000 }) only [go_sem, simprocAttr, ↓dnA, Tryz.f36, rows_length, encW, encWF, h0, hw, q1, q2, nlt hbl, hbl, nn0, rows_get _ _ _ hbl, encI, k2, hne]
            refine semL_draw tab_ok mixed_ rfl (ord := [(0, []), (1, []), (2, []), (3, []), (4, []), (5, []), (6, []), (7, []), (9, []), (8, [0, 1, 2, 3, 4, 5, 6, 9]), (10, []), (11, []), (12, []), (13, []), (14, [0, 1, 2, 3, 4, 5, 6, 7, 9, 11, 12, 13]), (15, [13]), (16, [])]) (by dsimp only; decide +kernel) ?_
            simp (config := { maxSteps := 4000000 }) only [go_sem, simprocAttr, ↓dnA, Tryz.f36, rows_length, encW, encWF, h0, hw, q1, q2, nlt hbl, hbl, nn0, rows_get _ _ _ hbl, encI, k2, hne, nlt hav, hav, rows_get _ _ _ hav, ev]
            refine CallTo.det (c_spec_l18Certified n1 n2 n3 n4 n5 w hs.votes hvs) fun _ => ?_
            simp (config := { maxSteps := 4000000 }) only [go_sem, simprocAttr, ↓dnA, Tryz.f36, rows_length, encW, encWF, h0, hw, q1, q2, nlt hbl, hbl, nn0, rows_get _ _ _ hbl, encI, k2, hne, nlt hav, hav, rows_get _ _ _ hav, ev]
            refine CallTo.det (c_spec_VoteFor n1 n2 n3 (some true) w.voters[a] w.tree (certW w) (b : Int) hs.tree.sz (by omega)) fun _ => ?_
            have hy := voteW_yes hok hm3
            have hnt := voteW_not hok hm3
            rw [hre, hvd] at hy
            rw [hre] at hnt
            generalize voteFor w.voters[a] w.tree (certW w) (b : Int) = r at hy hnt
            obtain ⟨x, ok⟩ := r
            dsimp only at hy hnt ⊢
            cases ok with
            | false =>
              have hnt := hnt rfl
              simp (config := { maxSteps := 4000000 }) only [go_sem, simprocAttr, ↓dnA, Tryz.f36, rows_length, encW, encWF, h0, hw, q1, q2, nlt hbl, hbl, nn0, rows_get _ _ _ hbl, encI, k2, hne, nlt hav, hav, rows_get _ _ _ hav, encV, hnt]
            | true =>
              have hy := hy rfl
              rw [Int.toNat_natCast] at hy
              have hrv : (rows encV w.voters).set a [.int .i64 x.last, .int .i64 x.lock] = rows encV (w.voters.set a x) := by rw [← rows_set]; rfl
              simp (config := { maxSteps := 4000000 }) only [go_sem, simprocAttr, ↓dnA, Tryz.f36, rows_length, encW, encWF, h0, hw, q1, q2, nlt hbl, hbl, nn0, rows_get _ _ _ hbl, encI, k2, hne, nlt hav, hav, rows_get _ _ _ hav, encV, spliceL, List.length_set]
              refine semL_draw tab_ok mixed_ rfl (ord := [(0, []), (1, []), (2, []), (3, []), (4, []), (5, []), (6, []), (7, []), (8, []), (9, []), (10, []), (11, []), (12, [])]) (by dsimp only; decide +kernel) ?_
              simp (config := { maxSteps := 4000000 }) only [go_sem, simprocAttr, ↓dnA, Tryz.f36, rows_length, encW, encWF, h0, hw, q1, q2, nlt hbl, hbl, nn0, rows_get _ _ _ hbl, encI, k2, hne, nlt hav, hav, rows_get _ _ _ hav, encV, ↓intK_or, k3, spliceL, hy, hrs, hrv, List.length_set]

end Go.Proofs.YthcfafpjkbbaoaaGreat

/- Contracts: worlds after votes. -/
set_option linter.unusedSimpArgs false
set_option linter.unusedVariables false
set_option maxRecDepth 20000
set_option maxHeartbeats 4000000
namespace Go.Proofs.YthcfafpjkbbaoaaGreat
open Go Go.RowKit

noncomputable def stepV (p : Wld × Int) (m : Int) : Wld × Int := ((voteW p.1 (m.tmod 4) (m.tdiv 4)).1, if (voteW p.1 (m.tmod 4) (m.tdiv 4)).2 then p.2 + 1 else p.2)
noncomputable def runW (w : Wld) (sc : List Int) : Wld × Int := sc.foldl stepV (w, 0)
def ScOk (sc : List Int) : Prop := sc.length ≤ 100 ∧ (sc.all fun m => inB m 0 1000) = true
open Classical in
noncomputable def worldRun (w : Wld) (sc : List Int) : Wld × Int := if worldValid w = true ∧ ScOk sc then runW w sc else (noW, -1)

theorem worldRun_yes {w : Wld} {sc : List Int} (h : worldValid w = true) (hs : ScOk sc) : worldRun w sc = runW w sc := by unfold worldRun; rw [if_pos ⟨h, hs⟩]
theorem worldRun_no {w : Wld} {sc : List Int} (h : ¬ (worldValid w = true ∧ ScOk sc)) : worldRun w sc = (noW, -1) := by unfold worldRun; rw [if_neg h]
theorem runW_take (w : Wld) (sc : List Int) (i : Nat) (h : i < sc.length) : runW w (sc.take (i + 1)) = stepV (runW w (sc.take i)) sc[i] := by
  unfold runW; rw [take_snoc _ _ h, List.foldl_append]; rfl
theorem runW_ok {w : Wld} (hv : worldValid w = true) (sc : List Int) : ∀ i, i ≤ sc.length → worldValid (runW w (sc.take i)).1 = true ∧ wsz (runW w (sc.take i)).1 = wsz w ∧ 0 ≤ (runW w (sc.take i)).2 ∧ (runW w (sc.take i)).2 ≤ i
  | 0, _ => ⟨hv, rfl, by simp [runW], by simp [runW]⟩
  | i + 1, hi => by
    obtain ⟨h1, h2, h3, h4⟩ := runW_ok hv sc i (by omega)
    rw [runW_take w sc i (by omega)]
    refine ⟨voteW_valid h1 _ _, ?_, ?_, ?_⟩
    · show wsz (voteW _ _ _).1 = _; rw [voteW_wsz, h2]
    · unfold stepV; dsimp only; split <;> omega
    · unfold stepV; dsimp only; split <;> omega
theorem c_spec_WorldRun (n1 n2 n3 n4 n5 n6 : Option Bool) (w : Wld) (sc : List Int) (hx : WldSz w) (hsc : sc.length < 2 ^ 62) :
    Det Tryz.prog 39 [.agg (encW n1 n2 n3 n4 n5 w), .sl n6 (rows encI sc)] (.tup [.agg (encWF (worldRun w sc).1), .int .i64 (worldRun w sc).2]) := by
  refine fspec_det tab_ok Tryz.call39 Tryz.func39 rfl 56 Tryz.ntmps39 (of_decide_eq_true rfl) fun B => codeK_sound tab_ok _ _ _ ?_
  simp (config := { maxSteps := 4000000 }) only [go_sem, simprocAttr, ↓dnA, Tryz.f39, rows_length, encW, encWF]
  refine CallTo.det (c_spec_WorldValid n1 n2 n3 n4 n5 w hx) fun _ => ?_
  cases h0 : worldValid w with
  | false =>
    have hno := worldRun_no (w := w) (sc := sc) (fun e => by rw [h0] at e; cases e.1)
    simp (config := { maxSteps := 4000000 }) only [go_sem, simprocAttr, ↓dnA, Tryz.f39, rows_length, encW, encWF, h0, hno, noW, rows_nil]
  | true =>
    by_cases h100 : (sc.length : Int) > 100
    · have hno := worldRun_no (w := w) (sc := sc) (fun e => by have := e.2.1; omega)
      simp (config := { maxSteps := 4000000 }) only [go_sem, simprocAttr, ↓dnA, Tryz.f39, rows_length, encW, encWF, h0, decide_eq_true h100, hno, noW, rows_nil]
    · have d100 := decide_eq_false h100
      have hs := worldOk_s32 h0
      simp (config := { maxSteps := 4000000 }) only [go_sem, simprocAttr, ↓dnA, Tryz.f39, rows_length, encW, encWF, h0, d100]
      refine CallTo.det (c_spec_l18Copy n1 n2 n3 n4 n5 w hs.tree hs.voters hs.votes) fun _ => ?_
      simp (config := { maxSteps := 4000000 }) only [go_sem, simprocAttr, ↓dnA, Tryz.f39, rows_length, encW, encWF, h0, d100]
      refine semL_for tab_ok (fun i : Nat => ⟨56, [(1, .sl n6 (rows encI sc)), (4, .loc 4 0), (6, .int .i64 (runW w (sc.take i)).2), (7, .loc 7 0), (8, .int .i64 i)],
          [(4, .var [.sl (some false) [], .sl (some false) [], .sl (some false) [], .sl (some false) [], .sl (some false) []]),
            (7, .var [.row 601 (runW w (sc.take i)).1.tree.base.length, .row 602 (runW w (sc.take i)).1.tree.blocks.length, .row 603 (runW w (sc.take i)).1.tree.before.length, .row 604 (runW w (sc.take i)).1.voters.length, .row 605 (runW w (sc.take i)).1.votes.length]),
            (601, .row true false 2 (rows encE (runW w (sc.take i)).1.tree.base)), (602, .row true false 6 (rows encB1 (runW w (sc.take i)).1.tree.blocks)), (603, .row true false 1 (rows encI (runW w (sc.take i)).1.tree.before)), (604, .row true false 2 (rows encV (runW w (sc.take i)).1.voters)), (605, .row true false 1 (rows encI (runW w (sc.take i)).1.votes))]⟩) (fun i => sc.length - i)
        (fun i => i ≤ sc.length ∧ ((sc.take i).all fun m => inB m 0 1000) = true) 0 [(4, 4), (7, 7), (22000, 601), (22001, 602), (22002, 603), (22003, 604), (22004, 605)] (Weak.of (by rfl) ?_ ?_ (by rfl)) ⟨by omega, rfl⟩ ?_
      · simp (config := { maxSteps := 4000000 }) only [go_sem, simprocAttr, ↓dnA, Tryz.f39, rows_length, encW, encWF, List.take_zero, runW, List.foldl_nil, frW, wk2, wk1, wkL, wkB, hpW, List.mem_cons, Prod.mk.injEq, exists_eq_left, exists_eq_right, exists_eq]
        try rfl
      · simp (config := { maxSteps := 4000000 }) only [go_sem, simprocAttr, ↓dnA, Tryz.f39, rows_length, encW, encWF, nc0, List.take_zero, runW, List.foldl_nil, frW, wk2, wk1, wkL, wkB, hpW, List.mem_cons, Prod.mk.injEq, exists_eq_left, exists_eq_right, exists_eq]
        try rfl
      · rintro i ⟨hi, hal⟩
        obtain ⟨r1, r2, r3, r4⟩ := runW_ok h0 sc i hi
        by_cases h : i < sc.length
        · have hw : IntKind.i64.wrap ((i : Int) + 1) = ((i + 1 : Nat) : Int) := wsucc h (by omega)
          have hst := runW_take w sc i h
          simp (config := { maxSteps := 4000000 }) only [go_sem, simprocAttr, ↓dnA, Tryz.f39, rows_length, encW, encWF, nlt h, h, nn0, rows_get _ _ _ h, encI]
          refine CallTo.det (c_l1In _ _ _) fun _ => ?_
          cases hb0 : inB sc[i] 0 1000 with
          | false =>
            have hno := worldRun_no (w := w) (sc := sc) (fun e => by
              have := List.all_eq_true.1 e.2.2 _ (List.getElem_mem h)
              rw [hb0] at this; cases this)
            simp (config := { maxSteps := 4000000 }) only [go_sem, simprocAttr, ↓dnA, Tryz.f39, rows_length, encW, encWF, nlt h, h, nn0, rows_get _ _ _ h, encI, hb0, hno, noW, rows_nil]
          | true =>
            have hb := inB_iff.1 hb0
            have hal' : ((sc.take (i + 1)).all fun m => inB m 0 1000) = true := by
              rw [take_snoc _ _ h, List.all_append, hal, List.all_cons, hb0]; rfl
            generalize runW w (sc.take i) = p at r1 r2 r3 r4 hst
            obtain ⟨u, d⟩ := p
            dsimp only at r1 r2 r3 r4
            have t1 : IntKind.i64.wrap (sc[i].tdiv 4) = sc[i].tdiv 4 := by
              have : sc[i].tdiv 4 = sc[i] / 4 := Int.tdiv_eq_ediv_of_nonneg hb.1
              rw [this]
              exact wrap_small _ (by omega) (by omega)
            have hwd : IntKind.i64.wrap (d + 1) = d + 1 := wrap_small _ (by omega) (by omega)
            simp (config := { maxSteps := 4000000 }) only [go_sem, simprocAttr, ↓dnA, Tryz.f39, rows_length, encW, encWF, nlt h, h, nn0, rows_get _ _ _ h, encI, hb0]
            refine semL_draw tab_ok mixed_ rfl (ord := [(0, []), (1, []), (2, []), (3, []), (4, []), (5, []), (6, []), (7, []), (8, []), (9, []), (10, []), (11, []), (12, []), (13, []), (14, []), (15, [0, 1, 2, 3, 4, 5, 6, 7, 8, 9, 10, 12, 13, 14]), (16, [14]), (17, [])]) (by dsimp only; decide +kernel) ?_
            simp (config := { maxSteps := 4000000 }) only [go_sem, simprocAttr, ↓dnA, Tryz.f39, rows_length, encW, encWF, nlt h, h, nn0, rows_get _ _ _ h, encI, hb0, t1]
            refine CallTo.det (c_spec_WorldVote none none none none none u (sc[i].tmod 4) (sc[i].tdiv 4) (worldOk_s32 r1).sz) fun _ => ?_
            rw [worldVote_yes r1]
            unfold stepV at hst
            dsimp only at hst
            generalize voteW u (sc[i].tmod 4) (sc[i].tdiv 4) = r at hst
            obtain ⟨x, ok⟩ := r
            dsimp only at hst
            cases ok with
            | false =>
              rw [if_neg Bool.false_ne_true] at hst
              simp (config := { maxSteps := 4000000 }) only [go_sem, simprocAttr, ↓dnA, Tryz.f39, rows_length, encW, encWF, nlt h, h, nn0, rows_get _ _ _ h, encI, hb0, t1, hw]
              refine ⟨i + 1, [(4, 4), (7, 7), (48000, 601), (48001, 602), (48002, 603), (48003, 604), (48004, 605)], ⟨by omega, hal'⟩, by dsimp only; omega, Weak.of (by rfl) ?_ ?_ (by rfl)⟩
              · simp (config := { maxSteps := 4000000 }) only [go_sem, simprocAttr, ↓dnA, Tryz.f39, rows_length, encW, encWF, hst, frW, wk2, wk1, wkL, wkB, hpW, List.mem_cons, Prod.mk.injEq, exists_eq_left, exists_eq_right, exists_eq]
              · simp (config := { maxSteps := 4000000 }) only [go_sem, simprocAttr, ↓dnA, Tryz.f39, rows_length, encW, encWF, hst, frW, wk2, wk1, wkL, wkB, hpW, List.mem_cons, Prod.mk.injEq, exists_eq_left, exists_eq_right, exists_eq]
            | true =>
              rw [if_pos rfl] at hst
              simp (config := { maxSteps := 4000000 }) only [go_sem, simprocAttr, ↓dnA, Tryz.f39, rows_length, encW, encWF, nlt h, h, nn0, rows_get _ _ _ h, encI, hb0, t1, hwd, hw]
              refine ⟨i + 1, [(4, 4), (7, 7), (48000, 601), (48001, 602), (48002, 603), (48003, 604), (48004, 605)], ⟨by omega, hal'⟩, by dsimp only; omega, Weak.of (by rfl) ?_ ?_ (by rfl)⟩
              · simp (config := { maxSteps := 4000000 }) only [go_sem, simprocAttr, ↓dnA, Tryz.f39, rows_length, encW, encWF, hst, frW, wk2, wk1, wkL, wkB, hpW, List.mem_cons, Prod.mk.injEq, exists_eq_left, exists_eq_right, exists_eq]
              · simp (config := { maxSteps := 4000000 }) only [go_sem, simprocAttr, ↓dnA, Tryz.f39, rows_length, encW, encWF, hst, frW, wk2, wk1, wkL, wkB, hpW, List.mem_cons, Prod.mk.injEq, exists_eq_left, exists_eq_right, exists_eq]
        · have hi' : i = sc.length := by omega
          subst hi'
          rw [List.take_length] at hal
          have hyes := worldRun_yes h0 (sc := sc) ⟨by omega, hal⟩
          simp (config := { maxSteps := 4000000 }) only [go_sem, simprocAttr, ↓dnA, Tryz.f39, rows_length, encW, encWF, nlf h, List.take_length, hyes]

end Go.Proofs.YthcfafpjkbbaoaaGreat

/- Contracts: drawn votes and worlds; FnWorldValid. -/
set_option linter.unusedSimpArgs false
set_option linter.unusedVariables false
set_option maxRecDepth 20000
set_option maxHeartbeats 4000000
namespace Go.Proofs.YthcfafpjkbbaoaaGreat
open Go Go.RowKit

def VotesQ (nb : Option Bool) (bs : List Int) (p : Int) (n : Nat) (r : AV) (b : List AV) : Prop := ∃ (l : List Int) (q : Int), r = .osl true 1 (rows encI l) ∧ b = rd nb bs q ∧ p ≤ q ∧ q ≤ p + 100 ∧ l.length + 5 ≤ 5 * n ∧ ∀ x, x ∈ l → 0 ≤ x ∧ x ≤ 1000

theorem c_spec_l20Votes (nb : Option Bool) (bs : List Int) (p : Int) (n : Nat) (h : RdOk bs p) (hp : p ≤ 999999000) (hn : 1 ≤ n ∧ n ≤ 14) : FSpec Tryz.prog 104 [.loc 0 0, .int .i64 (n : Nat)] true (rd nb bs p) (VotesQ nb bs p n) := by
  refine fspec_rel tab_ok Tryz.call104 Tryz.func104 rfl 39 Tryz.ntmps104 (of_decide_eq_true rfl) fun B => codeK_sound tab_ok _ _ _ ?_
  unfold rd
  simp (config := { maxSteps := 4000000 }) only [go_sem, simprocAttr, ↓dnA, Tryz.f104, rows_length]
  refine semL_for tab_ok (fun s : List Int × Nat × Int => ⟨39, [(0, .loc 900 0), (1, .int .i64 (n : Nat)), (4, .sl (some false) []), (5, .row 600 s.1.length), (6, .int .i64 s.2.1)], [(900, .var (rd nb bs s.2.2)), (600, .row true true 1 (rows encI s.1))]⟩) (fun s => n - s.2.1)
    (fun s => 1 ≤ s.2.1 ∧ s.2.1 ≤ n ∧ s.1.length + 5 ≤ 5 * s.2.1 ∧ p ≤ s.2.2 ∧ s.2.2 + 6 ≤ p + 6 * s.2.1 ∧ ∀ x, x ∈ s.1 → 0 ≤ x ∧ x ≤ 1000) ([], 1, p) [(900, 900), (8, 600)] (Weak.of (by rfl) ?_ ?_ (by rfl)) ⟨by dsimp only; omega, by dsimp only; omega, by dsimp only; simp, by dsimp only; omega, by dsimp only; omega, fun x hx => by cases hx⟩ ?_
  · simp (config := { maxSteps := 4000000 }) only [go_sem, simprocAttr, ↓dnA, Tryz.f104, rows_length, rd, frW, wk2, wk1, wkL, wkB, hpW, List.mem_cons, Prod.mk.injEq, exists_eq_left, exists_eq_right, exists_eq]
    try rfl
  · simp (config := { maxSteps := 4000000 }) only [go_sem, simprocAttr, ↓dnA, Tryz.f104, rows_length, rd, frW, wk2, wk1, wkL, wkB, hpW, List.mem_cons, Prod.mk.injEq, exists_eq_left, exists_eq_right, exists_eq]
    try rfl
  · rintro ⟨l, k, q⟩ ⟨i0, i1, i2, i3, i4, i5⟩
    dsimp only at i0 i1 i2 i3 i4 i5 ⊢
    by_cases hk : k < n
    · have hwk : IntKind.i64.wrap ((k : Int) + 1) = ((k + 1 : Nat) : Int) := wsucc hk (by omega)
      simp (config := { maxSteps := 4000000 }) only [go_sem, simprocAttr, ↓dnA, Tryz.f104, rows_length, rd, nlt hk]
      refine semL_for tab_ok (fun s : List Int × Nat × Int => ⟨39, [(0, .loc 900 0), (1, .int .i64 (n : Nat)), (4, .sl (some false) []), (5, .row 600 s.1.length), (6, .int .i64 (k : Nat)), (7, .int .i64 s.2.1)], [(900, .var (rd nb bs s.2.2)), (600, .row true true 1 (rows encI s.1))]⟩) (fun s => 4 - s.2.1)
        (fun s => s.2.1 ≤ 4 ∧ s.1.length ≤ l.length + s.2.1 ∧ q ≤ s.2.2 ∧ s.2.2 ≤ q + s.2.1 ∧ ∀ x, x ∈ s.1 → 0 ≤ x ∧ x ≤ 1000) (l, 0, q) [(900, 900), (600, 600)] (Weak.of (by rfl) ?_ ?_ (by rfl)) ⟨by dsimp only; omega, by dsimp only; omega, by dsimp only; omega, by dsimp only; omega, i5⟩ ?_
      · simp (config := { maxSteps := 4000000 }) only [go_sem, simprocAttr, ↓dnA, Tryz.f104, rows_length, rd, frW, wk2, wk1, wkL, wkB, hpW, List.mem_cons, Prod.mk.injEq, exists_eq_left, exists_eq_right, exists_eq]
        try rfl
      · simp (config := { maxSteps := 4000000 }) only [go_sem, simprocAttr, ↓dnA, Tryz.f104, rows_length, rd, frW, wk2, wk1, wkL, wkB, hpW, List.mem_cons, Prod.mk.injEq, exists_eq_left, exists_eq_right, exists_eq]
        try rfl
      · rintro ⟨l1, m, q1⟩ ⟨j1, j2, j3, j4, j5⟩
        dsimp only at j1 j2 j3 j4 j5 ⊢
        have hq1 := h.step (q := q1) (by omega) (by omega)
        have hr2 := h.step (q := q1 + 1) (by omega) (by omega)
        have htk : (rows encI l1).take l1.length = rows encI l1 := by rw [List.take_of_length_le]; rw [rows_length]; omega
        have hsn : ∀ v : Int, rows encI l1 ++ [[.int .i64 v]] = rows encI (l1 ++ [v]) := fun v => by rw [← rows_snoc]; rfl
        have hmem : ∀ v : Int, 0 ≤ v ∧ v ≤ 1000 → ∀ x, x ∈ l1 ++ [v] → 0 ≤ x ∧ x ≤ 1000 := fun v hv x hx => by
          rcases List.mem_append.1 hx with h | h
          · exact j5 x h
          · rw [List.mem_singleton] at h; rw [h]; exact hv
        by_cases hm : m < 4
        · have hm4 : ((m : Int) < 4) = True := by simp; omega
          have hwm : IntKind.i64.wrap ((m : Int) + 1) = ((m + 1 : Nat) : Int) := wsucc hm (by omega)
          simp (config := { maxSteps := 4000000 }) only [go_sem, simprocAttr, ↓dnA, Tryz.f104, rows_length, rd, hm4]
          refine CallTo.of (c_spec_pick nb bs q1 6 hq1) ?_
          rintro r b ⟨x, rfl, rfl, hx⟩
          cases hx0 : decide (x > 0) with
          | false =>
            simp (config := { maxSteps := 4000000 }) only [go_sem, simprocAttr, ↓dnA, Tryz.f104, rows_length, rd, hm4, hx0, hwm]
            refine ⟨(l1, m + 1, q1 + 1), [(900, 900), (600, 600)], ⟨by dsimp only; omega, by dsimp only; omega, by dsimp only; omega, by dsimp only; omega, j5⟩, by dsimp only; omega, Weak.of (by rfl) ?_ ?_ (by rfl)⟩
            · simp (config := { maxSteps := 4000000 }) only [go_sem, simprocAttr, ↓dnA, Tryz.f104, rows_length, rd, frW, wk2, wk1, wkL, wkB, hpW, List.mem_cons, Prod.mk.injEq, exists_eq_left, exists_eq_right, exists_eq]
              try rfl
            · simp (config := { maxSteps := 4000000 }) only [go_sem, simprocAttr, ↓dnA, Tryz.f104, rows_length, rd, frW, wk2, wk1, wkL, wkB, hpW, List.mem_cons, Prod.mk.injEq, exists_eq_left, exists_eq_right, exists_eq]
              try rfl
          | true =>
            have w1 : IntKind.i64.wrap ((k : Int) * 4) = (k : Int) * 4 := wrap_small _ (by omega) (by omega)
            have w2 : IntKind.i64.wrap ((k : Int) * 4 + (m : Int)) = (k : Int) * 4 + (m : Int) := wrap_small _ (by omega) (by omega)
            simp (config := { maxSteps := 4000000 }) only [go_sem, simprocAttr, ↓dnA, Tryz.f104, rows_length, rd, hm4, hx0, hwm, w1, w2, htk, hsn]
            repeat refine And.intro (by first | omega | (simp; done) | (simp; omega) | assumption) ?_
            refine ⟨(l1 ++ [(k : Int) * 4 + (m : Int)], m + 1, q1 + 1), [(900, 900), (27, 600)], ⟨by dsimp only; omega, by dsimp only; simp; omega, by dsimp only; omega, by dsimp only; omega, hmem _ (by omega)⟩, by dsimp only; omega, Weak.of (by rfl) ?_ ?_ (by rfl)⟩
            · simp (config := { maxSteps := 4000000 }) only [go_sem, simprocAttr, ↓dnA, Tryz.f104, rows_length, rd, List.length_append, List.length_singleton, frW, wk2, wk1, wkL, wkB, hpW, List.mem_cons, Prod.mk.injEq, exists_eq_left, exists_eq_right, exists_eq]
              try rfl
            · simp (config := { maxSteps := 4000000 }) only [go_sem, simprocAttr, ↓dnA, Tryz.f104, rows_length, rd, List.length_append, List.length_singleton, frW, wk2, wk1, wkL, wkB, hpW, List.mem_cons, Prod.mk.injEq, exists_eq_left, exists_eq_right, exists_eq]
              try rfl
        · obtain rfl : m = 4 := by omega
          have hm4 : (((4 : Nat) : Int) < 4) = False := by simp
          have w3 : IntKind.i64.wrap ((n : Int) * 4) = (n : Int) * 4 := wrap_small _ (by omega) (by omega)
          simp (config := { maxSteps := 4000000 }) only [go_sem, simprocAttr, ↓dnA, Tryz.f104, rows_length, rd, hm4]
          refine CallTo.of (c_spec_pick nb bs q1 5 hq1) ?_
          rintro r b ⟨x, rfl, rfl, hx⟩
          cases hx0 : (x == 0) with
          | false =>
            simp (config := { maxSteps := 4000000 }) only [go_sem, simprocAttr, ↓dnA, Tryz.f104, rows_length, rd, hm4, hx0, hwk]
            refine ⟨(l1, k + 1, q1 + 1), [(900, 900), (600, 600)], ⟨by dsimp only; omega, by dsimp only; omega, by dsimp only; omega, by dsimp only; omega, by dsimp only; omega, j5⟩, by dsimp only; omega, Weak.of (by rfl) ?_ ?_ (by rfl)⟩
            · simp (config := { maxSteps := 4000000 }) only [go_sem, simprocAttr, ↓dnA, Tryz.f104, rows_length, rd, frW, wk2, wk1, wkL, wkB, hpW, List.mem_cons, Prod.mk.injEq, exists_eq_left, exists_eq_right, exists_eq]
              try rfl
            · simp (config := { maxSteps := 4000000 }) only [go_sem, simprocAttr, ↓dnA, Tryz.f104, rows_length, rd, frW, wk2, wk1, wkL, wkB, hpW, List.mem_cons, Prod.mk.injEq, exists_eq_left, exists_eq_right, exists_eq]
              try rfl
          | true =>
            simp (config := { maxSteps := 4000000 }) only [go_sem, simprocAttr, ↓dnA, Tryz.f104, rows_length, rd, hm4, hx0, hwk, w3]
            refine CallTo.of (c_spec_pick nb bs (q1 + 1) ((n : Int) * 4) hr2) ?_
            rintro r b ⟨y, rfl, rfl, hy⟩
            simp (config := { maxSteps := 4000000 }) only [go_sem, simprocAttr, ↓dnA, Tryz.f104, rows_length, rd, hm4, hx0, hwk, w3, htk, hsn]
            repeat refine And.intro (by first | omega | (simp; done) | (simp; omega) | assumption) ?_
            refine ⟨(l1 ++ [y], k + 1, q1 + 1 + 1), [(900, 900), (37, 600)], ⟨by dsimp only; omega, by dsimp only; omega, by dsimp only; simp; omega, by dsimp only; omega, by dsimp only; omega, hmem _ (by omega)⟩, by dsimp only; omega, Weak.of (by rfl) ?_ ?_ (by rfl)⟩
            · simp (config := { maxSteps := 4000000 }) only [go_sem, simprocAttr, ↓dnA, Tryz.f104, rows_length, rd, List.length_append, List.length_singleton, frW, wk2, wk1, wkL, wkB, hpW, List.mem_cons, Prod.mk.injEq, exists_eq_left, exists_eq_right, exists_eq]
              try rfl
            · simp (config := { maxSteps := 4000000 }) only [go_sem, simprocAttr, ↓dnA, Tryz.f104, rows_length, rd, List.length_append, List.length_singleton, frW, wk2, wk1, wkL, wkB, hpW, List.mem_cons, Prod.mk.injEq, exists_eq_left, exists_eq_right, exists_eq]
              try rfl
    · obtain rfl : k = n := by omega
      simp (config := { maxSteps := 4000000 }) only [go_sem, simprocAttr, ↓dnA, Tryz.f104, rows_length, rd, nlf hk]
      exact .same ⟨l, q, rfl, rfl, by omega, by omega, by omega, i5⟩

def WorldR (nb : Option Bool) (bs : List Int) (p : Int) (r : AV) (b : List AV) : Prop := ∃ (w : Wld) (q : Int) (cs : List AV), r = .agg cs ∧ cs.map pureC = encW none none none none none w ∧ b = rd nb bs q ∧ p ≤ q ∧ q ≤ p + 2000 ∧ wsz w ≤ 300
def WorldQ (nb : Option Bool) (bs : List Int) (p : Int) (r : AV) (b : List AV) : Prop := ∃ (w : Wld) (q : Int), r = .agg (encW none none none none none w) ∧ b = rd nb bs q ∧ p ≤ q ∧ q ≤ p + 2000 ∧ wsz w ≤ 300

theorem worldOf_okay {t : Tree} (ht : TreeOk t) : worldValid (worldOf t) = true := by
  unfold worldOf
  rw [if_pos (treeValid_true ht)]
  unfold worldValid
  simp [treeValid_true ht, voterOk, voterValid, inB]

theorem c_spec_l20World0 (nb : Option Bool) (bs : List Int) (p n : Int) (h : RdOk bs p) (hp : p ≤ 999970000) (hn : 0 ≤ n ∧ n ≤ 1000000) : FSpec Tryz.prog 106 [.loc 0 0, .int .i64 n] true (rd nb bs p) (WorldR nb bs p) := by
  refine fspec_rel tab_ok Tryz.call106 Tryz.func106 rfl 62 Tryz.ntmps106 (of_decide_eq_true rfl) fun B => codeK_sound tab_ok _ _ _ ?_
  unfold rd
  simp (config := { maxSteps := 4000000 }) only [go_sem, simprocAttr, ↓dnA, Tryz.f106, rows_length, encT, encW, encWF]
  refine CallTo.of (c_spec_l20LineP nb bs p 0 h (by omega) (by omega)) ?_
  rintro r b ⟨t, q, rfl, rfl, hq1, hq2, hts, hl1, hl2, hT⟩
  have ht := hT rfl
  have hq := h.step (q := q) (by omega) (by omega)
  have hW := c_spec_WorldOf none none none t (tb_s32 ht)
  have hv := worldOf_okay ht
  generalize worldOf t = w at hW hv
  obtain ⟨ht1, hv4, _, hvl, _⟩ := worldValid_parts hv
  have hlen := ht1.len
  simp (config := { maxSteps := 4000000 }) only [go_sem, simprocAttr, ↓dnA, Tryz.f106, rows_length, encT, encW, encWF, rd]
  refine CallTo.det hW fun _ => ?_
  simp (config := { maxSteps := 4000000 }) only [go_sem, simprocAttr, ↓dnA, Tryz.f106, rows_length, encT, encW, encWF, rd]
  refine semL_draw tab_ok mixed_ rfl (ord := [(0, []), (1, []), (2, []), (3, []), (4, []), (5, [0]), (6, []), (7, []), (8, []), (9, []), (10, [9])]) (by dsimp only; decide +kernel) ?_
  simp (config := { maxSteps := 4000000 }) only [go_sem, simprocAttr, ↓dnA, Tryz.f106, rows_length, encT, encW, encWF, rd]
  refine CallTo.of (c_spec_l20Votes nb bs q w.votes.length hq (by omega) (by omega)) ?_
  rintro r b ⟨sc, q2, rfl, rfl, hq3, hq4, hsc, hsm⟩
  have hr2 := h.step (q := q2) (by omega) (by omega)
  have hok : ScOk sc := ⟨by omega, List.all_eq_true.2 fun x hx => inB_iff.2 (hsm x hx)⟩
  have hR := c_spec_WorldRun none none none none none (some true) w sc (worldOk_s32 hv).sz (by omega)
  rw [worldRun_yes hv hok] at hR
  have hx := runW_ok hv sc sc.length (Nat.le_refl _)
  rw [List.take_length] at hx
  generalize runW w sc = x at hR hx
  obtain ⟨x, xk⟩ := x
  obtain ⟨xv, _, _, _⟩ := hx
  dsimp only at hR xv
  have hwx := worldOk_wsz xv
  obtain ⟨xt, x4, _, xl, _⟩ := worldValid_parts xv
  have xlen := xt.len
  simp (config := { maxSteps := 4000000 }) only [go_sem, simprocAttr, ↓dnA, Tryz.f106, rows_length, encT, encW, encWF, rd]
  refine CallTo.det hR fun _ => ?_
  simp (config := { maxSteps := 4000000 }) only [go_sem, simprocAttr, ↓dnA, Tryz.f106, rows_length, encT, encW, encWF, rd]
  refine CallTo.of (c_spec_odd nb bs q2 n hr2 hn) ?_
  rintro r b ⟨gg, q3, rfl, rfl, hq5, hq6⟩
  have hr3 := h.step (q := q3) (by omega) (by omega)
  cases gg with
  | false =>
    simp (config := { maxSteps := 4000000 }) only [go_sem, simprocAttr, ↓dnA, Tryz.f106, rows_length, encT, encW, encWF, rd]
    exact .same ⟨x, q3, _, rfl, rfl, rfl, by omega, by omega, by omega⟩
  | true =>
    simp (config := { maxSteps := 4000000 }) only [go_sem, simprocAttr, ↓dnA, Tryz.f106, rows_length, encT, encW, encWF, rd]
    refine CallTo.of (c_spec_pick nb bs q3 4 hr3) ?_
    rintro r b ⟨z, rfl, rfl, hz⟩
    have hr4 := h.step (q := q3 + 1) (by omega) (by omega)
    have hz4 : z = 0 ∨ z = 1 ∨ z = 2 ∨ z = 3 := by omega
    rcases hz4 with rfl | rfl | rfl | rfl
    · simp (config := { maxSteps := 4000000 }) only [go_sem, simprocAttr, ↓dnA, Tryz.f106, rows_length, encT, encW, encWF, rd]
      refine semL_slots tab_ok 7 [6, 9] mixed_ rfl (by decide) (os := [([0, 1, 2, 3, 4, 5, 8, 7, 6, 9, 10, 11, 12, 13], [(0, []), (1, []), (2, []), (3, []), (4, []), (5, []), (8, []), (7, [0, 1, 2, 3, 4, 5, 8]), (6, [0, 1, 8]), (9, [0, 1]), (10, []), (11, []), (12, []), (13, [])]), ([0, 1, 2, 3, 4, 5, 7, 8, 6, 9, 10, 11, 12, 13], [(0, []), (1, []), (2, []), (3, []), (4, []), (5, []), (8, []), (6, [0, 1, 8]), (7, [0, 1, 8]), (9, [0, 1]), (10, []), (11, []), (12, []), (13, [])]), ([0, 1, 2, 3, 4, 5, 7, 9, 6, 8, 10, 11, 12, 13], [(0, []), (1, []), (2, []), (3, []), (4, []), (5, []), (8, []), (6, [0, 1, 8]), (9, [0, 1]), (7, [0, 1]), (10, []), (11, []), (12, []), (13, [])])]) (by dsimp only; decide +kernel) ?_
      refine ⟨?_, ?_, ?_, trivial⟩
      all_goals
        simp (config := { maxSteps := 4000000 }) only [go_sem, simprocAttr, ↓dnA, Tryz.f106, rows_length, encT, encW, encWF, rd]
        refine CallTo.of (c_spec_pick nb bs (q3 + 1) (x.votes.length : Int) hr4) ?_
        rintro r b ⟨m, rfl, rfl, hm⟩
        have hr5 := h.step (q := q3 + 1 + 1) (by omega) (by omega)
        obtain ⟨k, rfl⟩ : ∃ k : Nat, m = (k : Int) := ⟨m.toNat, by omega⟩
        have hk : k < x.votes.length := by omega
        have hrs : ∀ v : Int, (rows encI x.votes).set k [.int .i64 v] = rows encI (x.votes.set k v) := fun v => by rw [← rows_set]; rfl
        simp (config := { maxSteps := 4000000 }) only [go_sem, simprocAttr, ↓dnA, Tryz.f106, rows_length, encT, encW, encWF, rd]
        refine CallTo.of (c_spec_pick nb bs (q3 + 1 + 1) 3 hr5) ?_
        rintro r b ⟨y, rfl, rfl, hy⟩
        have hy3 : y = 0 ∨ y = 1 ∨ y = 2 := by omega
        rcases hy3 with rfl | rfl | rfl
        · simp (config := { maxSteps := 4000000 }) only [go_sem, simprocAttr, ↓dnA, Tryz.f106, rows_length, encT, encW, encWF, rd, tn0, tn1, tn2, nlt hk, hk, nn0, rows_get _ _ _ hk, encI, spliceL, List.length_set, hrs]
          exact .same ⟨⟨x.tree, x.voters, x.votes.set k (-1)⟩, q3 + 1 + 1 + 1, _, rfl, rfl, rfl, by omega, by omega, by unfold wsz at hwx ⊢; simp; omega⟩
        · simp (config := { maxSteps := 4000000 }) only [go_sem, simprocAttr, ↓dnA, Tryz.f106, rows_length, encT, encW, encWF, rd, tn0, tn1, tn2, nlt hk, hk, nn0, rows_get _ _ _ hk, encI, spliceL, List.length_set, hrs]
          exact .same ⟨⟨x.tree, x.voters, x.votes.set k (16)⟩, q3 + 1 + 1 + 1, _, rfl, rfl, rfl, by omega, by omega, by unfold wsz at hwx ⊢; simp; omega⟩
        · simp (config := { maxSteps := 4000000 }) only [go_sem, simprocAttr, ↓dnA, Tryz.f106, rows_length, encT, encW, encWF, rd, tn0, tn1, tn2, nlt hk, hk, nn0, rows_get _ _ _ hk, encI, spliceL, List.length_set, hrs]
          exact .same ⟨⟨x.tree, x.voters, x.votes.set k (7)⟩, q3 + 1 + 1 + 1, _, rfl, rfl, rfl, by omega, by omega, by unfold wsz at hwx ⊢; simp; omega⟩
    · have h0v : 0 < x.voters.length := by omega
      have htk : (rows encV x.voters).take x.voters.length = rows encV x.voters := by rw [List.take_of_length_le]; rw [rows_length]; omega
      simp (config := { maxSteps := 4000000 }) only [go_sem, simprocAttr, ↓dnA, Tryz.f106, rows_length, encT, encW, encWF, rd, htk]
      refine ⟨by omega, fun _ => by rw [rows_get _ _ _ h0v]; rfl, ?_⟩
      exact .same ⟨⟨x.tree, x.voters.drop 1, x.votes⟩, q3 + 1, _, rfl, by simp only [List.map_cons, List.map_nil, pureC, encW, rows_drop], rfl, by omega, by omega, by unfold wsz at hwx ⊢; simp; omega⟩
    · have htk : (rows encI x.votes).take x.votes.length = rows encI x.votes := by rw [List.take_of_length_le]; rw [rows_length]; omega
      have hsn : rows encI x.votes ++ [[.int .i64 0]] = rows encI (x.votes ++ [0]) := by rw [← rows_snoc]; rfl
      simp (config := { maxSteps := 4000000 }) only [go_sem, simprocAttr, ↓dnA, Tryz.f106, rows_length, encT, encW, encWF, rd, htk, hsn]
      repeat refine And.intro (by first | omega | (simp; done) | (simp; omega) | assumption) ?_
      exact .same ⟨⟨x.tree, x.voters, x.votes ++ [0]⟩, q3 + 1, _, rfl, rfl, rfl, by omega, by omega, by unfold wsz at hwx ⊢; simp; omega⟩
    · have h0v : 0 < x.voters.length := by omega
      have hrs : ∀ v : Int, (rows encV x.voters).set 0 [.int .i64 v, .int .i64 x.voters[0].lock] = rows encV (x.voters.set 0 ⟨v, x.voters[0].lock⟩) := fun v => by rw [← rows_set]; rfl
      simp (config := { maxSteps := 4000000 }) only [go_sem, simprocAttr, ↓dnA, Tryz.f106, rows_length, encT, encW, encWF, rd]
      refine semL_slots tab_ok 2 [4] mixed_ rfl (by decide) (os := [([0, 1, 3, 2, 4, 5, 6, 7, 8, 9], [(0, []), (1, []), (3, []), (2, [0, 1, 3]), (4, [0, 1]), (5, []), (6, []), (7, []), (8, []), (9, [])]), ([0, 1, 4, 2, 3, 5, 6, 7, 8, 9], [(0, []), (1, []), (3, []), (4, [0, 1]), (2, [0, 1]), (5, []), (6, []), (7, []), (8, []), (9, [])])]) (by dsimp only; decide +kernel) ?_
      refine ⟨?_, ?_, trivial⟩
      all_goals
        simp (config := { maxSteps := 4000000 }) only [go_sem, simprocAttr, ↓dnA, Tryz.f106, rows_length, encT, encW, encWF, rd]
        refine CallTo.of (c_spec_pick nb bs (q3 + 1) 2 hr4) ?_
        rintro r b ⟨y, rfl, rfl, hy⟩
        have hy2 : y = 0 ∨ y = 1 := by omega
        rcases hy2 with rfl | rfl
        · simp (config := { maxSteps := 4000000 }) only [go_sem, simprocAttr, ↓dnA, Tryz.f106, rows_length, encT, encW, encWF, rd, tn0, tn1, nlt h0v, h0v, nn0, nc0, rows_get _ _ _ h0v, encV, spliceL, List.length_set, hrs]
          refine ⟨by omega, ?_⟩
          exact .same ⟨⟨x.tree, x.voters.set 0 ⟨-1, x.voters[0].lock⟩, x.votes⟩, q3 + 1 + 1, _, rfl, rfl, rfl, by omega, by omega, by unfold wsz at hwx ⊢; simp; omega⟩
        · simp (config := { maxSteps := 4000000 }) only [go_sem, simprocAttr, ↓dnA, Tryz.f106, rows_length, encT, encW, encWF, rd, tn0, tn1, nlt h0v, h0v, nn0, nc0, rows_get _ _ _ h0v, encV, spliceL, List.length_set, hrs]
          refine ⟨by omega, ?_⟩
          exact .same ⟨⟨x.tree, x.voters.set 0 ⟨1000, x.voters[0].lock⟩, x.votes⟩, q3 + 1 + 1, _, rfl, rfl, rfl, by omega, by omega, by unfold wsz at hwx ⊢; simp; omega⟩

theorem c_spec_l20World (nb : Option Bool) (bs : List Int) (p n : Int) (h : RdOk bs p) (hp : p ≤ 999970000) (hn : 0 ≤ n ∧ n ≤ 1000000) : FSpec Tryz.prog 106 [.loc 0 0, .int .i64 n] true (rd nb bs p) (WorldQ nb bs p) := by
  refine (c_spec_l20World0 nb bs p n h hp hn).pureAgg ?_
  rintro r b ⟨w, q, cs, rfl, hc, rfl, h1, h2, h3⟩
  exact ⟨cs, rfl, w, q, by rw [hc], rfl, h1, h2, h3⟩

def DrawWQ (r : AV) (b : List AV) : Prop := ∃ w : Wld, r = .agg (encW none none none none none w) ∧ wsz w ≤ 300

end Go.Proofs.YthcfafpjkbbaoaaGreat

/- Contracts: blocks that are committed at once. -/
set_option linter.unusedSimpArgs false
set_option linter.unusedVariables false
set_option maxRecDepth 20000
set_option maxHeartbeats 4000000
namespace Go.Proofs.YthcfafpjkbbaoaaGreat
open Go Go.RowKit

/-- What is read of a tree at the block d, those before it. -/
theorem head_facts {t : Tree} (ht : TreeOk t) {d : Nat} (hd : d < t.blocks.length) (ce : List Bool) (hce : ce.length = t.blocks.length) :
    d < t.before.length ∧ (rows encI t.before).getD d [] = [.int .i64 (t.bef d)] ∧ (rows encB1 t.blocks).getD d [] = encB1 (t.blk d) ∧ (boolRows ce).getD d [] = [.bool (ce.getD d false)] ∧
      (0 ≤ (t.blk d).view ∧ (t.blk d).view ≤ 1000) ∧ (t.bef d < 0 ∨ ∃ c : Nat, t.bef d = (c : Int) ∧ c < t.blocks.length) := by
  have hb : d < t.before.length := by rw [ht.bef]; exact hd
  have hv := view_bd (ht.valid d hd)
  refine ⟨hb, by rw [rows_get _ _ d hb, t.bef_get d hb]; rfl, rows_gd _ _ d hd, boolRows_get ce d (by omega), hv, ?_⟩
  by_cases h : t.bef d < 0
  · exact .inl h
  · refine .inr ⟨(t.bef d).toNat, by omega, ?_⟩
    by_cases h0 : d = 0
    · subst h0; rw [ht.bef0] at h; omega
    · have := (ht.link d (by omega) hd).hi; omega

theorem headsTo_step (t : Tree) (ce : List Bool) (d : Nat) : headsTo t ce (d + 1) = headStep t ce (headsTo t ce d) d := rfl

/-- What a block does, in the words of its cells. -/
theorem headStep_no {t : Tree} {ce l : List Bool} {d : Nat} (h : t.bef d < 0) : headStep t ce l d = l := by
  unfold headStep; rw [if_pos h]
theorem headStep_no2 {t : Tree} {ce l : List Bool} {d c : Nat} (hc : t.bef d = (c : Int)) (h : t.bef c < 0) : headStep t ce l d = l := by
  unfold headStep; rw [hc, if_neg (by omega), Int.toNat_natCast, if_pos h]
theorem headStep_yes {t : Tree} {ce l : List Bool} {d c b : Nat} (hc : t.bef d = (c : Int)) (hb : t.bef c = (b : Int)) : headStep t ce l d = if threeB t ce b c d then l.set b true else l := by
  unfold headStep; rw [hc, if_neg (by omega), Int.toNat_natCast, hb, if_neg (by omega), Int.toNat_natCast]

theorem headsL_len (t : Tree) (ce : List Bool) : (headsL t ce).length ≤ t.blocks.length := fltF_len _ _ _
theorem v2 (b c d : Int) : ((c == b + 1) && (d == b + 2)) = ((b + 1 == c) && (c + 1 == d)) := by
  rw [Bool.eq_iff_iff]
  simp only [Bool.and_eq_true, beq_iff_eq]
  omega

theorem c_impl_heads (n1 n2 n3 n4 : Option Bool) (t : Tree) (ce : List Bool) (hx : TreeSz t) (ht : TreeOk t) (hce : ce.length = t.blocks.length) :
    Det Tryz.prog 60 [.agg (encT n1 n2 n3 t), .sl n4 (boolRows ce)] (.osl false 1 (rows encI (headsL t ce))) := by
  refine fspec_det tab_ok Tryz.call60 Tryz.func60 rfl 105 Tryz.ntmps60 (of_decide_eq_true rfl) fun B => codeK_sound tab_ok _ _ _ ?_
  have hlen := ht.len
  simp (config := { maxSteps := 4000000 }) only [go_sem, simprocAttr, ↓dnA, Tryz.f60, encT, rows_length, boolRows_length, List.length_set, List.length_replicate]
  repeat refine And.intro (by first | omega | (simp; done) | (simp; omega) | assumption) ?_
  refine semL_for tab_ok (fun i : Nat => ⟨105, [(1, .sl n4 (boolRows ce)), (2, .loc 2 0), (5, .row 600 t.blocks.length), (19, .int .i64 t.blocks.length), (20, .int .i64 i)],
      [(2, .var (encT n1 n2 n3 t)), (600, .row true true 1 (boolRows (headsTo t ce i)))]⟩) (fun i => t.blocks.length - i)
    (fun i => i ≤ t.blocks.length) 0 [(2, 2), (16, 600)] (Weak.of (by rfl) ?_ ?_ (by rfl)) (by omega) ?_
  · simp (config := { maxSteps := 4000000 }) only [go_sem, simprocAttr, ↓dnA, Tryz.f60, encT, rows_length, boolRows_length, List.length_set, List.length_replicate, frW, wk2, wk1, wkL, wkB, hpW, List.mem_cons, Prod.mk.injEq, exists_eq_left, exists_eq_right, exists_eq]
    exact boolRows_rep _ _
  · simp (config := { maxSteps := 4000000 }) only [go_sem, simprocAttr, ↓dnA, Tryz.f60, encT, rows_length, boolRows_length, List.length_set, List.length_replicate, frW, wk2, wk1, wkL, wkB, hpW, List.mem_cons, Prod.mk.injEq, exists_eq_left, exists_eq_right, exists_eq]
  · rintro i hi
    have hl := headsTo_len t ce i
    by_cases h : i < t.blocks.length
    · have hw : IntKind.i64.wrap ((i : Int) + 1) = ((i + 1 : Nat) : Int) := wsucc h (by omega)
      have hst := headsTo_step t ce i
      generalize headsTo t ce i = l at hl hst
      obtain ⟨f1, f2, f3, f4, f5, f6⟩ := head_facts ht h ce hce
      rcases f6 with hc | ⟨c, hc, hcl⟩
      · rw [headStep_no hc] at hst
        simp (config := { maxSteps := 4000000 }) only [go_sem, simprocAttr, ↓dnA, Tryz.f60, encT, rows_length, boolRows_length, List.length_set, List.length_replicate, nlt h, h, nn0, nlt f1, f1, f2, decide_eq_true hc, hw]
        refine ⟨i + 1, [(2, 2), (600, 600)], by omega, by dsimp only; omega, Weak.of (by rfl) ?_ ?_ (by rfl)⟩
        · simp (config := { maxSteps := 4000000 }) only [go_sem, simprocAttr, ↓dnA, Tryz.f60, encT, rows_length, boolRows_length, List.length_set, List.length_replicate, hst, frW, wk2, wk1, wkL, wkB, hpW, List.mem_cons, Prod.mk.injEq, exists_eq_left, exists_eq_right, exists_eq]
        · simp (config := { maxSteps := 4000000 }) only [go_sem, simprocAttr, ↓dnA, Tryz.f60, encT, rows_length, boolRows_length, List.length_set, List.length_replicate, frW, wk2, wk1, wkL, wkB, hpW, List.mem_cons, Prod.mk.injEq, exists_eq_left, exists_eq_right, exists_eq]
      · have dc : decide ((c : Int) < 0) = false := by simp
        obtain ⟨c1, c2, c3, c4, c5, c6⟩ := head_facts ht hcl ce hce
        rcases c6 with hb | ⟨b, hb, hbl⟩
        · rw [headStep_no2 hc hb] at hst
          simp (config := { maxSteps := 4000000 }) only [go_sem, simprocAttr, ↓dnA, Tryz.f60, encT, rows_length, boolRows_length, List.length_set, List.length_replicate, nlt h, h, nn0, nlt f1, f1, f2, hc, dc, nlt c1, c1, c2, decide_eq_true hb, hw]
          refine ⟨i + 1, [(2, 2), (600, 600)], by omega, by dsimp only; omega, Weak.of (by rfl) ?_ ?_ (by rfl)⟩
          · simp (config := { maxSteps := 4000000 }) only [go_sem, simprocAttr, ↓dnA, Tryz.f60, encT, rows_length, boolRows_length, List.length_set, List.length_replicate, hst, frW, wk2, wk1, wkL, wkB, hpW, List.mem_cons, Prod.mk.injEq, exists_eq_left, exists_eq_right, exists_eq]
          · simp (config := { maxSteps := 4000000 }) only [go_sem, simprocAttr, ↓dnA, Tryz.f60, encT, rows_length, boolRows_length, List.length_set, List.length_replicate, frW, wk2, wk1, wkL, wkB, hpW, List.mem_cons, Prod.mk.injEq, exists_eq_left, exists_eq_right, exists_eq]
        · have db : decide ((b : Int) < 0) = false := by simp
          obtain ⟨b1, b2, b3, b4, b5, b6⟩ := head_facts ht hbl ce hce
          have w1 : IntKind.i64.wrap ((t.blk b).view + 1) = (t.blk b).view + 1 := wrap_small _ (by omega) (by omega)
          have w2 : IntKind.i64.wrap ((t.blk b).view + 2) = (t.blk b).view + 2 := wrap_small _ (by omega) (by omega)
          rw [headStep_yes hc hb] at hst
          have h3 : threeB t ce b c i = (ce.getD b false && (ce.getD c false && (ce.getD i false && (((t.blk c).view == (t.blk b).view + 1) && ((t.blk i).view == (t.blk b).view + 2))))) := by
            unfold threeB; rw [v2]
          rw [h3] at hst
          have no : ∀ q : Bool, q = false → (if q then l.set b true else l) = l := fun q e => by rw [e, if_neg Bool.false_ne_true]
          have yes : ∀ q : Bool, q = true → (if q then l.set b true else l) = l.set b true := fun q e => by rw [e, if_pos rfl]
          cases e1 : ce.getD b false with
          | false =>
            rw [no _ (by rw [e1]; rfl)] at hst
            simp (config := { maxSteps := 4000000 }) only [go_sem, simprocAttr, ↓dnA, Tryz.f60, encT, rows_length, boolRows_length, List.length_set, List.length_replicate, nlt h, h, nn0, nlt f1, f1, f2, hc, dc, nlt c1, c1, c2, hb, db, nlt hcl, hcl, nlt hbl, hbl, f3, c3, b3, f4, c4, b4, hce, encB1, encBk, w1, w2, e1, hw]
            refine ⟨i + 1, [(2, 2), (600, 600)], by omega, by dsimp only; omega, Weak.of (by rfl) ?_ ?_ (by rfl)⟩
            · simp (config := { maxSteps := 4000000 }) only [go_sem, simprocAttr, ↓dnA, Tryz.f60, encT, rows_length, boolRows_length, List.length_set, List.length_replicate, hst, frW, wk2, wk1, wkL, wkB, hpW, List.mem_cons, Prod.mk.injEq, exists_eq_left, exists_eq_right, exists_eq]
            · simp (config := { maxSteps := 4000000 }) only [go_sem, simprocAttr, ↓dnA, Tryz.f60, encT, rows_length, boolRows_length, List.length_set, List.length_replicate, frW, wk2, wk1, wkL, wkB, hpW, List.mem_cons, Prod.mk.injEq, exists_eq_left, exists_eq_right, exists_eq]
          | true =>
          cases e2 : ce.getD c false with
          | false =>
            rw [no _ (by rw [e1, e2]; rfl)] at hst
            simp (config := { maxSteps := 4000000 }) only [go_sem, simprocAttr, ↓dnA, Tryz.f60, encT, rows_length, boolRows_length, List.length_set, List.length_replicate, nlt h, h, nn0, nlt f1, f1, f2, hc, dc, nlt c1, c1, c2, hb, db, nlt hcl, hcl, nlt hbl, hbl, f3, c3, b3, f4, c4, b4, hce, encB1, encBk, w1, w2, e1, e2, hw]
            refine ⟨i + 1, [(2, 2), (600, 600)], by omega, by dsimp only; omega, Weak.of (by rfl) ?_ ?_ (by rfl)⟩
            · simp (config := { maxSteps := 4000000 }) only [go_sem, simprocAttr, ↓dnA, Tryz.f60, encT, rows_length, boolRows_length, List.length_set, List.length_replicate, hst, frW, wk2, wk1, wkL, wkB, hpW, List.mem_cons, Prod.mk.injEq, exists_eq_left, exists_eq_right, exists_eq]
            · simp (config := { maxSteps := 4000000 }) only [go_sem, simprocAttr, ↓dnA, Tryz.f60, encT, rows_length, boolRows_length, List.length_set, List.length_replicate, frW, wk2, wk1, wkL, wkB, hpW, List.mem_cons, Prod.mk.injEq, exists_eq_left, exists_eq_right, exists_eq]
          | true =>
          cases e3 : ce.getD i false with
          | false =>
            rw [no _ (by rw [e1, e2, e3]; rfl)] at hst
            simp (config := { maxSteps := 4000000 }) only [go_sem, simprocAttr, ↓dnA, Tryz.f60, encT, rows_length, boolRows_length, List.length_set, List.length_replicate, nlt h, h, nn0, nlt f1, f1, f2, hc, dc, nlt c1, c1, c2, hb, db, nlt hcl, hcl, nlt hbl, hbl, f3, c3, b3, f4, c4, b4, hce, encB1, encBk, w1, w2, e1, e2, e3, hw]
            refine ⟨i + 1, [(2, 2), (600, 600)], by omega, by dsimp only; omega, Weak.of (by rfl) ?_ ?_ (by rfl)⟩
            · simp (config := { maxSteps := 4000000 }) only [go_sem, simprocAttr, ↓dnA, Tryz.f60, encT, rows_length, boolRows_length, List.length_set, List.length_replicate, hst, frW, wk2, wk1, wkL, wkB, hpW, List.mem_cons, Prod.mk.injEq, exists_eq_left, exists_eq_right, exists_eq]
            · simp (config := { maxSteps := 4000000 }) only [go_sem, simprocAttr, ↓dnA, Tryz.f60, encT, rows_length, boolRows_length, List.length_set, List.length_replicate, frW, wk2, wk1, wkL, wkB, hpW, List.mem_cons, Prod.mk.injEq, exists_eq_left, exists_eq_right, exists_eq]
          | true =>
          cases e4 : ((t.blk c).view == (t.blk b).view + 1) with
          | false =>
            rw [no _ (by rw [e1, e2, e3, e4]; rfl)] at hst
            simp (config := { maxSteps := 4000000 }) only [go_sem, simprocAttr, ↓dnA, Tryz.f60, encT, rows_length, boolRows_length, List.length_set, List.length_replicate, nlt h, h, nn0, nlt f1, f1, f2, hc, dc, nlt c1, c1, c2, hb, db, nlt hcl, hcl, nlt hbl, hbl, f3, c3, b3, f4, c4, b4, hce, encB1, encBk, w1, w2, e1, e2, e3, e4, hw]
            refine ⟨i + 1, [(2, 2), (600, 600)], by omega, by dsimp only; omega, Weak.of (by rfl) ?_ ?_ (by rfl)⟩
            · simp (config := { maxSteps := 4000000 }) only [go_sem, simprocAttr, ↓dnA, Tryz.f60, encT, rows_length, boolRows_length, List.length_set, List.length_replicate, hst, frW, wk2, wk1, wkL, wkB, hpW, List.mem_cons, Prod.mk.injEq, exists_eq_left, exists_eq_right, exists_eq]
            · simp (config := { maxSteps := 4000000 }) only [go_sem, simprocAttr, ↓dnA, Tryz.f60, encT, rows_length, boolRows_length, List.length_set, List.length_replicate, frW, wk2, wk1, wkL, wkB, hpW, List.mem_cons, Prod.mk.injEq, exists_eq_left, exists_eq_right, exists_eq]
          | true =>
          cases e5 : ((t.blk i).view == (t.blk b).view + 2) with
          | false =>
            rw [no _ (by rw [e1, e2, e3, e4, e5]; rfl)] at hst
            simp (config := { maxSteps := 4000000 }) only [go_sem, simprocAttr, ↓dnA, Tryz.f60, encT, rows_length, boolRows_length, List.length_set, List.length_replicate, nlt h, h, nn0, nlt f1, f1, f2, hc, dc, nlt c1, c1, c2, hb, db, nlt hcl, hcl, nlt hbl, hbl, f3, c3, b3, f4, c4, b4, hce, encB1, encBk, w1, w2, e1, e2, e3, e4, e5, hw]
            refine ⟨i + 1, [(2, 2), (600, 600)], by omega, by dsimp only; omega, Weak.of (by rfl) ?_ ?_ (by rfl)⟩
            · simp (config := { maxSteps := 4000000 }) only [go_sem, simprocAttr, ↓dnA, Tryz.f60, encT, rows_length, boolRows_length, List.length_set, List.length_replicate, hst, frW, wk2, wk1, wkL, wkB, hpW, List.mem_cons, Prod.mk.injEq, exists_eq_left, exists_eq_right, exists_eq]
            · simp (config := { maxSteps := 4000000 }) only [go_sem, simprocAttr, ↓dnA, Tryz.f60, encT, rows_length, boolRows_length, List.length_set, List.length_replicate, frW, wk2, wk1, wkL, wkB, hpW, List.mem_cons, Prod.mk.injEq, exists_eq_left, exists_eq_right, exists_eq]
          | true =>
            rw [yes _ (by rw [e1, e2, e3, e4, e5]; rfl)] at hst
            simp (config := { maxSteps := 4000000 }) only [go_sem, simprocAttr, ↓dnA, Tryz.f60, encT, rows_length, boolRows_length, List.length_set, List.length_replicate, nlt h, h, nn0, nlt f1, f1, f2, hc, dc, nlt c1, c1, c2, hb, db, nlt hcl, hcl, nlt hbl, hbl, f3, c3, b3, f4, c4, b4, hce, encB1, encBk, w1, w2, e1, e2, e3, e4, e5, hl, boolRows_get l b (by omega), spliceL, hw]
            refine ⟨i + 1, [(2, 2), (600, 600)], by omega, by dsimp only; omega, Weak.of (by rfl) ?_ ?_ (by rfl)⟩
            · simp (config := { maxSteps := 4000000 }) only [go_sem, simprocAttr, ↓dnA, Tryz.f60, encT, rows_length, boolRows_length, List.length_set, List.length_replicate, hst, ← boolRows_set, frW, wk2, wk1, wkL, wkB, hpW, List.mem_cons, Prod.mk.injEq, exists_eq_left, exists_eq_right, exists_eq]
            · simp (config := { maxSteps := 4000000 }) only [go_sem, simprocAttr, ↓dnA, Tryz.f60, encT, rows_length, boolRows_length, List.length_set, List.length_replicate, frW, wk2, wk1, wkL, wkB, hpW, List.mem_cons, Prod.mk.injEq, exists_eq_left, exists_eq_right, exists_eq]
    · have hi' : i = t.blocks.length := by omega
      subst hi'
      unfold headsL headsB
      generalize headsTo t ce t.blocks.length = l at hl
      rw [← hl]
      simp (config := { maxSteps := 4000000 }) only [go_sem, simprocAttr, ↓dnA, Tryz.f60, encT, rows_length, boolRows_length, List.length_set, List.length_replicate, nlf h, hl]
      refine semL_nilA 10 10 1 true (by rfl) (by rfl) (by decide) (by decide) ?_
      refine semL_for tab_ok (fun p : Nat × List Int => ⟨105, [(10, .row 10 p.2.length), (91, .row 600 l.length), (92, .int .i64 l.length), (93, .int .i64 p.1)], [(600, .row true true 1 (boolRows l)), (10, .row true false 1 (rows encI p.2))]⟩) (fun p => l.length - p.1)
        (fun p => p.1 ≤ l.length ∧ p.2.length ≤ p.1 ∧ p.2 ++ fltF (fun k => l.getD k false) (l.length - p.1) p.1 = fltF (fun k => l.getD k false) l.length 0) (0, []) [(600, 600), (10, 10)] (Weak.of (by rfl) ?_ ?_ (by rfl)) ⟨by omega, by simp, rfl⟩ ?_
      · simp (config := { maxSteps := 4000000 }) only [go_sem, simprocAttr, ↓dnA, Tryz.f60, encT, rows_length, boolRows_length, List.length_set, List.length_replicate, hl, frW, wk2, wk1, wkL, wkB, hpW, List.mem_cons, Prod.mk.injEq, exists_eq_left, exists_eq_right, exists_eq]
        try rfl
      · simp (config := { maxSteps := 4000000 }) only [go_sem, simprocAttr, ↓dnA, Tryz.f60, encT, rows_length, boolRows_length, List.length_set, List.length_replicate, hl, frW, wk2, wk1, wkL, wkB, hpW, List.mem_cons, Prod.mk.injEq, exists_eq_left, exists_eq_right, exists_eq]
      · rintro ⟨i, acc⟩ ⟨hi, hac, hp⟩
        dsimp only at hi hac hp
        have htk := take_rows encI acc acc.length rfl
        by_cases h : i < l.length
        · have hw : IntKind.i64.wrap ((i : Int) + 1) = ((i + 1 : Nat) : Int) := wsucc h (by omega)
          have hg := boolRows_get l i h
          rw [fltF_step _ _ _ h] at hp
          cases e : l.getD i false with
          | false =>
            rw [e, if_neg Bool.false_ne_true, List.nil_append] at hp
            simp (config := { maxSteps := 4000000 }) only [go_sem, simprocAttr, ↓dnA, Tryz.f60, encT, rows_length, boolRows_length, List.length_set, List.length_replicate, nlt h, h, nn0, hg, e, hw]
            refine ⟨(i + 1, acc), [(600, 600), (10, 10)], ⟨by dsimp only; omega, by dsimp only; omega, hp⟩, by dsimp only; omega, Weak.of (by rfl) ?_ ?_ (by rfl)⟩
            · simp (config := { maxSteps := 4000000 }) only [go_sem, simprocAttr, ↓dnA, Tryz.f60, encT, rows_length, boolRows_length, List.length_set, List.length_replicate, frW, wk2, wk1, wkL, wkB, hpW, List.mem_cons, Prod.mk.injEq, exists_eq_left, exists_eq_right, exists_eq]
            · simp (config := { maxSteps := 4000000 }) only [go_sem, simprocAttr, ↓dnA, Tryz.f60, encT, rows_length, boolRows_length, List.length_set, List.length_replicate, frW, wk2, wk1, wkL, wkB, hpW, List.mem_cons, Prod.mk.injEq, exists_eq_left, exists_eq_right, exists_eq]
          | true =>
            rw [e, if_pos rfl] at hp
            simp (config := { maxSteps := 4000000 }) only [go_sem, simprocAttr, ↓dnA, Tryz.f60, encT, rows_length, boolRows_length, List.length_set, List.length_replicate, nlt h, h, nn0, hg, e, htk, hw]
            repeat refine And.intro (by first | omega | (simp; done) | (simp; omega) | assumption) ?_
            refine ⟨(i + 1, acc ++ [(i : Int)]), [(600, 600), (102, 10)], ⟨by dsimp only; omega, by simp; omega, by rw [← hp]; simp⟩, by dsimp only; omega, Weak.of (by rfl) ?_ ?_ (by rfl)⟩
            · simp (config := { maxSteps := 4000000 }) only [go_sem, simprocAttr, ↓dnA, Tryz.f60, encT, rows_length, boolRows_length, List.length_set, List.length_replicate, frW, wk2, wk1, wkL, wkB, hpW, List.mem_cons, Prod.mk.injEq, exists_eq_left, exists_eq_right, exists_eq]
              exact (rows_snoc encI _ _).symm
            · simp (config := { maxSteps := 4000000 }) only [go_sem, simprocAttr, ↓dnA, Tryz.f60, encT, rows_length, boolRows_length, List.length_set, List.length_replicate, List.length_append, frW, wk2, wk1, wkL, wkB, hpW, List.mem_cons, Prod.mk.injEq, exists_eq_left, exists_eq_right, exists_eq]
        · have hi' : i = l.length := by omega
          subst hi'
          rw [Nat.sub_self, show fltF (fun k => l.getD k false) 0 l.length = [] from rfl, List.append_nil] at hp
          simp (config := { maxSteps := 4000000 }) only [go_sem, simprocAttr, ↓dnA, Tryz.f60, encT, rows_length, boolRows_length, List.length_set, List.length_replicate, nlf h, hp]

theorem c_spec_l16Commits (n1 n2 n3 n4 : Option Bool) (t : Tree) (ce : List Bool) (hx : TreeSz t) (ht : TreeOk t) (hce : ce.length = t.blocks.length) :
    Det Tryz.prog 62 [.agg (encT n1 n2 n3 t), .sl n4 (boolRows ce)] (.osl true 1 (boolRows (headsTo t ce t.blocks.length))) := by
  refine fspec_det tab_ok Tryz.call62 Tryz.func62 rfl 94 Tryz.ntmps62 (of_decide_eq_true rfl) fun B => codeK_sound tab_ok _ _ _ ?_
  have hlen := ht.len
  simp (config := { maxSteps := 4000000 }) only [go_sem, simprocAttr, ↓dnA, Tryz.f62, encT, rows_length, boolRows_length, List.length_set, List.length_replicate]
  repeat refine And.intro (by first | omega | (simp; done) | (simp; omega) | assumption) ?_
  refine semL_for tab_ok (fun i : Nat => ⟨94, [(1, .sl n4 (boolRows ce)), (2, .loc 2 0), (5, .row 600 t.blocks.length), (6, .int .i64 i)],
      [(2, .var (encT n1 n2 n3 t)), (600, .row true true 1 (boolRows (headsTo t ce i)))]⟩) (fun i => t.blocks.length - i)
    (fun i => i ≤ t.blocks.length) 0 [(2, 2), (13, 600)] (Weak.of (by rfl) ?_ ?_ (by rfl)) (by omega) ?_
  · simp (config := { maxSteps := 4000000 }) only [go_sem, simprocAttr, ↓dnA, Tryz.f62, encT, rows_length, boolRows_length, List.length_set, List.length_replicate, frW, wk2, wk1, wkL, wkB, hpW, List.mem_cons, Prod.mk.injEq, exists_eq_left, exists_eq_right, exists_eq]
    exact boolRows_rep _ _
  · simp (config := { maxSteps := 4000000 }) only [go_sem, simprocAttr, ↓dnA, Tryz.f62, encT, rows_length, boolRows_length, List.length_set, List.length_replicate, frW, wk2, wk1, wkL, wkB, hpW, List.mem_cons, Prod.mk.injEq, exists_eq_left, exists_eq_right, exists_eq]
  · rintro i hi
    have hl := headsTo_len t ce i
    by_cases h : i < t.blocks.length
    · have hw : IntKind.i64.wrap ((i : Int) + 1) = ((i + 1 : Nat) : Int) := wsucc h (by omega)
      have hst := headsTo_step t ce i
      generalize headsTo t ce i = l at hl hst
      obtain ⟨f1, f2, f3, f4, f5, f6⟩ := head_facts ht h ce hce
      rcases f6 with hc | ⟨c, hc, hcl⟩
      · rw [headStep_no hc] at hst
        simp (config := { maxSteps := 4000000 }) only [go_sem, simprocAttr, ↓dnA, Tryz.f62, encT, rows_length, boolRows_length, List.length_set, List.length_replicate, nlt h, h, nn0, nlt f1, f1, f2, decide_eq_true hc, hw]
        refine ⟨i + 1, [(2, 2), (600, 600)], by omega, by dsimp only; omega, Weak.of (by rfl) ?_ ?_ (by rfl)⟩
        · simp (config := { maxSteps := 4000000 }) only [go_sem, simprocAttr, ↓dnA, Tryz.f62, encT, rows_length, boolRows_length, List.length_set, List.length_replicate, hst, frW, wk2, wk1, wkL, wkB, hpW, List.mem_cons, Prod.mk.injEq, exists_eq_left, exists_eq_right, exists_eq]
        · simp (config := { maxSteps := 4000000 }) only [go_sem, simprocAttr, ↓dnA, Tryz.f62, encT, rows_length, boolRows_length, List.length_set, List.length_replicate, frW, wk2, wk1, wkL, wkB, hpW, List.mem_cons, Prod.mk.injEq, exists_eq_left, exists_eq_right, exists_eq]
      · have dc : decide ((c : Int) < 0) = false := by simp
        obtain ⟨c1, c2, c3, c4, c5, c6⟩ := head_facts ht hcl ce hce
        rcases c6 with hb | ⟨b, hb, hbl⟩
        · rw [headStep_no2 hc hb] at hst
          simp (config := { maxSteps := 4000000 }) only [go_sem, simprocAttr, ↓dnA, Tryz.f62, encT, rows_length, boolRows_length, List.length_set, List.length_replicate, nlt h, h, nn0, nlt f1, f1, f2, hc, dc, nlt c1, c1, c2, decide_eq_true hb, hw]
          refine ⟨i + 1, [(2, 2), (600, 600)], by omega, by dsimp only; omega, Weak.of (by rfl) ?_ ?_ (by rfl)⟩
          · simp (config := { maxSteps := 4000000 }) only [go_sem, simprocAttr, ↓dnA, Tryz.f62, encT, rows_length, boolRows_length, List.length_set, List.length_replicate, hst, frW, wk2, wk1, wkL, wkB, hpW, List.mem_cons, Prod.mk.injEq, exists_eq_left, exists_eq_right, exists_eq]
          · simp (config := { maxSteps := 4000000 }) only [go_sem, simprocAttr, ↓dnA, Tryz.f62, encT, rows_length, boolRows_length, List.length_set, List.length_replicate, frW, wk2, wk1, wkL, wkB, hpW, List.mem_cons, Prod.mk.injEq, exists_eq_left, exists_eq_right, exists_eq]
        · have db : decide ((b : Int) < 0) = false := by simp
          obtain ⟨b1, b2, b3, b4, b5, b6⟩ := head_facts ht hbl ce hce
          have w1 : IntKind.i64.wrap ((t.blk b).view + 1) = (t.blk b).view + 1 := wrap_small _ (by omega) (by omega)
          have w2 : IntKind.i64.wrap ((t.blk c).view + 1) = (t.blk c).view + 1 := wrap_small _ (by omega) (by omega)
          rw [headStep_yes hc hb] at hst
          have no : ∀ q : Bool, q = false → (if q then l.set b true else l) = l := fun q e => by rw [e, if_neg Bool.false_ne_true]
          have yes : ∀ q : Bool, q = true → (if q then l.set b true else l) = l.set b true := fun q e => by rw [e, if_pos rfl]
          obtain ⟨q1, hq1⟩ : ∃ q, ((t.blk b).view + 1 == (t.blk c).view) = q := ⟨_, rfl⟩
          obtain ⟨q2, hq2⟩ : ∃ q, ((t.blk c).view + 1 == (t.blk i).view) = q := ⟨_, rfl⟩
          obtain ⟨q3, hq3⟩ : ∃ q, ce.getD b false = q := ⟨_, rfl⟩
          obtain ⟨q4, hq4⟩ : ∃ q, ce.getD c false = q := ⟨_, rfl⟩
          obtain ⟨q5, hq5⟩ : ∃ q, ce.getD i false = q := ⟨_, rfl⟩
          have h3 : threeB t ce b c i = (q3 && (q4 && (q5 && (q1 && q2)))) := by unfold threeB; rw [hq1, hq2, hq3, hq4, hq5]
          rw [h3] at hst
          simp (config := { maxSteps := 4000000 }) only [go_sem, simprocAttr, ↓dnA, Tryz.f62, encT, rows_length, boolRows_length, List.length_set, List.length_replicate, nlt h, h, nn0, nlt f1, f1, f2, hc, dc, nlt c1, c1, c2, hb, db]
          refine semL_draw tab_ok mixed_ rfl (ord := [(0, []), (1, []), (2, []), (3, []), (4, []), (5, []), (6, []), (7, []), (8, []), (9, []), (10, []), (11, []), (12, []), (13, []), (14, []), (15, []), (16, []), (17, []), (18, []), (19, []), (20, []), (21, []), (22, []), (23, []), (24, []), (25, []), (26, []), (27, []), (28, []), (29, []), (30, [])]) (by dsimp only; decide +kernel) ?_
          cases q1 with
          | false =>
            rw [no _ (by cases q3 <;> cases q4 <;> cases q5 <;> rfl)] at hst
            simp (config := { maxSteps := 4000000 }) only [go_sem, simprocAttr, ↓dnA, Tryz.f62, encT, rows_length, boolRows_length, List.length_set, List.length_replicate, nlt h, h, nn0, nlt f1, f1, f2, hc, dc, nlt c1, c1, c2, hb, db, nlt hcl, hcl, nlt hbl, hbl, f3, c3, b3, encB1, encBk, w1, w2, hq1]
            cases q3 with
            | false =>
              simp (config := { maxSteps := 4000000 }) only [go_sem, simprocAttr, ↓dnA, Tryz.f62, encT, rows_length, boolRows_length, List.length_set, List.length_replicate, nlt h, h, nn0, nlt hcl, hcl, nlt hbl, hbl, f4, c4, b4, hce, hq3, hw]
              refine ⟨i + 1, [(2, 2), (600, 600)], by omega, by dsimp only; omega, Weak.of (by rfl) ?_ ?_ (by rfl)⟩
              · simp (config := { maxSteps := 4000000 }) only [go_sem, simprocAttr, ↓dnA, Tryz.f62, encT, rows_length, boolRows_length, List.length_set, List.length_replicate, hst, frW, wk2, wk1, wkL, wkB, hpW, List.mem_cons, Prod.mk.injEq, exists_eq_left, exists_eq_right, exists_eq]
              · simp (config := { maxSteps := 4000000 }) only [go_sem, simprocAttr, ↓dnA, Tryz.f62, encT, rows_length, boolRows_length, List.length_set, List.length_replicate, frW, wk2, wk1, wkL, wkB, hpW, List.mem_cons, Prod.mk.injEq, exists_eq_left, exists_eq_right, exists_eq]
            | true =>
              cases q4 with
              | false =>
                simp (config := { maxSteps := 4000000 }) only [go_sem, simprocAttr, ↓dnA, Tryz.f62, encT, rows_length, boolRows_length, List.length_set, List.length_replicate, nlt h, h, nn0, nlt hcl, hcl, nlt hbl, hbl, f4, c4, b4, hce, hq3, hq4, hw]
                refine ⟨i + 1, [(2, 2), (600, 600)], by omega, by dsimp only; omega, Weak.of (by rfl) ?_ ?_ (by rfl)⟩
                · simp (config := { maxSteps := 4000000 }) only [go_sem, simprocAttr, ↓dnA, Tryz.f62, encT, rows_length, boolRows_length, List.length_set, List.length_replicate, hst, frW, wk2, wk1, wkL, wkB, hpW, List.mem_cons, Prod.mk.injEq, exists_eq_left, exists_eq_right, exists_eq]
                · simp (config := { maxSteps := 4000000 }) only [go_sem, simprocAttr, ↓dnA, Tryz.f62, encT, rows_length, boolRows_length, List.length_set, List.length_replicate, frW, wk2, wk1, wkL, wkB, hpW, List.mem_cons, Prod.mk.injEq, exists_eq_left, exists_eq_right, exists_eq]
              | true =>
                cases q5 with
                | false =>
                  simp (config := { maxSteps := 4000000 }) only [go_sem, simprocAttr, ↓dnA, Tryz.f62, encT, rows_length, boolRows_length, List.length_set, List.length_replicate, nlt h, h, nn0, nlt hcl, hcl, nlt hbl, hbl, f4, c4, b4, hce, hq3, hq4, hq5, hw]
                  refine ⟨i + 1, [(2, 2), (600, 600)], by omega, by dsimp only; omega, Weak.of (by rfl) ?_ ?_ (by rfl)⟩
                  · simp (config := { maxSteps := 4000000 }) only [go_sem, simprocAttr, ↓dnA, Tryz.f62, encT, rows_length, boolRows_length, List.length_set, List.length_replicate, hst, frW, wk2, wk1, wkL, wkB, hpW, List.mem_cons, Prod.mk.injEq, exists_eq_left, exists_eq_right, exists_eq]
                  · simp (config := { maxSteps := 4000000 }) only [go_sem, simprocAttr, ↓dnA, Tryz.f62, encT, rows_length, boolRows_length, List.length_set, List.length_replicate, frW, wk2, wk1, wkL, wkB, hpW, List.mem_cons, Prod.mk.injEq, exists_eq_left, exists_eq_right, exists_eq]
                | true =>
                  simp (config := { maxSteps := 4000000 }) only [go_sem, simprocAttr, ↓dnA, Tryz.f62, encT, rows_length, boolRows_length, List.length_set, List.length_replicate, nlt h, h, nn0, nlt hcl, hcl, nlt hbl, hbl, f4, c4, b4, hce, hq3, hq4, hq5, hw]
                  refine ⟨i + 1, [(2, 2), (600, 600)], by omega, by dsimp only; omega, Weak.of (by rfl) ?_ ?_ (by rfl)⟩
                  · simp (config := { maxSteps := 4000000 }) only [go_sem, simprocAttr, ↓dnA, Tryz.f62, encT, rows_length, boolRows_length, List.length_set, List.length_replicate, hst, frW, wk2, wk1, wkL, wkB, hpW, List.mem_cons, Prod.mk.injEq, exists_eq_left, exists_eq_right, exists_eq]
                  · simp (config := { maxSteps := 4000000 }) only [go_sem, simprocAttr, ↓dnA, Tryz.f62, encT, rows_length, boolRows_length, List.length_set, List.length_replicate, frW, wk2, wk1, wkL, wkB, hpW, List.mem_cons, Prod.mk.injEq, exists_eq_left, exists_eq_right, exists_eq]
          | true =>
            simp (config := { maxSteps := 4000000 }) only [go_sem, simprocAttr, ↓dnA, Tryz.f62, encT, rows_length, boolRows_length, List.length_set, List.length_replicate, nlt h, h, nn0, nlt f1, f1, f2, hc, dc, nlt c1, c1, c2, hb, db, nlt hcl, hcl, nlt hbl, hbl, f3, c3, b3, encB1, encBk, w1, w2, hq1, hq2]
            cases q3 with
            | false =>
              simp only [Bool.false_and, Bool.true_and, Bool.and_false, Bool.and_true, Bool.false_eq_true, if_false] at hst
              simp (config := { maxSteps := 4000000 }) only [go_sem, simprocAttr, ↓dnA, Tryz.f62, encT, rows_length, boolRows_length, List.length_set, List.length_replicate, nlt h, h, nn0, nlt hcl, hcl, nlt hbl, hbl, f4, c4, b4, hce, hq3, hw]
              refine ⟨i + 1, [(2, 2), (600, 600)], by omega, by dsimp only; omega, Weak.of (by rfl) ?_ ?_ (by rfl)⟩
              · simp (config := { maxSteps := 4000000 }) only [go_sem, simprocAttr, ↓dnA, Tryz.f62, encT, rows_length, boolRows_length, List.length_set, List.length_replicate, hst, frW, wk2, wk1, wkL, wkB, hpW, List.mem_cons, Prod.mk.injEq, exists_eq_left, exists_eq_right, exists_eq]
              · simp (config := { maxSteps := 4000000 }) only [go_sem, simprocAttr, ↓dnA, Tryz.f62, encT, rows_length, boolRows_length, List.length_set, List.length_replicate, frW, wk2, wk1, wkL, wkB, hpW, List.mem_cons, Prod.mk.injEq, exists_eq_left, exists_eq_right, exists_eq]
            | true =>
              cases q4 with
              | false =>
                simp only [Bool.false_and, Bool.true_and, Bool.and_false, Bool.and_true, Bool.false_eq_true, if_false] at hst
                simp (config := { maxSteps := 4000000 }) only [go_sem, simprocAttr, ↓dnA, Tryz.f62, encT, rows_length, boolRows_length, List.length_set, List.length_replicate, nlt h, h, nn0, nlt hcl, hcl, nlt hbl, hbl, f4, c4, b4, hce, hq3, hq4, hw]
                refine ⟨i + 1, [(2, 2), (600, 600)], by omega, by dsimp only; omega, Weak.of (by rfl) ?_ ?_ (by rfl)⟩
                · simp (config := { maxSteps := 4000000 }) only [go_sem, simprocAttr, ↓dnA, Tryz.f62, encT, rows_length, boolRows_length, List.length_set, List.length_replicate, hst, frW, wk2, wk1, wkL, wkB, hpW, List.mem_cons, Prod.mk.injEq, exists_eq_left, exists_eq_right, exists_eq]
                · simp (config := { maxSteps := 4000000 }) only [go_sem, simprocAttr, ↓dnA, Tryz.f62, encT, rows_length, boolRows_length, List.length_set, List.length_replicate, frW, wk2, wk1, wkL, wkB, hpW, List.mem_cons, Prod.mk.injEq, exists_eq_left, exists_eq_right, exists_eq]
              | true =>
                cases q5 with
                | false =>
                  simp only [Bool.false_and, Bool.true_and, Bool.and_false, Bool.and_true, Bool.false_eq_true, if_false] at hst
                  simp (config := { maxSteps := 4000000 }) only [go_sem, simprocAttr, ↓dnA, Tryz.f62, encT, rows_length, boolRows_length, List.length_set, List.length_replicate, nlt h, h, nn0, nlt hcl, hcl, nlt hbl, hbl, f4, c4, b4, hce, hq3, hq4, hq5, hw]
                  refine ⟨i + 1, [(2, 2), (600, 600)], by omega, by dsimp only; omega, Weak.of (by rfl) ?_ ?_ (by rfl)⟩
                  · simp (config := { maxSteps := 4000000 }) only [go_sem, simprocAttr, ↓dnA, Tryz.f62, encT, rows_length, boolRows_length, List.length_set, List.length_replicate, hst, frW, wk2, wk1, wkL, wkB, hpW, List.mem_cons, Prod.mk.injEq, exists_eq_left, exists_eq_right, exists_eq]
                  · simp (config := { maxSteps := 4000000 }) only [go_sem, simprocAttr, ↓dnA, Tryz.f62, encT, rows_length, boolRows_length, List.length_set, List.length_replicate, frW, wk2, wk1, wkL, wkB, hpW, List.mem_cons, Prod.mk.injEq, exists_eq_left, exists_eq_right, exists_eq]
                | true =>
                  cases q2 with
                  | false =>
                    simp only [Bool.false_and, Bool.true_and, Bool.and_false, Bool.and_true, Bool.false_eq_true, if_false] at hst
                    simp (config := { maxSteps := 4000000 }) only [go_sem, simprocAttr, ↓dnA, Tryz.f62, encT, rows_length, boolRows_length, List.length_set, List.length_replicate, nlt h, h, nn0, nlt hcl, hcl, nlt hbl, hbl, f4, c4, b4, hce, hq3, hq4, hq5, hw]
                    refine ⟨i + 1, [(2, 2), (600, 600)], by omega, by dsimp only; omega, Weak.of (by rfl) ?_ ?_ (by rfl)⟩
                    · simp (config := { maxSteps := 4000000 }) only [go_sem, simprocAttr, ↓dnA, Tryz.f62, encT, rows_length, boolRows_length, List.length_set, List.length_replicate, hst, frW, wk2, wk1, wkL, wkB, hpW, List.mem_cons, Prod.mk.injEq, exists_eq_left, exists_eq_right, exists_eq]
                    · simp (config := { maxSteps := 4000000 }) only [go_sem, simprocAttr, ↓dnA, Tryz.f62, encT, rows_length, boolRows_length, List.length_set, List.length_replicate, frW, wk2, wk1, wkL, wkB, hpW, List.mem_cons, Prod.mk.injEq, exists_eq_left, exists_eq_right, exists_eq]
                  | true =>
                    simp only [Bool.and_self, Bool.true_and, if_true] at hst
                    simp (config := { maxSteps := 4000000 }) only [go_sem, simprocAttr, ↓dnA, Tryz.f62, encT, rows_length, boolRows_length, List.length_set, List.length_replicate, nlt h, h, nn0, nlt hcl, hcl, nlt hbl, hbl, f4, c4, b4, hce, hq3, hq4, hq5, hl, boolRows_get l b (by omega), spliceL, hw]
                    refine ⟨i + 1, [(2, 2), (600, 600)], by omega, by dsimp only; omega, Weak.of (by rfl) ?_ ?_ (by rfl)⟩
                    · simp (config := { maxSteps := 4000000 }) only [go_sem, simprocAttr, ↓dnA, Tryz.f62, encT, rows_length, boolRows_length, List.length_set, List.length_replicate, hst, ← boolRows_set, frW, wk2, wk1, wkL, wkB, hpW, List.mem_cons, Prod.mk.injEq, exists_eq_left, exists_eq_right, exists_eq]
                    · simp (config := { maxSteps := 4000000 }) only [go_sem, simprocAttr, ↓dnA, Tryz.f62, encT, rows_length, boolRows_length, List.length_set, List.length_replicate, frW, wk2, wk1, wkL, wkB, hpW, List.mem_cons, Prod.mk.injEq, exists_eq_left, exists_eq_right, exists_eq]
    · have hi' : i = t.blocks.length := by omega
      subst hi'
      simp (config := { maxSteps := 4000000 }) only [go_sem, simprocAttr, ↓dnA, Tryz.f62, encT, rows_length, boolRows_length, List.length_set, List.length_replicate, nlf h, hl]

end Go.Proofs.YthcfafpjkbbaoaaGreat

/- Contracts: the blocks that are committed at once, as a list. -/
set_option linter.unusedSimpArgs false
set_option linter.unusedVariables false
set_option maxRecDepth 20000
set_option maxHeartbeats 4000000
namespace Go.Proofs.YthcfafpjkbbaoaaGreat
open Go Go.RowKit

theorem c_spec_CommitHeads (n1 n2 n3 n4 : Option Bool) (t : Tree) (cs : List Cert) (hx : TreeSz t) :
    Det Tryz.prog 17 [.agg (encT n1 n2 n3 t), .sl n4 (rows encC cs)] (.osl true 1 (rows encI (commitHeads t cs))) := by
  refine fspec_det tab_ok Tryz.call17 Tryz.func17 rfl 35 Tryz.ntmps17 (of_decide_eq_true rfl) fun B => codeK_sound tab_ok _ _ _ ?_
  unfold commitHeads
  simp (config := { maxSteps := 4000000 }) only [go_sem, simprocAttr, ↓dnA, Tryz.f17, encT, rows_length, boolRows_length, List.length_set, List.length_replicate]
  refine CallTo.det (c_spec_CertifiedBlocks n1 n2 n3 n4 t cs hx) fun _ => ?_
  by_cases h : treeValid t = true ∧ cs.length ≤ 30
  · obtain ⟨e1, e2⟩ := certified_ne h.1 h.2
    have hl := certL_len t cs
    have ht := treeOk_of h.1
    have hlen := ht.len
    rw [if_neg e2, e1]
    generalize certL t cs = ce at hl
    have hz : ((ce.length : Int) == 0) = false := by simp; intro e; rw [e] at hl; simp at hl; omega
    simp (config := { maxSteps := 4000000 }) only [go_sem, simprocAttr, ↓dnA, Tryz.f17, encT, rows_length, boolRows_length, List.length_set, List.length_replicate, hz]
    refine CallTo.det (c_spec_l16Commits n1 n2 n3 _ t ce hx ht hl) fun _ => ?_
    have hl2 := headsTo_len t ce t.blocks.length
    unfold headsL headsB
    generalize headsTo t ce t.blocks.length = l at hl2
    rw [← hl2]
    simp (config := { maxSteps := 4000000 }) only [go_sem, simprocAttr, ↓dnA, Tryz.f17, encT, rows_length, boolRows_length, List.length_set, List.length_replicate, hz]
    refine semL_for tab_ok (fun p : Nat × List Int => ⟨35, [(5, .row 601 p.2.length), (7, .row 600 l.length), (8, .int .i64 p.1)], [(600, .row true true 1 (boolRows l)), (601, .row true true 1 (rows encI p.2))]⟩) (fun p => l.length - p.1)
      (fun p => p.1 ≤ l.length ∧ p.2.length ≤ p.1 ∧ p.2 ++ fltF (fun k => l.getD k false) (l.length - p.1) p.1 = fltF (fun k => l.getD k false) l.length 0) (0, []) [(20000, 600), (9, 601)] (Weak.of (by rfl) ?_ ?_ (by rfl)) ⟨by omega, by simp, rfl⟩ ?_
    · simp (config := { maxSteps := 4000000 }) only [go_sem, simprocAttr, ↓dnA, Tryz.f17, encT, rows_length, boolRows_length, List.length_set, List.length_replicate, frW, wk2, wk1, wkL, wkB, hpW, List.mem_cons, Prod.mk.injEq, exists_eq_left, exists_eq_right, exists_eq]
      try rfl
    · simp (config := { maxSteps := 4000000 }) only [go_sem, simprocAttr, ↓dnA, Tryz.f17, encT, rows_length, boolRows_length, List.length_set, List.length_replicate, frW, wk2, wk1, wkL, wkB, hpW, List.mem_cons, Prod.mk.injEq, exists_eq_left, exists_eq_right, exists_eq]
    · rintro ⟨i, acc⟩ ⟨hi, hac, hp⟩
      dsimp only at hi hac hp
      have htk := take_rows encI acc acc.length rfl
      by_cases h : i < l.length
      · have hw : IntKind.i64.wrap ((i : Int) + 1) = ((i + 1 : Nat) : Int) := wsucc h (by omega)
        have hg := boolRows_get l i h
        rw [fltF_step _ _ _ h] at hp
        cases e : l.getD i false with
        | false =>
          rw [e, if_neg Bool.false_ne_true, List.nil_append] at hp
          simp (config := { maxSteps := 4000000 }) only [go_sem, simprocAttr, ↓dnA, Tryz.f17, encT, rows_length, boolRows_length, List.length_set, List.length_replicate, nlt h, h, nn0, hg, e, hw]
          refine ⟨(i + 1, acc), [(600, 600), (601, 601)], ⟨by dsimp only; omega, by dsimp only; omega, hp⟩, by dsimp only; omega, Weak.of (by rfl) ?_ ?_ (by rfl)⟩
          · simp (config := { maxSteps := 4000000 }) only [go_sem, simprocAttr, ↓dnA, Tryz.f17, encT, rows_length, boolRows_length, List.length_set, List.length_replicate, frW, wk2, wk1, wkL, wkB, hpW, List.mem_cons, Prod.mk.injEq, exists_eq_left, exists_eq_right, exists_eq]
          · simp (config := { maxSteps := 4000000 }) only [go_sem, simprocAttr, ↓dnA, Tryz.f17, encT, rows_length, boolRows_length, List.length_set, List.length_replicate, frW, wk2, wk1, wkL, wkB, hpW, List.mem_cons, Prod.mk.injEq, exists_eq_left, exists_eq_right, exists_eq]
        | true =>
          rw [e, if_pos rfl] at hp
          simp (config := { maxSteps := 4000000 }) only [go_sem, simprocAttr, ↓dnA, Tryz.f17, encT, rows_length, boolRows_length, List.length_set, List.length_replicate, nlt h, h, nn0, hg, e, htk, hw]
          repeat refine And.intro (by first | omega | (simp; done) | (simp; omega) | assumption) ?_
          refine ⟨(i + 1, acc ++ [(i : Int)]), [(600, 600), (33, 601)], ⟨by dsimp only; omega, by simp; omega, by rw [← hp]; simp⟩, by dsimp only; omega, Weak.of (by rfl) ?_ ?_ (by rfl)⟩
          · simp (config := { maxSteps := 4000000 }) only [go_sem, simprocAttr, ↓dnA, Tryz.f17, encT, rows_length, boolRows_length, List.length_set, List.length_replicate, frW, wk2, wk1, wkL, wkB, hpW, List.mem_cons, Prod.mk.injEq, exists_eq_left, exists_eq_right, exists_eq]
            exact (rows_snoc encI _ _).symm
          · simp (config := { maxSteps := 4000000 }) only [go_sem, simprocAttr, ↓dnA, Tryz.f17, encT, rows_length, boolRows_length, List.length_set, List.length_replicate, List.length_append, frW, wk2, wk1, wkL, wkB, hpW, List.mem_cons, Prod.mk.injEq, exists_eq_left, exists_eq_right, exists_eq]
      · have hi' : i = l.length := by omega
        subst hi'
        rw [Nat.sub_self, show fltF (fun k => l.getD k false) 0 l.length = [] from rfl, List.append_nil] at hp
        simp (config := { maxSteps := 4000000 }) only [go_sem, simprocAttr, ↓dnA, Tryz.f17, encT, rows_length, boolRows_length, List.length_set, List.length_replicate, nlf h, hp]
  · have e := certified_no h
    rw [if_pos e, e]
    simp (config := { maxSteps := 4000000 }) only [go_sem, simprocAttr, ↓dnA, Tryz.f17, encT, rows_length, boolRows_length, List.length_set, List.length_replicate, rows_nil, boolRows, List.map_nil, List.length_nil]

end Go.Proofs.YthcfafpjkbbaoaaGreat

/- Contracts: up to where everything is committed; whether commits agree. -/
set_option linter.unusedSimpArgs false
set_option linter.unusedVariables false
set_option maxRecDepth 20000
set_option maxHeartbeats 4000000
namespace Go.Proofs.YthcfafpjkbbaoaaGreat
open Go Go.RowKit

theorem committedTo_yes {t : Tree} {cs : List Cert} (h : treeValid t = true ∧ cs.length ≤ 30) : committedTo t cs = bestF t (headsL t (certL t cs)) 0 := by
  obtain ⟨e1, e2⟩ := certified_ne h.1 h.2
  unfold committedTo; rw [if_neg e2, e1]
theorem committedTo_no {t : Tree} {cs : List Cert} (h : ¬ (treeValid t = true ∧ cs.length ≤ 30)) : committedTo t cs = -1 := by
  unfold committedTo; rw [if_pos (certified_no h)]
theorem commitHeads_yes {t : Tree} {cs : List Cert} (h : treeValid t = true ∧ cs.length ≤ 30) : commitHeads t cs = headsL t (certL t cs) := by
  obtain ⟨e1, e2⟩ := certified_ne h.1 h.2
  unfold commitHeads; rw [if_neg e2, e1]
/-- The step of the program's search: the first block is taken at once. -/
theorem best_step {t : Tree} (ht : TreeOk t) {xs : List Int} (hbd : ∀ x, x ∈ xs → 0 ≤ x ∧ x < t.blocks.length) {i : Nat} (h : i < xs.length) {b : Nat} (hb : b < t.blocks.length) (hi0 : i = 0 → b = 0) :
    ∃ k : Nat, xs[i] = (k : Int) ∧ k < t.blocks.length ∧
      ((i = 0 ∧ bestF t (xs.drop i) b = bestF t (xs.drop (i + 1)) k) ∨
       (i ≠ 0 ∧ (t.blk k).view > (t.blk b).view ∧ bestF t (xs.drop i) b = bestF t (xs.drop (i + 1)) k) ∨
       (i ≠ 0 ∧ ¬ (t.blk k).view > (t.blk b).view ∧ bestF t (xs.drop i) b = bestF t (xs.drop (i + 1)) b)) := by
  have hx := hbd _ (List.getElem_mem h)
  obtain ⟨k, hk⟩ : ∃ k : Nat, xs[i] = (k : Int) := ⟨xs[i].toNat, by omega⟩
  have hkl : k < t.blocks.length := by omega
  have he : bestF t (xs.drop i) b = bestF t (xs.drop (i + 1)) (if (t.blk k).view > (t.blk b).view then (k : Int) else b) := by
    rw [drop_cons xs i h, hk]
    rfl
  refine ⟨k, hk, hkl, ?_⟩
  by_cases h0 : i = 0
  · refine .inl ⟨h0, ?_⟩
    have hb0 := hi0 h0
    subst hb0
    by_cases hk0 : k = 0
    · subst hk0
      rw [he]; split <;> rfl
    · have := view0_lt ht (k + 1) k (by omega) (by omega) hkl
      rw [he, if_pos this]
  · by_cases hv : (t.blk k).view > (t.blk b).view
    · exact .inr (.inl ⟨h0, hv, by rw [he, if_pos hv]⟩)
    · exact .inr (.inr ⟨h0, hv, by rw [he, if_neg hv]⟩)
theorem best_step' {t : Tree} {xs : List Int} (hbd : ∀ x, x ∈ xs → 0 ≤ x ∧ x < t.blocks.length) {i : Nat} (h : i < xs.length) {b : Nat} :
    ∃ k : Nat, xs[i] = (k : Int) ∧ k < t.blocks.length ∧
      (((t.blk k).view > (t.blk b).view ∧ bestF t (xs.drop i) b = bestF t (xs.drop (i + 1)) k) ∨
       (¬ (t.blk k).view > (t.blk b).view ∧ bestF t (xs.drop i) b = bestF t (xs.drop (i + 1)) b)) := by
  have hx := hbd _ (List.getElem_mem h)
  obtain ⟨k, hk⟩ : ∃ k : Nat, xs[i] = (k : Int) := ⟨xs[i].toNat, by omega⟩
  have he : bestF t (xs.drop i) b = bestF t (xs.drop (i + 1)) (if (t.blk k).view > (t.blk b).view then (k : Int) else b) := by
    rw [drop_cons xs i h, hk]
    rfl
  refine ⟨k, hk, by omega, ?_⟩
  by_cases hv : (t.blk k).view > (t.blk b).view
  · exact .inl ⟨hv, by rw [he, if_pos hv]⟩
  · exact .inr ⟨hv, by rw [he, if_neg hv]⟩

theorem c_impl_CommittedTo (n1 n2 n3 n4 : Option Bool) (t : Tree) (cs : List Cert) (hx : TreeSz t) :
    Det Tryz.prog 142 [.agg (encT n1 n2 n3 t), .sl n4 (rows encC cs)] (.int .i64 (committedTo t cs)) := by
  refine fspec_det tab_ok Tryz.call142 Tryz.func142 rfl 43 Tryz.ntmps142 (of_decide_eq_true rfl) fun B => codeK_sound tab_ok _ _ _ ?_
  simp (config := { maxSteps := 4000000 }) only [go_sem, simprocAttr, ↓dnA, Tryz.f142, encT, rows_length, boolRows_length]
  by_cases hok : treeValid t = true ∧ cs.length ≤ 30
  · have hl := certL_len t cs
    have ht := treeOk_of hok.1
    have hlen := ht.len
    refine CallTo.det (c_impl_CertifiedBlocks_T n1 n2 n3 n4 t cs hx hok.1 hok.2) fun _ => ?_
    rw [committedTo_yes hok]
    generalize certL t cs = ce at hl
    simp (config := { maxSteps := 4000000 }) only [go_sem, simprocAttr, ↓dnA, Tryz.f142, encT, rows_length, boolRows_length]
    refine CallTo.det (c_impl_heads n1 n2 n3 _ t ce hx ht hl) fun _ => ?_
    have hbd := headsL_bd t ce
    have hhl := headsL_len t ce
    generalize headsL t ce = xs at hbd hhl
    simp (config := { maxSteps := 4000000 }) only [go_sem, simprocAttr, ↓dnA, Tryz.f142, encT, rows_length, boolRows_length]
    refine semL_for tab_ok (fun p : Nat × Nat => ⟨43, [(2, .loc 2 0), (6, .int .i64 p.2), (16, .row 600 xs.length), (17, .int .i64 xs.length), (18, .int .i64 p.1)],
        [(2, .var (encT n1 n2 n3 t)), (600, .row true false 1 (rows encI xs))]⟩) (fun p => xs.length - p.1)
      (fun p => p.1 ≤ xs.length ∧ p.2 < t.blocks.length ∧ (p.1 = 0 → p.2 = 0) ∧ bestF t (xs.drop p.1) p.2 = bestF t xs 0) (0, 0) [(2, 2), (17000, 600)] (Weak.of (by rfl) ?_ ?_ (by rfl)) ⟨by omega, by omega, fun _ => rfl, rfl⟩ ?_
    · simp (config := { maxSteps := 4000000 }) only [go_sem, simprocAttr, ↓dnA, Tryz.f142, encT, rows_length, boolRows_length, frW, wk2, wk1, wkL, wkB, hpW, List.mem_cons, Prod.mk.injEq, exists_eq_left, exists_eq_right, exists_eq]
    · simp (config := { maxSteps := 4000000 }) only [go_sem, simprocAttr, ↓dnA, Tryz.f142, encT, rows_length, boolRows_length, nc0, frW, wk2, wk1, wkL, wkB, hpW, List.mem_cons, Prod.mk.injEq, exists_eq_left, exists_eq_right, exists_eq]
    · rintro ⟨i, b⟩ ⟨hi, hb, hi0, hp⟩
      dsimp only at hi hb hi0 hp
      by_cases h : i < xs.length
      · have hw : IntKind.i64.wrap ((i : Int) + 1) = ((i + 1 : Nat) : Int) := wsucc h (by omega)
        obtain ⟨k, hk, hkl, hcase⟩ := best_step ht hbd h hb hi0
        have g1 := rows_gd encB1 t.blocks k hkl
        have g2 := rows_gd encB1 t.blocks b hb
        simp (config := { maxSteps := 4000000 }) only [go_sem, simprocAttr, ↓dnA, Tryz.f142, encT, rows_length, boolRows_length, nlt h, h, nn0, rows_get _ _ _ h, encI, hk]
        refine semL_draw tab_ok mixed_ rfl (ord := [(0, []), (1, []), (2, []), (3, []), (4, []), (5, []), (6, []), (7, []), (8, []), (9, []), (10, []), (11, []), (12, []), (13, []), (14, []), (15, []), (16, [])]) (by dsimp only; decide +kernel) ?_
        rcases hcase with ⟨h0, he⟩ | ⟨h0, hv, he⟩ | ⟨h0, hv, he⟩
        · have hz : ((i : Int) == 0) = true := by simp; omega
          simp (config := { maxSteps := 4000000 }) only [go_sem, simprocAttr, ↓dnA, Tryz.f142, encT, rows_length, boolRows_length, nlt h, h, nn0, rows_get _ _ _ h, encI, hk, hz, hw]
          refine ⟨(i + 1, k), [(2, 2), (600, 600)], ⟨by dsimp only; omega, hkl, by dsimp only; omega, by rw [← hp, he]⟩, by dsimp only; omega, Weak.of (by rfl) ?_ ?_ (by rfl)⟩
          · simp (config := { maxSteps := 4000000 }) only [go_sem, simprocAttr, ↓dnA, Tryz.f142, encT, rows_length, boolRows_length, frW, wk2, wk1, wkL, wkB, hpW, List.mem_cons, Prod.mk.injEq, exists_eq_left, exists_eq_right, exists_eq]
          · simp (config := { maxSteps := 4000000 }) only [go_sem, simprocAttr, ↓dnA, Tryz.f142, encT, rows_length, boolRows_length, frW, wk2, wk1, wkL, wkB, hpW, List.mem_cons, Prod.mk.injEq, exists_eq_left, exists_eq_right, exists_eq]
        · have hz : ((i : Int) == 0) = false := by simp; omega
          have hv' := decide_eq_true hv
          unfold Tree.blk at hv'
          simp (config := { maxSteps := 4000000 }) only [go_sem, simprocAttr, ↓dnA, Tryz.f142, encT, rows_length, boolRows_length, nlt h, h, nn0, rows_get _ _ _ h, encI, hk, hz, nlt hkl, nlt hb, hkl, hb, g1, g2, encB1, encBk, hv', hw]
          refine ⟨(i + 1, k), [(2, 2), (600, 600)], ⟨by dsimp only; omega, hkl, by dsimp only; omega, by rw [← hp, he]⟩, by dsimp only; omega, Weak.of (by rfl) ?_ ?_ (by rfl)⟩
          · simp (config := { maxSteps := 4000000 }) only [go_sem, simprocAttr, ↓dnA, Tryz.f142, encT, rows_length, boolRows_length, frW, wk2, wk1, wkL, wkB, hpW, List.mem_cons, Prod.mk.injEq, exists_eq_left, exists_eq_right, exists_eq]
          · simp (config := { maxSteps := 4000000 }) only [go_sem, simprocAttr, ↓dnA, Tryz.f142, encT, rows_length, boolRows_length, frW, wk2, wk1, wkL, wkB, hpW, List.mem_cons, Prod.mk.injEq, exists_eq_left, exists_eq_right, exists_eq]
        · have hz : ((i : Int) == 0) = false := by simp; omega
          have hv' := decide_eq_false hv
          unfold Tree.blk at hv'
          simp (config := { maxSteps := 4000000 }) only [go_sem, simprocAttr, ↓dnA, Tryz.f142, encT, rows_length, boolRows_length, nlt h, h, nn0, rows_get _ _ _ h, encI, hk, hz, nlt hkl, nlt hb, hkl, hb, g1, g2, encB1, encBk, hv', hw]
          refine ⟨(i + 1, b), [(2, 2), (600, 600)], ⟨by dsimp only; omega, hb, by dsimp only; omega, by rw [← hp, he]⟩, by dsimp only; omega, Weak.of (by rfl) ?_ ?_ (by rfl)⟩
          · simp (config := { maxSteps := 4000000 }) only [go_sem, simprocAttr, ↓dnA, Tryz.f142, encT, rows_length, boolRows_length, frW, wk2, wk1, wkL, wkB, hpW, List.mem_cons, Prod.mk.injEq, exists_eq_left, exists_eq_right, exists_eq]
          · simp (config := { maxSteps := 4000000 }) only [go_sem, simprocAttr, ↓dnA, Tryz.f142, encT, rows_length, boolRows_length, frW, wk2, wk1, wkL, wkB, hpW, List.mem_cons, Prod.mk.injEq, exists_eq_left, exists_eq_right, exists_eq]
      · have hi' : i = xs.length := by omega
        subst hi'
        rw [List.drop_length] at hp
        have hp' : bestF t xs 0 = (b : Int) := hp.symm
        simp (config := { maxSteps := 4000000 }) only [go_sem, simprocAttr, ↓dnA, Tryz.f142, encT, rows_length, boolRows_length, nlf h, hp']
  · refine CallTo.det (c_impl_CertifiedBlocks_no n1 n2 n3 n4 t cs hx hok) fun _ => ?_
    simp (config := { maxSteps := 4000000 }) only [go_sem, simprocAttr, ↓dnA, Tryz.f142, encT, rows_length, boolRows_length, committedTo_no hok]

theorem c_spec_CommittedTo (n1 n2 n3 n4 : Option Bool) (t : Tree) (cs : List Cert) (hx : TreeSz t) :
    Det Tryz.prog 158 [.agg (encT n1 n2 n3 t), .sl n4 (rows encC cs)] (.int .i64 (committedTo t cs)) := by
  refine fspec_det tab_ok Tryz.call158 Tryz.func158 rfl 43 Tryz.ntmps158 (of_decide_eq_true rfl) fun B => codeK_sound tab_ok _ _ _ ?_
  simp (config := { maxSteps := 4000000 }) only [go_sem, simprocAttr, ↓dnA, Tryz.f158, encT, rows_length, boolRows_length]
  refine CallTo.det (c_spec_CertifiedBlocks n1 n2 n3 n4 t cs hx) fun _ => ?_
  by_cases hok : treeValid t = true ∧ cs.length ≤ 30
  · have hl := certL_len t cs
    have ht := treeOk_of hok.1
    have hlen := ht.len
    rw [committedTo_yes hok, certified_yes hok.1 hok.2]
    have hz : (((certL t cs).length : Int) == 0) = false := by rw [hl]; exact beq_false_of_ne (by omega)
    simp (config := { maxSteps := 4000000 }) only [go_sem, simprocAttr, ↓dnA, Tryz.f158, encT, rows_length, boolRows_length, hz]
    refine CallTo.det (c_spec_CommitHeads n1 n2 n3 n4 t cs hx) fun _ => ?_
    rw [commitHeads_yes hok]
    have hbd := headsL_bd t (certL t cs)
    have hhl := headsL_len t (certL t cs)
    generalize headsL t (certL t cs) = xs at hbd hhl
    simp (config := { maxSteps := 4000000 }) only [go_sem, simprocAttr, ↓dnA, Tryz.f158, encT, rows_length, boolRows_length, hz]
    refine semL_for tab_ok (fun p : Nat × Nat => ⟨43, [(2, .loc 2 0), (5, .int .i64 p.2), (6, .row 600 xs.length), (7, .int .i64 p.1)],
        [(2, .var (encT n1 n2 n3 t)), (600, .row true true 1 (rows encI xs))]⟩) (fun p => xs.length - p.1)
      (fun p => p.1 ≤ xs.length ∧ p.2 < t.blocks.length ∧ bestF t (xs.drop p.1) p.2 = bestF t xs 0) (0, 0) [(2, 2), (16000, 600)] (Weak.of (by rfl) ?_ ?_ (by rfl)) ⟨by omega, by omega, rfl⟩ ?_
    · simp (config := { maxSteps := 4000000 }) only [go_sem, simprocAttr, ↓dnA, Tryz.f158, encT, rows_length, boolRows_length, frW, wk2, wk1, wkL, wkB, hpW, List.mem_cons, Prod.mk.injEq, exists_eq_left, exists_eq_right, exists_eq]
    · simp (config := { maxSteps := 4000000 }) only [go_sem, simprocAttr, ↓dnA, Tryz.f158, encT, rows_length, boolRows_length, nc0, frW, wk2, wk1, wkL, wkB, hpW, List.mem_cons, Prod.mk.injEq, exists_eq_left, exists_eq_right, exists_eq]
    · rintro ⟨i, b⟩ ⟨hi, hb, hp⟩
      dsimp only at hi hb hp
      by_cases h : i < xs.length
      · have hw : IntKind.i64.wrap ((i : Int) + 1) = ((i + 1 : Nat) : Int) := wsucc h (by omega)
        obtain ⟨k, hk, hkl, hcase⟩ := best_step' hbd h (b := b)
        have g1 := rows_gd encB1 t.blocks k hkl
        have g2 := rows_gd encB1 t.blocks b hb
        simp (config := { maxSteps := 4000000 }) only [go_sem, simprocAttr, ↓dnA, Tryz.f158, encT, rows_length, boolRows_length, nlt h, h, nn0, rows_get _ _ _ h, encI, hk]
        refine semL_draw tab_ok mixed_ rfl (ord := [(0, []), (1, []), (2, []), (3, []), (4, []), (5, []), (6, []), (7, []), (8, []), (9, []), (10, []), (11, []), (12, []), (13, []), (14, []), (15, [])]) (by dsimp only; decide +kernel) ?_
        rcases hcase with ⟨hv, he⟩ | ⟨hv, he⟩
        · have hv' := decide_eq_true hv
          unfold Tree.blk at hv'
          simp (config := { maxSteps := 4000000 }) only [go_sem, simprocAttr, ↓dnA, Tryz.f158, encT, rows_length, boolRows_length, nlt h, h, nn0, rows_get _ _ _ h, encI, hk, nlt hkl, nlt hb, hkl, hb, g1, g2, encB1, encBk, hv', hw]
          refine ⟨(i + 1, k), [(2, 2), (600, 600)], ⟨by dsimp only; omega, hkl, by rw [← hp, he]⟩, by dsimp only; omega, Weak.of (by rfl) ?_ ?_ (by rfl)⟩
          · simp (config := { maxSteps := 4000000 }) only [go_sem, simprocAttr, ↓dnA, Tryz.f158, encT, rows_length, boolRows_length, frW, wk2, wk1, wkL, wkB, hpW, List.mem_cons, Prod.mk.injEq, exists_eq_left, exists_eq_right, exists_eq]
          · simp (config := { maxSteps := 4000000 }) only [go_sem, simprocAttr, ↓dnA, Tryz.f158, encT, rows_length, boolRows_length, frW, wk2, wk1, wkL, wkB, hpW, List.mem_cons, Prod.mk.injEq, exists_eq_left, exists_eq_right, exists_eq]
        · have hv' := decide_eq_false hv
          unfold Tree.blk at hv'
          simp (config := { maxSteps := 4000000 }) only [go_sem, simprocAttr, ↓dnA, Tryz.f158, encT, rows_length, boolRows_length, nlt h, h, nn0, rows_get _ _ _ h, encI, hk, nlt hkl, nlt hb, hkl, hb, g1, g2, encB1, encBk, hv', hw]
          refine ⟨(i + 1, b), [(2, 2), (600, 600)], ⟨by dsimp only; omega, hb, by rw [← hp, he]⟩, by dsimp only; omega, Weak.of (by rfl) ?_ ?_ (by rfl)⟩
          · simp (config := { maxSteps := 4000000 }) only [go_sem, simprocAttr, ↓dnA, Tryz.f158, encT, rows_length, boolRows_length, frW, wk2, wk1, wkL, wkB, hpW, List.mem_cons, Prod.mk.injEq, exists_eq_left, exists_eq_right, exists_eq]
          · simp (config := { maxSteps := 4000000 }) only [go_sem, simprocAttr, ↓dnA, Tryz.f158, encT, rows_length, boolRows_length, frW, wk2, wk1, wkL, wkB, hpW, List.mem_cons, Prod.mk.injEq, exists_eq_left, exists_eq_right, exists_eq]
      · have hi' : i = xs.length := by omega
        subst hi'
        rw [List.drop_length] at hp
        have hp' : bestF t xs 0 = (b : Int) := hp.symm
        simp (config := { maxSteps := 4000000 }) only [go_sem, simprocAttr, ↓dnA, Tryz.f158, encT, rows_length, boolRows_length, nlf h, hp']
  · rw [certified_no hok]
    simp (config := { maxSteps := 4000000 }) only [go_sem, simprocAttr, ↓dnA, Tryz.f158, encT, rows_length, boolRows_length, committedTo_no hok, List.length_nil]

end Go.Proofs.YthcfafpjkbbaoaaGreat

/- Contracts: certificates and heads of worlds. -/
set_option linter.unusedSimpArgs false
set_option linter.unusedVariables false
set_option maxRecDepth 20000
set_option maxHeartbeats 4000000
namespace Go.Proofs.YthcfafpjkbbaoaaGreat
open Go Go.RowKit

theorem certsTo_yes {w : Wld} {k : Nat} (h : 0 < k ∧ 0 < w.votes.getD k 0) : certsTo w (k + 1) = certsTo w k ++ [certAt w k] := by
  conv => lhs; unfold certsTo
  rw [if_pos h]
theorem certsTo_no {w : Wld} {k : Nat} (h : ¬ (0 < k ∧ 0 < w.votes.getD k 0)) : certsTo w (k + 1) = certsTo w k := by
  conv => lhs; unfold certsTo
  rw [if_neg h]
theorem worldCerts_yes {w : Wld} (h : worldValid w = true) : worldCerts w = certsTo w w.votes.length := by unfold worldCerts; rw [if_pos h]
theorem worldCerts_no {w : Wld} (h : worldValid w = false) : worldCerts w = [] := by unfold worldCerts; rw [h]; rfl
theorem worldCerts_len (w : Wld) : (worldCerts w).length ≤ w.votes.length := by
  cases h : worldValid w with
  | false => rw [worldCerts_no h]; simp
  | true => rw [worldCerts_yes h]; have := certsTo_len w w.votes.length; omega

theorem c_impl_certs (n1 n2 n3 n4 n5 : Option Bool) (w : Wld) (hx : WldSz w) (hv : worldValid w = true) :
    Det Tryz.prog 83 [.agg (encW n1 n2 n3 n4 n5 w)] (.osl false 3 (rows encC (certsTo w w.votes.length))) := by
  refine fspec_det tab_ok Tryz.call83 Tryz.func83 rfl 38 Tryz.ntmps83 (of_decide_eq_true rfl) fun B => codeK_sound tab_ok _ _ _ ?_
  obtain ⟨ht, h4, hvo, hvl, hvs⟩ := worldValid_parts hv
  have hlen := ht.len
  have hvt := hx.votes
  simp (config := { maxSteps := 4000000 }) only [go_sem, simprocAttr, ↓dnA, Tryz.f83, rows_length, encW]
  refine semL_nilA 3 3 3 true (by rfl) (by rfl) (by decide) (by decide) ?_
  refine semL_for tab_ok (fun i : Nat => ⟨38, [(1, .loc 1 0), (3, .row 3 (certsTo w i).length), (8, .sl n5 (rows encI w.votes)), (9, .int .i64 w.votes.length), (10, .int .i64 i)],
      [(1, .var (encW n1 n2 n3 n4 n5 w)), (3, .row true false 3 (rows encC (certsTo w i)))]⟩) (fun i => w.votes.length - i)
    (fun i => i ≤ w.votes.length) 0 [(1, 1), (3, 3)] (Weak.of (by rfl) ?_ ?_ (by rfl)) (by omega) ?_
  · simp (config := { maxSteps := 4000000 }) only [go_sem, simprocAttr, ↓dnA, Tryz.f83, rows_length, encW, frW, wk2, wk1, wkL, wkB, hpW, List.mem_cons, Prod.mk.injEq, exists_eq_left, exists_eq_right, exists_eq]
    try rfl
  · simp (config := { maxSteps := 4000000 }) only [go_sem, simprocAttr, ↓dnA, Tryz.f83, rows_length, nc0, certsTo, List.length_nil, frW, wk2, wk1, wkL, wkB, hpW, List.mem_cons, Prod.mk.injEq, exists_eq_left, exists_eq_right, exists_eq]
  · rintro i hi
    by_cases h : i < w.votes.length
    · have hw : IntKind.i64.wrap ((i : Int) + 1) = ((i + 1 : Nat) : Int) := wsucc h (by omega)
      have hgi : w.votes.getD i 0 = w.votes[i] := by rw [List.getD_eq_getElem?_getD, List.getElem?_eq_getElem h]; rfl
      have hac := certsTo_len w i
      have htk := take_rows encC (certsTo w i) (certsTo w i).length rfl
      by_cases hi0 : i = 0
      · have hd : decide ((i : Int) > 0) = false := by simp; omega
        have hst := certsTo_no (w := w) (k := i) (fun e => by omega)
        simp (config := { maxSteps := 4000000 }) only [go_sem, simprocAttr, ↓dnA, Tryz.f83, rows_length, encW, nlt h, h, nn0, rows_get _ _ _ h, encI, hd, hw]
        refine ⟨i + 1, [(1, 1), (3, 3)], by omega, by dsimp only; omega, Weak.of (by rfl) ?_ ?_ (by rfl)⟩
        · simp (config := { maxSteps := 4000000 }) only [go_sem, simprocAttr, ↓dnA, Tryz.f83, rows_length, encW, hst, frW, wk2, wk1, wkL, wkB, hpW, List.mem_cons, Prod.mk.injEq, exists_eq_left, exists_eq_right, exists_eq]
        · simp (config := { maxSteps := 4000000 }) only [go_sem, simprocAttr, ↓dnA, Tryz.f83, rows_length, hst, frW, wk2, wk1, wkL, wkB, hpW, List.mem_cons, Prod.mk.injEq, exists_eq_left, exists_eq_right, exists_eq]
      · have hd : decide ((i : Int) > 0) = true := by simp; omega
        by_cases hp : 0 < w.votes[i]
        · have hd2 : decide (w.votes[i] > 0) = true := decide_eq_true hp
          have hst := certsTo_yes (w := w) (k := i) ⟨by omega, by rw [hgi]; exact hp⟩
          have hil : i < w.tree.blocks.length := by omega
          have g1 := rows_gd encB1 w.tree.blocks i hil
          have hbl : (w.tree.blk i).list.length < 2 ^ 62 := by
            have := hx.tree.list _ (List.getElem_mem hil)
            rw [w.tree.blk_get i hil] at this
            exact this
          simp (config := { maxSteps := 4000000 }) only [go_sem, simprocAttr, ↓dnA, Tryz.f83, rows_length, encW, nlt h, h, nn0, rows_get _ _ _ h, encI, hd, hd2, nlt hil, hil, g1, encB1, encBk]
          refine semL_drawL tab_ok 9 mixed_ rfl (ord := [(0, []), (1, []), (3, []), (4, []), (5, []), (2, [0, 3, 4, 5]), (6, []), (7, [0]), (8, [])]) (by dsimp only; decide +kernel) ?_
          simp (config := { maxSteps := 4000000 }) only [go_sem, simprocAttr, ↓dnA, Tryz.f83, rows_length, encW, nlt h, h, nn0, rows_get _ _ _ h, encI, hd, hd2, nlt hil, hil, g1, encB1, encBk]
          refine CallTo.det (c_impl_BlockSum none (w.tree.blk i) hbl) fun _ => ?_
          simp (config := { maxSteps := 4000000 }) only [go_sem, simprocAttr, ↓dnA, Tryz.f83, rows_length, encW, nlt h, h, nn0, rows_get _ _ _ h, encI, hd, hd2, nlt hil, hil, g1, encB1, encBk, htk, hw]
          repeat refine And.intro (by first | omega | (simp; done) | (simp; omega) | assumption) ?_
          refine ⟨i + 1, [(1, 1), (35, 3)], by omega, by dsimp only; omega, Weak.of (by rfl) ?_ ?_ (by rfl)⟩
          · simp (config := { maxSteps := 4000000 }) only [go_sem, simprocAttr, ↓dnA, Tryz.f83, rows_length, encW, hst, frW, wk2, wk1, wkL, wkB, hpW, List.mem_cons, Prod.mk.injEq, exists_eq_left, exists_eq_right, exists_eq]
            rw [← rows_snoc]
            unfold certAt encC
            rw [hgi]
            rfl
          · simp (config := { maxSteps := 4000000 }) only [go_sem, simprocAttr, ↓dnA, Tryz.f83, rows_length, hst, List.length_append, frW, wk2, wk1, wkL, wkB, hpW, List.mem_cons, Prod.mk.injEq, exists_eq_left, exists_eq_right, exists_eq]
            try rfl
        · have hd2 : decide (w.votes[i] > 0) = false := decide_eq_false hp
          have hst := certsTo_no (w := w) (k := i) (fun e => hp (by rw [← hgi]; exact e.2))
          simp (config := { maxSteps := 4000000 }) only [go_sem, simprocAttr, ↓dnA, Tryz.f83, rows_length, encW, nlt h, h, nn0, rows_get _ _ _ h, encI, hd, hd2, hw]
          refine ⟨i + 1, [(1, 1), (3, 3)], by omega, by dsimp only; omega, Weak.of (by rfl) ?_ ?_ (by rfl)⟩
          · simp (config := { maxSteps := 4000000 }) only [go_sem, simprocAttr, ↓dnA, Tryz.f83, rows_length, encW, hst, frW, wk2, wk1, wkL, wkB, hpW, List.mem_cons, Prod.mk.injEq, exists_eq_left, exists_eq_right, exists_eq]
          · simp (config := { maxSteps := 4000000 }) only [go_sem, simprocAttr, ↓dnA, Tryz.f83, rows_length, hst, frW, wk2, wk1, wkL, wkB, hpW, List.mem_cons, Prod.mk.injEq, exists_eq_left, exists_eq_right, exists_eq]
    · have hi' : i = w.votes.length := by omega
      subst hi'
      simp (config := { maxSteps := 4000000 }) only [go_sem, simprocAttr, ↓dnA, Tryz.f83, rows_length, nlf h]

theorem c_spec_WorldCerts (n1 n2 n3 n4 n5 : Option Bool) (w : Wld) (hx : WldSz w) :
    Det Tryz.prog 159 [.agg (encW n1 n2 n3 n4 n5 w)] (.osl true 3 (rows encC (worldCerts w))) := by
  refine fspec_det tab_ok Tryz.call159 Tryz.func159 rfl 47 Tryz.ntmps159 (of_decide_eq_true rfl) fun B => codeK_sound tab_ok _ _ _ ?_
  have hvt := hx.votes
  cases h0 : worldValid w with
  | false =>
    rw [worldCerts_no h0]
    simp (config := { maxSteps := 4000000 }) only [go_sem, simprocAttr, ↓dnA, Tryz.f159, rows_length, encW]
    refine semL_for tab_ok (fun _ : Nat => ⟨47, [(1, .loc 1 0), (3, .row 600 0), (4, .int .i64 1)], [(1, .var (encW n1 n2 n3 n4 n5 w)), (600, .row true true 3 [])]⟩) (fun i => i) (fun _ => True) 0 [(1, 1), (5, 600)] (Weak.of (by rfl) ?_ ?_ (by rfl)) trivial ?_
    · simp (config := { maxSteps := 4000000 }) only [go_sem, simprocAttr, ↓dnA, Tryz.f159, rows_length, encW, frW, wk2, wk1, wkL, wkB, hpW, List.mem_cons, Prod.mk.injEq, exists_eq_left, exists_eq_right, exists_eq]
      try rfl
    · simp (config := { maxSteps := 4000000 }) only [go_sem, simprocAttr, ↓dnA, Tryz.f159, rows_length, frW, wk2, wk1, wkL, wkB, hpW, List.mem_cons, Prod.mk.injEq, exists_eq_left, exists_eq_right, exists_eq]
    · rintro i -
      by_cases h : (1 : Int) < (w.votes.length : Int)
      · simp (config := { maxSteps := 4000000 }) only [go_sem, simprocAttr, ↓dnA, Tryz.f159, rows_length, encW, decide_eq_true h]
        refine CallTo.det (c_spec_WorldValid n1 n2 n3 n4 n5 w hx) fun _ => ?_
        simp (config := { maxSteps := 4000000 }) only [go_sem, simprocAttr, ↓dnA, Tryz.f159, rows_length, encW, decide_eq_true h, h0, rows_nil, List.length_nil]
      · simp (config := { maxSteps := 4000000 }) only [go_sem, simprocAttr, ↓dnA, Tryz.f159, rows_length, encW, decide_eq_false h, rows_nil, List.length_nil]
  | true =>
    rw [worldCerts_yes h0]
    obtain ⟨ht, h4, hvo, hvl, hvs⟩ := worldValid_parts h0
    have hlen := ht.len
    have hc1 : certsTo w 1 = [] := certsTo_no (w := w) (k := 0) (fun e => by omega)
    simp (config := { maxSteps := 4000000 }) only [go_sem, simprocAttr, ↓dnA, Tryz.f159, rows_length, encW]
    refine semL_for tab_ok (fun i : Nat => ⟨47, [(1, .loc 1 0), (3, .row 600 (certsTo w i).length), (4, .int .i64 i)],
        [(1, .var (encW n1 n2 n3 n4 n5 w)), (600, .row true true 3 (rows encC (certsTo w i)))]⟩) (fun i => w.votes.length - i)
      (fun i => 1 ≤ i ∧ i ≤ w.votes.length) 1 [(1, 1), (5, 600)] (Weak.of (by rfl) ?_ ?_ (by rfl)) (by omega) ?_
    · simp (config := { maxSteps := 4000000 }) only [go_sem, simprocAttr, ↓dnA, Tryz.f159, rows_length, encW, hc1, frW, wk2, wk1, wkL, wkB, hpW, List.mem_cons, Prod.mk.injEq, exists_eq_left, exists_eq_right, exists_eq]
      try rfl
    · simp (config := { maxSteps := 4000000 }) only [go_sem, simprocAttr, ↓dnA, Tryz.f159, rows_length, hc1, List.length_nil, frW, wk2, wk1, wkL, wkB, hpW, List.mem_cons, Prod.mk.injEq, exists_eq_left, exists_eq_right, exists_eq]
      try rfl
    · rintro i ⟨hi1, hi⟩
      by_cases h : i < w.votes.length
      · have hw : IntKind.i64.wrap ((i : Int) + 1) = ((i + 1 : Nat) : Int) := wsucc h (by omega)
        have hgi : w.votes.getD i 0 = w.votes[i] := by rw [List.getD_eq_getElem?_getD, List.getElem?_eq_getElem h]; rfl
        have hac := certsTo_len w i
        have htk := take_rows encC (certsTo w i) (certsTo w i).length rfl
        have hd0 : decide ((i : Int) < (w.votes.length : Int)) = true := by simp; omega
        simp (config := { maxSteps := 4000000 }) only [go_sem, simprocAttr, ↓dnA, Tryz.f159, rows_length, encW, hd0]
        refine CallTo.det (c_spec_WorldValid n1 n2 n3 n4 n5 w hx) fun _ => ?_
        by_cases hp : 0 < w.votes[i]
        · have hd2 : decide (w.votes[i] > 0) = true := decide_eq_true hp
          have hst := certsTo_yes (w := w) (k := i) ⟨by omega, by rw [hgi]; exact hp⟩
          have hil : i < w.tree.blocks.length := by omega
          have g1 := rows_gd encB1 w.tree.blocks i hil
          have hbl : (w.tree.blk i).list.length < 2 ^ 62 := by
            have := hx.tree.list _ (List.getElem_mem hil)
            rw [w.tree.blk_get i hil] at this
            exact this
          simp (config := { maxSteps := 4000000 }) only [go_sem, simprocAttr, ↓dnA, Tryz.f159, rows_length, encW, hd0, h0, nlt h, h, nn0, rows_get _ _ _ h, encI, hd2]
          refine semL_drawL tab_ok 23 mixed_ rfl (ord := [(0, []), (1, []), (2, []), (3, []), (4, []), (5, []), (6, []), (8, []), (9, []), (10, []), (11, []), (12, []), (13, []), (14, []), (15, []), (16, []), (17, []), (18, []), (19, []), (7, [0, 8, 9, 10, 11, 12, 13, 14, 15, 16, 17, 18, 19]), (20, []), (21, [0]), (22, [])]) (by dsimp only; decide +kernel) ?_
          simp (config := { maxSteps := 4000000 }) only [go_sem, simprocAttr, ↓dnA, Tryz.f159, rows_length, encW, hd0, h0, nlt h, h, nn0, rows_get _ _ _ h, encI, hd2, nlt hil, hil, g1, encB1, encBk]
          refine CallTo.det (c_spec_BlockSum none (w.tree.blk i) hbl) fun _ => ?_
          simp (config := { maxSteps := 4000000 }) only [go_sem, simprocAttr, ↓dnA, Tryz.f159, rows_length, encW, hd0, h0, nlt h, h, nn0, rows_get _ _ _ h, encI, hd2, nlt hil, hil, g1, encB1, encBk, htk, hw]
          repeat refine And.intro (by first | omega | (simp; done) | (simp; omega) | assumption) ?_
          refine ⟨i + 1, [(1, 1), (45, 600)], by omega, by dsimp only; omega, Weak.of (by rfl) ?_ ?_ (by rfl)⟩
          · simp (config := { maxSteps := 4000000 }) only [go_sem, simprocAttr, ↓dnA, Tryz.f159, rows_length, encW, hst, frW, wk2, wk1, wkL, wkB, hpW, List.mem_cons, Prod.mk.injEq, exists_eq_left, exists_eq_right, exists_eq]
            rw [← rows_snoc]
            unfold certAt encC
            rw [hgi]
            rfl
          · simp (config := { maxSteps := 4000000 }) only [go_sem, simprocAttr, ↓dnA, Tryz.f159, rows_length, hst, List.length_append, frW, wk2, wk1, wkL, wkB, hpW, List.mem_cons, Prod.mk.injEq, exists_eq_left, exists_eq_right, exists_eq]
            try rfl
        · have hd2 : decide (w.votes[i] > 0) = false := decide_eq_false hp
          have hst := certsTo_no (w := w) (k := i) (fun e => hp (by rw [← hgi]; exact e.2))
          simp (config := { maxSteps := 4000000 }) only [go_sem, simprocAttr, ↓dnA, Tryz.f159, rows_length, encW, hd0, h0, nlt h, h, nn0, rows_get _ _ _ h, encI, hd2, hw]
          refine ⟨i + 1, [(1, 1), (600, 600)], by omega, by dsimp only; omega, Weak.of (by rfl) ?_ ?_ (by rfl)⟩
          · simp (config := { maxSteps := 4000000 }) only [go_sem, simprocAttr, ↓dnA, Tryz.f159, rows_length, encW, hst, frW, wk2, wk1, wkL, wkB, hpW, List.mem_cons, Prod.mk.injEq, exists_eq_left, exists_eq_right, exists_eq]
          · simp (config := { maxSteps := 4000000 }) only [go_sem, simprocAttr, ↓dnA, Tryz.f159, rows_length, hst, frW, wk2, wk1, wkL, wkB, hpW, List.mem_cons, Prod.mk.injEq, exists_eq_left, exists_eq_right, exists_eq]
      · have hi' : i = w.votes.length := by omega
        subst hi'
        have hd0 : decide ((w.votes.length : Int) < (w.votes.length : Int)) = false := by simp
        simp (config := { maxSteps := 4000000 }) only [go_sem, simprocAttr, ↓dnA, Tryz.f159, rows_length, encW, hd0]

theorem worldHead_yes {w : Wld} (h : worldValid w = true) : worldHead w = headW w := by unfold worldHead; rw [if_pos h]
theorem worldHead_no {w : Wld} (h : worldValid w = false) : worldHead w = -1 := by unfold worldHead; rw [h]; rfl

theorem c_impl_head (n1 n2 n3 n4 n5 : Option Bool) (w : Wld) (hx : WldSz w) (hv : worldValid w = true) :
    Det Tryz.prog 82 [.agg (encW n1 n2 n3 n4 n5 w)] (.int .i64 (headW w)) := by
  refine fspec_det tab_ok Tryz.call82 Tryz.func82 rfl 8 Tryz.ntmps82 (of_decide_eq_true rfl) fun B => codeK_sound tab_ok _ _ _ ?_
  have hcl := certsTo_len w w.votes.length
  have hvt := hx.votes
  unfold headW
  simp (config := { maxSteps := 4000000 }) only [go_sem, simprocAttr, ↓dnA, Tryz.f82, rows_length, encW]
  refine semL_draw tab_ok mixed_ rfl (ord := [(0, []), (1, []), (2, []), (3, [0, 1]), (4, []), (5, [])]) (by dsimp only; decide +kernel) ?_
  simp (config := { maxSteps := 4000000 }) only [go_sem, simprocAttr, ↓dnA, Tryz.f82, rows_length, encW]
  refine CallTo.det (c_impl_certs n1 n2 n3 n4 n5 w hx hv) fun _ => ?_
  simp (config := { maxSteps := 4000000 }) only [go_sem, simprocAttr, ↓dnA, Tryz.f82, rows_length, encW]
  refine CallTo.det (c_impl_CommittedTo n1 n2 n3 none w.tree (certsTo w w.votes.length) hx.tree) fun _ => ?_
  simp (config := { maxSteps := 4000000 }) only [go_sem, simprocAttr, ↓dnA, Tryz.f82, rows_length, encW]

theorem c_impl_WorldHead (n1 n2 n3 n4 n5 : Option Bool) (w : Wld) (hx : WldSz w) :
    Det Tryz.prog 26 [.agg (encW n1 n2 n3 n4 n5 w)] (.int .i64 (worldHead w)) := by
  refine fspec_det tab_ok Tryz.call26 Tryz.func26 rfl 8 Tryz.ntmps26 (of_decide_eq_true rfl) fun B => codeK_sound tab_ok _ _ _ ?_
  simp (config := { maxSteps := 4000000 }) only [go_sem, simprocAttr, ↓dnA, Tryz.f26, rows_length, encW]
  refine CallTo.det (c_impl_WorldValid n1 n2 n3 n4 n5 w hx) fun _ => ?_
  cases h0 : worldValid w with
  | false => simp (config := { maxSteps := 4000000 }) only [go_sem, simprocAttr, ↓dnA, Tryz.f26, rows_length, encW, h0, worldHead_no h0]
  | true =>
    simp (config := { maxSteps := 4000000 }) only [go_sem, simprocAttr, ↓dnA, Tryz.f26, rows_length, encW, h0]
    refine CallTo.det (c_impl_head n1 n2 n3 n4 n5 w hx h0) fun _ => ?_
    simp (config := { maxSteps := 4000000 }) only [go_sem, simprocAttr, ↓dnA, Tryz.f26, rows_length, encW, h0, worldHead_yes h0]

theorem c_spec_WorldHead (n1 n2 n3 n4 n5 : Option Bool) (w : Wld) (hx : WldSz w) :
    Det Tryz.prog 115 [.agg (encW n1 n2 n3 n4 n5 w)] (.int .i64 (worldHead w)) := by
  refine fspec_det tab_ok Tryz.call115 Tryz.func115 rfl 11 Tryz.ntmps115 (of_decide_eq_true rfl) fun B => codeK_sound tab_ok _ _ _ ?_
  have hcl := worldCerts_len w
  have hvt := hx.votes
  simp (config := { maxSteps := 4000000 }) only [go_sem, simprocAttr, ↓dnA, Tryz.f115, rows_length, encW]
  refine CallTo.det (c_spec_WorldValid n1 n2 n3 n4 n5 w hx) fun _ => ?_
  cases h0 : worldValid w with
  | false => simp (config := { maxSteps := 4000000 }) only [go_sem, simprocAttr, ↓dnA, Tryz.f115, rows_length, encW, h0, worldHead_no h0]
  | true =>
    have hh : worldHead w = committedTo w.tree (worldCerts w) := by rw [worldHead_yes h0, worldCerts_yes h0]; rfl
    rw [hh]
    simp (config := { maxSteps := 4000000 }) only [go_sem, simprocAttr, ↓dnA, Tryz.f115, rows_length, encW, h0]
    refine semL_draw tab_ok mixed_ rfl (ord := [(0, []), (1, []), (2, []), (3, [0, 1]), (4, []), (5, [])]) (by dsimp only; decide +kernel) ?_
    simp (config := { maxSteps := 4000000 }) only [go_sem, simprocAttr, ↓dnA, Tryz.f115, rows_length, encW, h0]
    refine CallTo.det (c_spec_WorldCerts n1 n2 n3 n4 n5 w hx) fun _ => ?_
    simp (config := { maxSteps := 4000000 }) only [go_sem, simprocAttr, ↓dnA, Tryz.f115, rows_length, encW, h0]
    refine CallTo.det (c_spec_CommittedTo n1 n2 n3 (some true) w.tree (worldCerts w) hx.tree) fun _ => ?_
    simp (config := { maxSteps := 4000000 }) only [go_sem, simprocAttr, ↓dnA, Tryz.f115, rows_length, encW, h0]

end Go.Proofs.YthcfafpjkbbaoaaGreat

/- Bounds of sums; next blocks are valid; trees that grow stay valid: plain lemmas. -/
set_option linter.unusedSimpArgs false
set_option linter.unusedVariables false
set_option maxRecDepth 20000
set_option maxHeartbeats 4000000
namespace Go.Proofs.YthcfafpjkbbaoaaGreat
open Go Go.RowKit

/-- A block is right over a store. -/
def blockRight (b : Block) (s : List Entry) : Bool := blockValid b && storeValid s && (b.root == rootOf (runSerial s b.list).1) && (b.effects == effectsSum (runSerial s b.list).2)

end Go.Proofs.YthcfafpjkbbaoaaGreat

/- Plain laws of certificates and worlds. -/
set_option linter.unusedSimpArgs false
set_option linter.unusedVariables false
set_option maxRecDepth 20000
set_option maxHeartbeats 4000000
namespace Go.Proofs.YthcfafpjkbbaoaaGreat
open Go Go.RowKit

/-- What one list marks the other marks too. -/
structure LeB (l m : List Bool) : Prop where
  len : l.length = m.length
  le : ∀ k, l.getD k false = true → m.getD k false = true
theorem LeB.refl (l : List Bool) : LeB l l := ⟨rfl, fun _ h => h⟩
theorem LeB.trans {a b c : List Bool} (h : LeB a b) (g : LeB b c) : LeB a c := ⟨h.len.trans g.len, fun k hk => g.le k (h.le k hk)⟩
theorem getD_set_true (l : List Bool) (i k : Nat) (h : l.getD k false = true) : (l.set i true).getD k false = true := by
  rw [List.getD_eq_getElem?_getD] at h ⊢
  rw [List.getElem?_set]
  split
  · rename_i e
    subst e
    split
    · rfl
    · rename_i e2
      rw [List.getElem?_eq_none (by omega)] at h
      cases h
  · exact h
end Go.Proofs.YthcfafpjkbbaoaaGreat

/- Members that keep to the rules: what is committed stays on one way: plain. -/
set_option linter.unusedSimpArgs false
set_option linter.unusedVariables false
set_option maxRecDepth 20000
set_option maxHeartbeats 4000000
namespace Go.Proofs.YthcfafpjkbbaoaaGreat
open Go Go.RowKit

def vt (w : Wld) (k : Nat) : Int := w.votes.getD k 0
def cw (w : Wld) (k : Nat) : Bool := k == 0 || decide (many (vt w k) ≥ 3)
/-- What is certified stays certified. -/
structure Later (w w' : Wld) : Prop where
  tree : w'.tree = w.tree
  cert : ∀ k, cw w k = true → cw w' k = true
  bits : ∀ k q, q < 4 → hasB (vt w k) q = true → hasB (vt w' k) q = true
theorem Later.refl (w : Wld) : Later w w := ⟨rfl, fun _ h => h, fun _ _ _ h => h⟩
theorem Later.trans {a b c : Wld} (h : Later a b) (g : Later b c) : Later a c := ⟨g.tree.trans h.tree, fun k hk => g.cert k (h.cert k hk), fun k q hq hk => g.bits k q hq (h.bits k q hq hk)⟩
/-! What the certificates of a world certify. -/
/-! Heads. -/
end Go.Proofs.YthcfafpjkbbaoaaGreat

/- FnCommittedTo. -/
set_option linter.unusedSimpArgs false
set_option linter.unusedVariables false
set_option maxRecDepth 20000
set_option maxHeartbeats 4000000
namespace Go.Proofs.YthcfafpjkbbaoaaGreat
open Go Go.RowKit

end Go.Proofs.YthcfafpjkbbaoaaGreat

/- Contracts: worlds that grow. -/
set_option linter.unusedSimpArgs false
set_option linter.unusedVariables false
set_option maxRecDepth 20000
set_option maxHeartbeats 4000000
namespace Go.Proofs.YthcfafpjkbbaoaaGreat
open Go Go.RowKit

end Go.Proofs.YthcfafpjkbbaoaaGreat

/- New worlds, grown worlds: what is committed in them: plain. -/
set_option linter.unusedSimpArgs false
set_option linter.unusedVariables false
set_option maxRecDepth 20000
set_option maxHeartbeats 4000000
namespace Go.Proofs.YthcfafpjkbbaoaaGreat
open Go Go.RowKit

end Go.Proofs.YthcfafpjkbbaoaaGreat

/- Contracts: stores that are the same. -/
set_option linter.unusedSimpArgs false
set_option linter.unusedVariables false
set_option maxRecDepth 20000
set_option maxHeartbeats 4000000
namespace Go.Proofs.YthcfafpjkbbaoaaGreat
open Go Go.RowKit

theorem c_laws_sameStore (n1 n2 : Option Bool) (xs : List Entry) (hx : xs.length < 2 ^ 62) : Det Tryz.prog 50 [.sl n1 (rows encE xs), .sl n2 (rows encE xs)] (.bool true) := by
  refine fspec_det tab_ok Tryz.call50 Tryz.func50 rfl 26 Tryz.ntmps50 (of_decide_eq_true rfl) fun B => codeK_sound tab_ok _ _ _ ?_
  have hne : ((xs.length : Int) != (xs.length : Int)) = false := by simp
  simp (config := { maxSteps := 4000000 }) only [go_sem, simprocAttr, ↓dnA, Tryz.f50, rows_length, hne]
  refine semL_for tab_ok (fun i : Nat => ⟨26, [(0, .sl n1 (rows encE xs)), (1, .sl n2 (rows encE xs)), (5, .int .i64 i)], []⟩) (fun i => xs.length - i)
    (fun i => i ≤ xs.length) 0 [] (Weak.of (by rfl) ?_ ?_ (by rfl)) (by omega) ?_
  · trivial
  · simp (config := { maxSteps := 4000000 }) only [go_sem, simprocAttr, ↓dnA, Tryz.f50, rows_length, frW, wk2, wk1, wkL, wkB, hpW, List.mem_cons, Prod.mk.injEq, exists_eq_left, exists_eq_right, exists_eq]
    try rfl
  · rintro i hi
    by_cases h : i < xs.length
    · have hw : IntKind.i64.wrap ((i : Int) + 1) = ((i + 1 : Nat) : Int) := wsucc h (by omega)
      simp (config := { maxSteps := 4000000 }) only [go_sem, simprocAttr, ↓dnA, Tryz.f50, rows_length, nlt h, h, rows_get _ _ _ h, encE, nn0, hw]
      refine semL_draw tab_ok mixed_ rfl (ord := [(0, []), (1, []), (2, []), (3, []), (4, []), (5, []), (6, []), (7, []), (8, [])]) (by dsimp only; decide +kernel) ?_
      simp (config := { maxSteps := 4000000 }) only [go_sem, simprocAttr, ↓dnA, Tryz.f50, rows_length, nlt h, h, rows_get _ _ _ h, encE, nn0, hw]
      simp only [eqCellsK, BEq.rfl, Bool.and_true, Bool.not_true, Bool.false_eq_true, false_implies, true_implies, true_and, forall_const]
      refine ⟨i + 1, [], by omega, by dsimp only; omega, Weak.of (by rfl) ?_ ?_ (by rfl)⟩
      · trivial
      · simp (config := { maxSteps := 4000000 }) only [go_sem, simprocAttr, ↓dnA, Tryz.f50, rows_length, frW, wk2, wk1, wkL, wkB, hpW, List.mem_cons, Prod.mk.injEq, exists_eq_left, exists_eq_right, exists_eq]
    · have hi' : i = xs.length := by omega
      subst hi'
      simp (config := { maxSteps := 4000000 }) only [go_sem, simprocAttr, ↓dnA, Tryz.f50, rows_length, nlf h]

end Go.Proofs.YthcfafpjkbbaoaaGreat

/- Contracts: blocks that are found. -/
set_option linter.unusedSimpArgs false
set_option linter.unusedVariables false
set_option maxRecDepth 20000
set_option maxHeartbeats 4000000
namespace Go.Proofs.YthcfafpjkbbaoaaGreat
open Go Go.RowKit

end Go.Proofs.YthcfafpjkbbaoaaGreat

/- Contracts: what the laws call the same; FindBlock, BlockRight. -/
set_option linter.unusedSimpArgs false
set_option linter.unusedVariables false
set_option maxRecDepth 20000
set_option maxHeartbeats 4000000
namespace Go.Proofs.YthcfafpjkbbaoaaGreat
open Go Go.RowKit

theorem c_impl_BlockRight (n n1 : Option Bool) (b : Block) (s : List Entry) (hb : b.list.length < 2 ^ 32) (hs : s.length < 2 ^ 32) :
    Det Tryz.prog 95 [.agg (encBk n b), .sl n1 (rows encE s)] (.bool (blockRight b s)) := by
  refine fspec_det tab_ok Tryz.call95 Tryz.func95 rfl 34 Tryz.ntmps95 (of_decide_eq_true rfl) fun B => codeK_sound tab_ok _ _ _ ?_
  unfold blockRight
  simp (config := { maxSteps := 4000000 }) only [go_sem, simprocAttr, ↓dnA, Tryz.f95, rows_length, encBk]
  refine CallTo.det (c_impl_BlockValid n b (by omega)) fun _ => ?_
  cases h1 : blockValid b with
  | false => simp (config := { maxSteps := 4000000 }) only [go_sem, simprocAttr, ↓dnA, Tryz.f95, rows_length, encBk, h1]
  | true =>
    obtain ⟨b1, b2, b3⟩ := blockValid_bd h1
    have h5 : actionsValid b.list = true := by
      unfold blockValid at h1
      simp only [Bool.and_eq_true] at h1
      exact h1.2
    simp (config := { maxSteps := 4000000 }) only [go_sem, simprocAttr, ↓dnA, Tryz.f95, rows_length, encBk, h1]
    refine CallTo.det (c_impl_StoreValid n1 s (by omega)) fun _ => ?_
    cases h3 : storeValid s with
    | false => simp (config := { maxSteps := 4000000 }) only [go_sem, simprocAttr, ↓dnA, Tryz.f95, rows_length, encBk, h1, h3]
    | true =>
      obtain ⟨r1, r2, r3⟩ := runSerial_ok h3 h5
      obtain ⟨_, h10⟩ := actionsValid_ok h5
      have r4 := store_len r1
      simp (config := { maxSteps := 4000000 }) only [go_sem, simprocAttr, ↓dnA, Tryz.f95, rows_length, encBk, h1, h3]
      refine CallTo.det (c_impl_RunSerial n1 n s b.list hs hb) fun _ => ?_
      generalize runSerial s b.list = p at r1 r2 r3 r4
      obtain ⟨s', es⟩ := p
      dsimp only at r1 r2 r3 r4 ⊢
      obtain ⟨z6, h6⟩ : ∃ z, (b.root == rootOf s') = z := ⟨_, rfl⟩
      obtain ⟨z7, h7⟩ : ∃ z, (b.effects == effectsSum es) = z := ⟨_, rfl⟩
      simp (config := { maxSteps := 4000000 }) only [go_sem, simprocAttr, ↓dnA, Tryz.f95, rows_length, encBk, h1, h3]
      refine semL_draw tab_ok mixed_ rfl (ord := [(0, []), (1, []), (2, []), (3, [0, 1]), (4, []), (5, []), (6, []), (7, []), (8, []), (9, [6, 7]), (10, []), (11, []), (12, [])]) (by dsimp only; decide +kernel) ?_
      simp (config := { maxSteps := 4000000 }) only [go_sem, simprocAttr, ↓dnA, Tryz.f95, rows_length, encBk, h1, h3]
      refine CallTo.det (c_impl_RootOf none s' (by omega)) fun _ => ?_
      cases z6 with
      | false => simp (config := { maxSteps := 4000000 }) only [go_sem, simprocAttr, ↓dnA, Tryz.f95, rows_length, encBk, h1, h3, h6]
      | true =>
        simp (config := { maxSteps := 4000000 }) only [go_sem, simprocAttr, ↓dnA, Tryz.f95, rows_length, encBk, h1, h3, h6]
        refine CallTo.det (c_impl_EffectsSum none es (by omega) r3) fun _ => ?_
        simp (config := { maxSteps := 4000000 }) only [go_sem, simprocAttr, ↓dnA, Tryz.f95, rows_length, encBk, h1, h3, h6, h7]

end Go.Proofs.YthcfafpjkbbaoaaGreat

/- Contracts: worlds that are the same. -/
set_option linter.unusedSimpArgs false
set_option linter.unusedVariables false
set_option maxRecDepth 20000
set_option maxHeartbeats 4000000
namespace Go.Proofs.YthcfafpjkbbaoaaGreat
open Go Go.RowKit

end Go.Proofs.YthcfafpjkbbaoaaGreat

/- Contracts: what is committed in a world: its actions, its store. -/
set_option linter.unusedSimpArgs false
set_option linter.unusedVariables false
set_option maxRecDepth 20000
set_option maxHeartbeats 4000000
namespace Go.Proofs.YthcfafpjkbbaoaaGreat
open Go Go.RowKit

theorem actsOf_len {t : Tree} (ht : TreeOk t) : ∀ (p : List Int), (∀ x, x ∈ p → 0 ≤ x ∧ x < t.blocks.length) → (actsOf t p).length ≤ 10 * p.length
  | [], _ => by simp [actsOf]
  | x :: p, h => by
    have hx := h x (List.mem_cons_self ..)
    have ih := actsOf_len ht p fun y hy => h y (List.mem_cons_of_mem _ hy)
    have hb := tb_list (ht.valid x.toNat (by omega))
    have e : actsOf t (x :: p) = (t.blk x.toNat).list ++ actsOf t p := by simp [actsOf]
    rw [e, List.length_append, List.length_cons]
    omega
theorem worldActions_yes {w : Wld} (h : worldValid w = true) : worldActions w = actsOf w.tree (pathL w.tree (headW w)) := by unfold worldActions; rw [if_pos h]
theorem worldActions_no {w : Wld} (h : worldValid w = false) : worldActions w = [] := by unfold worldActions; rw [h]; rfl
theorem worldActions_len (w : Wld) : (worldActions w).length ≤ 140 := by
  cases h : worldValid w with
  | false => rw [worldActions_no h]; simp
  | true =>
    have hb := headW_bd h
    have ht := (worldValid_parts h).1
    have hbd := pathL_bd ht hb.2
    have hpl := pathL_len ht hb.2
    rw [worldActions_yes h]
    have := actsOf_len ht (pathL w.tree (headW w)) fun x hx => by have := hbd x hx; omega
    omega
theorem rows_app {α : Type} (e : α → List AV) (xs ys : List α) : rows e xs ++ rows e ys = rows e (xs ++ ys) := by simp [rows]

theorem c_impl_WorldActions (n1 n2 n3 n4 n5 : Option Bool) (w : Wld) (hx : WldSz w) :
    Det Tryz.prog 41 [.agg (encW n1 n2 n3 n4 n5 w)] (.osl false 4 (rows encA (worldActions w))) := by
  refine fspec_det tab_ok Tryz.call41 Tryz.func41 rfl 30 Tryz.ntmps41 (of_decide_eq_true rfl) fun B => codeK_sound tab_ok _ _ _ ?_
  simp (config := { maxSteps := 4000000 }) only [go_sem, simprocAttr, ↓dnA, Tryz.f41, rows_length, encW]
  refine CallTo.det (c_impl_WorldValid n1 n2 n3 n4 n5 w hx) fun _ => ?_
  cases h0 : worldValid w with
  | false => simp (config := { maxSteps := 4000000 }) only [go_sem, simprocAttr, ↓dnA, Tryz.f41, rows_length, encW, h0, worldActions_no h0, rows_nil]
  | true =>
    have hb := headW_bd h0
    have ht := (worldValid_parts h0).1
    have hlen := ht.len
    have hbd := pathL_bd ht hb.2
    have hpl := pathL_len ht hb.2
    rw [worldActions_yes h0]
    simp (config := { maxSteps := 4000000 }) only [go_sem, simprocAttr, ↓dnA, Tryz.f41, rows_length, encW, h0]
    refine semL_draw tab_ok mixed_ rfl (ord := [(0, []), (1, []), (2, []), (6, []), (3, [0, 1, 6]), (4, [6]), (5, [])]) (by dsimp only; decide +kernel) ?_
    simp (config := { maxSteps := 4000000 }) only [go_sem, simprocAttr, ↓dnA, Tryz.f41, rows_length, encW, h0]
    refine CallTo.det (c_impl_head n1 n2 n3 n4 n5 w hx h0) fun _ => ?_
    simp (config := { maxSteps := 4000000 }) only [go_sem, simprocAttr, ↓dnA, Tryz.f41, rows_length, encW, h0]
    refine CallTo.det (c_impl_path n1 n2 n3 w.tree (headW w) ht hx.tree hb.2) fun _ => ?_
    have hbd' : ∀ x, x ∈ pathL w.tree (headW w) → 0 ≤ x ∧ x < w.tree.blocks.length := fun x h => by have := hbd x h; omega
    generalize pathL w.tree (headW w) = p at hbd' hpl
    simp (config := { maxSteps := 4000000 }) only [go_sem, simprocAttr, ↓dnA, Tryz.f41, rows_length, encW, h0]
    refine semL_nilA 3 3 4 true (by rfl) (by rfl) (by decide) (by decide) ?_
    refine semL_for tab_ok (fun i : Nat => ⟨30, [(1, .loc 1 0), (3, .row 3 (actsOf w.tree (p.take i)).length), (13, .row 14000 p.length), (14, .int .i64 p.length), (15, .int .i64 i)],
        [(1, .var (encW n1 n2 n3 n4 n5 w)), (3, .row true false 4 (rows encA (actsOf w.tree (p.take i)))), (14000, .row true false 1 (rows encI p))]⟩) (fun i => p.length - i)
      (fun i => i ≤ p.length) 0 [(1, 1), (3, 3), (14000, 14000)] (Weak.of (by rfl) ?_ ?_ (by rfl)) (by omega) ?_
    · simp (config := { maxSteps := 4000000 }) only [go_sem, simprocAttr, ↓dnA, Tryz.f41, rows_length, encW, frW, wk2, wk1, wkL, wkB, hpW, List.mem_cons, Prod.mk.injEq, exists_eq_left, exists_eq_right, exists_eq]
      try rfl
    · simp (config := { maxSteps := 4000000 }) only [go_sem, simprocAttr, ↓dnA, Tryz.f41, rows_length, encW, frW, wk2, wk1, wkL, wkB, hpW, List.mem_cons, Prod.mk.injEq, exists_eq_left, exists_eq_right, exists_eq]
      try rfl
    · rintro i hi
      have hal := actsOf_len ht (p.take i) fun x hx => hbd' x (List.mem_of_mem_take hx)
      rw [List.length_take] at hal
      by_cases h : i < p.length
      · have hw : IntKind.i64.wrap ((i : Int) + 1) = ((i + 1 : Nat) : Int) := wsucc h (by omega)
        have hst := actsOf_take w.tree p i h
        have hbx := hbd' _ (List.getElem_mem h)
        obtain ⟨k, hk⟩ : ∃ k : Nat, p[i] = (k : Int) := ⟨p[i].toNat, by omega⟩
        have hkl : k < w.tree.blocks.length := by omega
        have g1 : (rows encB1 w.tree.blocks).getD k [] = encB1 (w.tree.blk k) := rows_gd encB1 w.tree.blocks k hkl
        have hb10 := tb_list (ht.valid k hkl)
        rw [hk, Int.toNat_natCast] at hst
        generalize actsOf w.tree (p.take i) = acc at hal hst
        have htk := take_rows encA acc acc.length rfl
        have a1 := all_rows encA AV.flat (fun _ => rfl) (w.tree.blk k).list
        have a2 := all_rows encA AV.one (fun _ => rfl) (w.tree.blk k).list
        have a3 := sz0_rows encA 4 (fun _ => rfl) (w.tree.blk k).list
        simp (config := { maxSteps := 4000000 }) only [go_sem, simprocAttr, ↓dnA, Tryz.f41, rows_length, encW, h0, nlt h, h, nn0, rows_get _ _ _ h, encI, hk, nlt hkl, hkl, g1, encB1, encBk, htk, hw]
        repeat refine And.intro (by first | omega | (simp; done) | (simp; omega) | assumption) ?_
        refine ⟨i + 1, [(1, 1), (27, 3), (14000, 14000)], by omega, by dsimp only; omega, Weak.of (by rfl) ?_ ?_ (by rfl)⟩
        · simp (config := { maxSteps := 4000000 }) only [go_sem, simprocAttr, ↓dnA, Tryz.f41, rows_length, encW, hst, frW, wk2, wk1, wkL, wkB, hpW, List.mem_cons, Prod.mk.injEq, exists_eq_left, exists_eq_right, exists_eq]
          exact (rows_app _ _ _).symm
        · simp (config := { maxSteps := 4000000 }) only [go_sem, simprocAttr, ↓dnA, Tryz.f41, rows_length, encW, hst, List.length_append, frW, wk2, wk1, wkL, wkB, hpW, List.mem_cons, Prod.mk.injEq, exists_eq_left, exists_eq_right, exists_eq]
      · have hi' : i = p.length := by omega
        subst hi'
        simp (config := { maxSteps := 4000000 }) only [go_sem, simprocAttr, ↓dnA, Tryz.f41, rows_length, encW, nlf h, List.take_length]

theorem c_spec_WorldActions (n1 n2 n3 n4 n5 : Option Bool) (w : Wld) (hx : WldSz w) :
    Det Tryz.prog 42 [.agg (encW n1 n2 n3 n4 n5 w)] (.osl true 4 (rows encA (worldActions w))) := by
  refine fspec_det tab_ok Tryz.call42 Tryz.func42 rfl 35 Tryz.ntmps42 (of_decide_eq_true rfl) fun B => codeK_sound tab_ok _ _ _ ?_
  simp (config := { maxSteps := 4000000 }) only [go_sem, simprocAttr, ↓dnA, Tryz.f42, rows_length, encW]
  refine CallTo.det (c_spec_WorldValid n1 n2 n3 n4 n5 w hx) fun _ => ?_
  cases h0 : worldValid w with
  | false => simp (config := { maxSteps := 4000000 }) only [go_sem, simprocAttr, ↓dnA, Tryz.f42, rows_length, encW, h0, worldActions_no h0, rows_nil]
  | true =>
    have hb := headW_bd h0
    have ht := (worldValid_parts h0).1
    have hlen := ht.len
    have hbd := pathL_bd ht hb.2
    have hpl := pathL_len ht hb.2
    rw [worldActions_yes h0]
    simp (config := { maxSteps := 4000000 }) only [go_sem, simprocAttr, ↓dnA, Tryz.f42, rows_length, encW, h0]
    refine semL_draw tab_ok mixed_ rfl (ord := [(0, []), (1, []), (2, []), (3, [0, 1]), (4, []), (5, [])]) (by dsimp only; decide +kernel) ?_
    simp (config := { maxSteps := 4000000 }) only [go_sem, simprocAttr, ↓dnA, Tryz.f42, rows_length, encW, h0]
    refine CallTo.det (c_spec_WorldHead n1 n2 n3 n4 n5 w hx) fun _ => ?_
    rw [worldHead_yes h0]
    simp (config := { maxSteps := 4000000 }) only [go_sem, simprocAttr, ↓dnA, Tryz.f42, rows_length, encW, h0]
    refine CallTo.det (c_spec_PathTo n1 n2 n3 w.tree (headW w) hx.tree) fun _ => ?_
    rw [pathTo_in (treeValid_true ht) hb.1 hb.2]
    have hbd' : ∀ x, x ∈ pathL w.tree (headW w) → 0 ≤ x ∧ x < w.tree.blocks.length := fun x h => by have := hbd x h; omega
    generalize pathL w.tree (headW w) = p at hbd' hpl
    simp (config := { maxSteps := 4000000 }) only [go_sem, simprocAttr, ↓dnA, Tryz.f42, rows_length, encW, h0]
    refine semL_for tab_ok (fun i : Nat => ⟨35, [(1, .loc 1 0), (3, .row 600 (actsOf w.tree (p.take i)).length), (4, .row 16000 p.length), (5, .int .i64 i)],
        [(1, .var (encW n1 n2 n3 n4 n5 w)), (600, .row true true 4 (rows encA (actsOf w.tree (p.take i)))), (16000, .row true true 1 (rows encI p))]⟩) (fun i => p.length - i)
      (fun i => i ≤ p.length) 0 [(1, 1), (6, 600), (16000, 16000)] (Weak.of (by rfl) ?_ ?_ (by rfl)) (by omega) ?_
    · simp (config := { maxSteps := 4000000 }) only [go_sem, simprocAttr, ↓dnA, Tryz.f42, rows_length, encW, frW, wk2, wk1, wkL, wkB, hpW, List.mem_cons, Prod.mk.injEq, exists_eq_left, exists_eq_right, exists_eq]
      try rfl
    · simp (config := { maxSteps := 4000000 }) only [go_sem, simprocAttr, ↓dnA, Tryz.f42, rows_length, encW, frW, wk2, wk1, wkL, wkB, hpW, List.mem_cons, Prod.mk.injEq, exists_eq_left, exists_eq_right, exists_eq]
      try rfl
    · rintro i hi
      have hal := actsOf_len ht (p.take i) fun x hx => hbd' x (List.mem_of_mem_take hx)
      rw [List.length_take] at hal
      by_cases h : i < p.length
      · have hw : IntKind.i64.wrap ((i : Int) + 1) = ((i + 1 : Nat) : Int) := wsucc h (by omega)
        have hst := actsOf_take w.tree p i h
        have hbx := hbd' _ (List.getElem_mem h)
        obtain ⟨k, hk⟩ : ∃ k : Nat, p[i] = (k : Int) := ⟨p[i].toNat, by omega⟩
        have hkl : k < w.tree.blocks.length := by omega
        have g1 : (rows encB1 w.tree.blocks).getD k [] = encB1 (w.tree.blk k) := rows_gd encB1 w.tree.blocks k hkl
        have hb10 := tb_list (ht.valid k hkl)
        rw [hk, Int.toNat_natCast] at hst
        generalize actsOf w.tree (p.take i) = acc at hal hst
        have htk := take_rows encA acc acc.length rfl
        have a1 := all_rows encA AV.flat (fun _ => rfl) (w.tree.blk k).list
        have a2 := all_rows encA AV.one (fun _ => rfl) (w.tree.blk k).list
        have a3 := sz0_rows encA 4 (fun _ => rfl) (w.tree.blk k).list
        simp (config := { maxSteps := 4000000 }) only [go_sem, simprocAttr, ↓dnA, Tryz.f42, rows_length, encW, h0, nlt h, h, nn0]
        refine semL_drawL tab_ok 12 mixed_ rfl (ord := [(0, []), (1, []), (2, []), (3, []), (4, []), (5, []), (6, []), (7, []), (8, []), (9, []), (10, []), (11, [])]) (by dsimp only; decide +kernel) ?_
        simp (config := { maxSteps := 4000000 }) only [go_sem, simprocAttr, ↓dnA, Tryz.f42, rows_length, encW, h0, nlt h, h, nn0, rows_get _ _ _ h, encI, hk, nlt hkl, hkl, g1, encB1, encBk, htk, hw]
        repeat refine And.intro (by first | omega | (simp; done) | (simp; omega) | assumption) ?_
        refine ⟨i + 1, [(1, 1), (33, 600), (16000, 16000)], by omega, by dsimp only; omega, Weak.of (by rfl) ?_ ?_ (by rfl)⟩
        · simp (config := { maxSteps := 4000000 }) only [go_sem, simprocAttr, ↓dnA, Tryz.f42, rows_length, encW, hst, frW, wk2, wk1, wkL, wkB, hpW, List.mem_cons, Prod.mk.injEq, exists_eq_left, exists_eq_right, exists_eq]
          exact (rows_app _ _ _).symm
        · simp (config := { maxSteps := 4000000 }) only [go_sem, simprocAttr, ↓dnA, Tryz.f42, rows_length, encW, hst, List.length_append, frW, wk2, wk1, wkL, wkB, hpW, List.mem_cons, Prod.mk.injEq, exists_eq_left, exists_eq_right, exists_eq]
      · have hi' : i = p.length := by omega
        subst hi'
        simp (config := { maxSteps := 4000000 }) only [go_sem, simprocAttr, ↓dnA, Tryz.f42, rows_length, encW, nlf h, List.take_length]

end Go.Proofs.YthcfafpjkbbaoaaGreat

/- Contracts: the store that is committed in a world. -/
set_option linter.unusedSimpArgs false
set_option linter.unusedVariables false
set_option maxRecDepth 20000
set_option maxHeartbeats 4000000
namespace Go.Proofs.YthcfafpjkbbaoaaGreat
open Go Go.RowKit

noncomputable def worldStore (w : Wld) : List Entry := if worldValid w then storeOf w.tree (headW w) else []
theorem worldStore_yes {w : Wld} (h : worldValid w = true) : worldStore w = storeOf w.tree (headW w) := by unfold worldStore; rw [if_pos h]
theorem worldStore_no {w : Wld} (h : worldValid w = false) : worldStore w = [] := by unfold worldStore; rw [h]; rfl
theorem storeOf_len (t : Tree) (n : Int) : (storeOf t n).length ≤ 32 := by
  unfold storeOf
  split
  · rename_i h
    rw [Bool.and_eq_true] at h
    have hn := inB_iff.1 h.2
    exact store_len (storeL_valid (afterV_ok (treeOk_of h.1) (n := n) (by omega)))
  · simp
theorem worldStore_len (w : Wld) : (worldStore w).length ≤ 32 := by
  cases h : worldValid w with
  | false => rw [worldStore_no h]; simp
  | true => rw [worldStore_yes h]; exact storeOf_len _ _

theorem c_impl_WorldStore (n1 n2 n3 n4 n5 : Option Bool) (w : Wld) (hx : WldSz w) :
    Det Tryz.prog 49 [.agg (encW n1 n2 n3 n4 n5 w)] (.osl false 2 (rows encE (worldStore w))) := by
  refine fspec_det tab_ok Tryz.call49 Tryz.func49 rfl 11 Tryz.ntmps49 (of_decide_eq_true rfl) fun B => codeK_sound tab_ok _ _ _ ?_
  simp (config := { maxSteps := 4000000 }) only [go_sem, simprocAttr, ↓dnA, Tryz.f49, rows_length, encW]
  refine CallTo.det (c_impl_WorldValid n1 n2 n3 n4 n5 w hx) fun _ => ?_
  cases h0 : worldValid w with
  | false => simp (config := { maxSteps := 4000000 }) only [go_sem, simprocAttr, ↓dnA, Tryz.f49, rows_length, encW, h0, worldStore_no h0, rows_nil]
  | true =>
    rw [worldStore_yes h0]
    simp (config := { maxSteps := 4000000 }) only [go_sem, simprocAttr, ↓dnA, Tryz.f49, rows_length, encW, h0]
    refine semL_draw tab_ok mixed_ rfl (ord := [(0, []), (1, []), (2, []), (3, [0, 1]), (4, []), (5, [])]) (by dsimp only; decide +kernel) ?_
    simp (config := { maxSteps := 4000000 }) only [go_sem, simprocAttr, ↓dnA, Tryz.f49, rows_length, encW, h0]
    refine CallTo.det (c_impl_head n1 n2 n3 n4 n5 w hx h0) fun _ => ?_
    simp (config := { maxSteps := 4000000 }) only [go_sem, simprocAttr, ↓dnA, Tryz.f49, rows_length, encW, h0]
    refine CallTo.det (c_impl_StoreOf n1 n2 n3 w.tree (headW w) hx.tree) fun _ => ?_
    simp (config := { maxSteps := 4000000 }) only [go_sem, simprocAttr, ↓dnA, Tryz.f49, rows_length, encW, h0]

theorem c_spec_WorldStore (n1 n2 n3 n4 n5 : Option Bool) (w : Wld) (hx : WldSz w) :
    Det Tryz.prog 51 [.agg (encW n1 n2 n3 n4 n5 w)] (.osl false 2 (rows encE (worldStore w))) := by
  refine fspec_det tab_ok Tryz.call51 Tryz.func51 rfl 12 Tryz.ntmps51 (of_decide_eq_true rfl) fun B => codeK_sound tab_ok _ _ _ ?_
  simp (config := { maxSteps := 4000000 }) only [go_sem, simprocAttr, ↓dnA, Tryz.f51, rows_length, encW]
  refine CallTo.det (c_spec_WorldValid n1 n2 n3 n4 n5 w hx) fun _ => ?_
  cases h0 : worldValid w with
  | false => simp (config := { maxSteps := 4000000 }) only [go_sem, simprocAttr, ↓dnA, Tryz.f51, rows_length, encW, h0, worldStore_no h0, rows_nil]
  | true =>
    rw [worldStore_yes h0]
    simp (config := { maxSteps := 4000000 }) only [go_sem, simprocAttr, ↓dnA, Tryz.f51, rows_length, encW, h0]
    refine semL_draw tab_ok mixed_ rfl (ord := [(0, []), (1, []), (2, []), (3, [0, 1]), (4, []), (5, [])]) (by dsimp only; decide +kernel) ?_
    simp (config := { maxSteps := 4000000 }) only [go_sem, simprocAttr, ↓dnA, Tryz.f51, rows_length, encW, h0]
    refine CallTo.det (c_spec_WorldHead n1 n2 n3 n4 n5 w hx) fun _ => ?_
    rw [worldHead_yes h0]
    simp (config := { maxSteps := 4000000 }) only [go_sem, simprocAttr, ↓dnA, Tryz.f51, rows_length, encW, h0]
    refine CallTo.det (c_spec_StoreOf n1 n2 n3 w.tree (headW w) (worldOk_s32 h0).tree) fun _ => ?_
    simp (config := { maxSteps := 4000000 }) only [go_sem, simprocAttr, ↓dnA, Tryz.f51, rows_length, encW, h0]

end Go.Proofs.YthcfafpjkbbaoaaGreat

/- Blocks that are right over their stores; the store behind a way: plain. -/
set_option linter.unusedSimpArgs false
set_option linter.unusedVariables false
set_option maxRecDepth 20000
set_option maxHeartbeats 4000000
namespace Go.Proofs.YthcfafpjkbbaoaaGreat
open Go Go.RowKit

/-- The values ahead of a block. -/
def aheadV (t : Tree) (k : Nat) : List Int := if k = 0 then valuesL t.base else afterV t (t.bef k)
def rightStep (t : Tree) (l : List Bool) (k : Nat) : List Bool := l ++ [blockRight (t.blk k) (storeL (aheadV t k)) && (k == 0 || l.getD (t.bef k).toNat false)]
/-- Which of the first k blocks are right, with all before them. -/
def rightsTo (t : Tree) : Nat → List Bool
  | 0 => []
  | k + 1 => rightStep t (rightsTo t k) k
noncomputable def rights (t : Tree) : List Bool := if treeValid t then rightsTo t t.blocks.length else []

theorem rightsTo_len (t : Tree) : ∀ k, (rightsTo t k).length = k
  | 0 => rfl
  | k + 1 => by unfold rightsTo rightStep; rw [List.length_append, rightsTo_len t k]; rfl
theorem rightsTo_le (t : Tree) (k : Nat) : ∀ (m i : Nat), i < k → (rightsTo t (k + m)).getD i false = (rightsTo t k).getD i false
  | 0, i, _ => rfl
  | m + 1, i, hi => by
    show (rightStep t (rightsTo t (k + m)) (k + m)).getD i false = _
    unfold rightStep
    rw [List.getD_eq_getElem?_getD, List.getElem?_append_left (by rw [rightsTo_len]; omega), ← List.getD_eq_getElem?_getD]
    exact rightsTo_le t k m i hi
theorem rightsTo_at (t : Tree) {k n : Nat} (h : k < n) : (rightsTo t n).getD k false = (blockRight (t.blk k) (storeL (aheadV t k)) && (k == 0 || (rightsTo t k).getD (t.bef k).toNat false)) := by
  have e : n = (k + 1) + (n - (k + 1)) := by omega
  rw [e, rightsTo_le t (k + 1) _ k (by omega)]
  show (rightStep t (rightsTo t k) k).getD k false = _
  unfold rightStep
  rw [List.getD_eq_getElem?_getD, List.getElem?_append_right (by rw [rightsTo_len]; omega), rightsTo_len, Nat.sub_self]
  rfl

/-! The store behind a block. -/
theorem pathL_zero {t : Tree} (ht : TreeOk t) : pathL t 0 = [0] := by
  obtain ⟨h1, _, _⟩ := back_cons ht 0 (by have := ht.len; omega)
  unfold pathL
  rw [show (0 : Int) = ((0 : Nat) : Int) from rfl, h1, ht.bef0, back_neg _ _ (by omega)]
  rfl
theorem pathL_step {t : Tree} (ht : TreeOk t) {k : Nat} (hk : k < t.blocks.length) : pathL t (k : Int) = pathL t (t.bef k) ++ [(k : Int)] := by
  obtain ⟨h1, _, _⟩ := back_cons ht k hk
  unfold pathL
  rw [h1, List.reverse_cons]
theorem afterV_zero {t : Tree} (ht : TreeOk t) : afterV t 0 = valuesL t.base := by
  unfold afterV
  rw [pathL_zero ht]
  show (runAllE (valuesL t.base) (t.blk 0).list).1 = _
  rw [ht.first, firstBlock_list]
  rfl
theorem afterV_step {t : Tree} (ht : TreeOk t) {k : Nat} (hk : k < t.blocks.length) : afterV t (k : Int) = (runAllE (aheadV t k) (t.blk k).list).1 := by
  unfold aheadV
  by_cases h0 : k = 0
  · subst h0
    rw [if_pos rfl, show ((0 : Nat) : Int) = 0 from rfl, afterV_zero ht, ht.first, firstBlock_list]
    rfl
  · rw [if_neg h0]
    unfold afterV
    rw [pathL_step ht hk, wayV_append]
    rfl
theorem aheadV_ok {t : Tree} (ht : TreeOk t) {k : Nat} (hk : k < t.blocks.length) : ValsOk (aheadV t k) := by
  unfold aheadV
  split
  · exact valuesL_ok ht.store
  · rename_i h0
    have := (ht.link k (by omega) hk).hi
    exact afterV_ok ht (by omega)
theorem storeOf_in {t : Tree} (ht : TreeOk t) {k : Nat} (hk : k < t.blocks.length) : storeOf t (k : Int) = storeL (afterV t (k : Int)) := by
  unfold storeOf
  rw [treeValid_true ht, inB_iff.2 (by omega)]
  rfl
/-- The store behind a block is that of the serial run of its actions. -/
theorem storeOf_step {t : Tree} (ht : TreeOk t) {k : Nat} (hk : k < t.blocks.length) : storeOf t (k : Int) = (runSerial (storeL (aheadV t k)) (t.blk k).list).1 := by
  have hv := aheadV_ok ht hk
  have ha := (blk_acts ht hk).2.2
  rw [storeOf_in ht hk, afterV_step ht hk]
  unfold runSerial
  rw [storeL_valid hv, ha, values_storeL hv]
  rfl
/-- A right block has the root of the store behind it. -/
theorem right_root {t : Tree} (ht : TreeOk t) {k : Nat} (hk : k < t.blocks.length) (h : (rightsTo t t.blocks.length).getD k false = true) : rootOf (storeOf t (k : Int)) = (t.blk k).root := by
  rw [rightsTo_at t hk, Bool.and_eq_true] at h
  have hr := h.1
  unfold blockRight at hr
  simp only [Bool.and_eq_true, beq_iff_eq] at hr
  rw [storeOf_step ht hk]
  exact hr.1.2.symm

/-! A tree with a further block. -/
/-! All actions on a way, one after the other. -/
theorem foldR_fst : ∀ (l : List Action) (v : List Int) (e : List Effect), (l.foldl stepR (v, e)).1 = (l.foldl stepR (v, [])).1
  | [], v, e => rfl
  | x :: r, v, e => by
    show (r.foldl stepR (stepR (v, e) x)).1 = (r.foldl stepR (stepR (v, []) x)).1
    rw [show stepR (v, e) x = ((stepR (v, e) x).1, (stepR (v, e) x).2) from rfl, show stepR (v, []) x = ((stepR (v, []) x).1, (stepR (v, []) x).2) from rfl, foldR_fst r, foldR_fst r (stepR (v, []) x).1]
    rfl
theorem runAllE_append (v : List Int) (a b : List Action) : (runAllE v (a ++ b)).1 = (runAllE (runAllE v a).1 b).1 := by
  unfold runAllE
  rw [List.foldl_append]
  exact foldR_fst b _ _
theorem wayV_acts (t : Tree) : ∀ (p : List Int) (v : List Int), wayV t v p = (runAllE v (actsOf t p)).1
  | [], v => rfl
  | x :: r, v => by
    show wayV t (runAllE v (t.blk x.toNat).list).1 r = (runAllE v ((t.blk x.toNat).list ++ actsOf t r)).1
    rw [runAllE_append, wayV_acts t r]

end Go.Proofs.YthcfafpjkbbaoaaGreat

/- Votes and runs of votes: plain. -/
set_option linter.unusedSimpArgs false
set_option linter.unusedVariables false
set_option maxRecDepth 20000
set_option maxHeartbeats 4000000
namespace Go.Proofs.YthcfafpjkbbaoaaGreat
open Go Go.RowKit

theorem ScOk.take {sc : List Int} (h : ScOk sc) (k : Nat) : ScOk (sc.take k) := by
  refine ⟨by rw [List.length_take]; have := h.1; omega, List.all_eq_true.2 fun x hx => ?_⟩
  exact List.all_eq_true.1 h.2 x (List.mem_of_mem_take hx)
theorem ScOk.drop {sc : List Int} (h : ScOk sc) (k : Nat) : ScOk (sc.drop k) := by
  refine ⟨by rw [List.length_drop]; have := h.1; omega, List.all_eq_true.2 fun x hx => ?_⟩
  exact List.all_eq_true.1 h.2 x (List.mem_of_mem_drop hx)

end Go.Proofs.YthcfafpjkbbaoaaGreat

