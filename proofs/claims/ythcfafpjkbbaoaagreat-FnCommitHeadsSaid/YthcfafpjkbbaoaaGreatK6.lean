/- Shared texts K (part 6): W71, W60, W61, W62, W102, W106, W107, W116, W117, W69, W111, W115, W27, W30, W31, W67, W70, W74, W77, W78, W79, W113, W72, W80, W73, W98, W65, W105, W110, W125, W76, W121, W129, W120, W104, W128, W75, W101 -/
import Derived.Test.YthcfafpjkbbaoaaGreatK5

set_option linter.unusedSimpArgs false
set_option linter.unusedVariables false

/- Contracts: the reference's copies of trees, putting blocks. -/
set_option linter.unusedSimpArgs false
set_option linter.unusedVariables false
set_option maxRecDepth 20000
set_option maxHeartbeats 4000000
namespace Go.Proofs.YthcfafpjkbbaoaaGreat
open Go Go.RowKit

theorem putT_tsz (t : Tree) (b : Block) : tsz (putT t b) = tsz t + b.list.length + 2 := by
  unfold tsz putT
  simp only [lsum_snoc, List.length_append, List.length_singleton]
  omega
theorem putBlock_tsz (t : Tree) (b : Block) : tsz (putBlock t b).1 ≤ tsz t + b.list.length + 2 := by
  unfold putBlock
  split
  · split
    · exact Nat.le_of_eq (putT_tsz t b)
    · show tsz t ≤ _; omega
  · show tsz ⟨[], [], []⟩ ≤ _; simp [tsz, lsum]

theorem growTree_tsz (t : Tree) (n v : Int) (l : List Action) : tsz (growTree t n v l).1 ≤ tsz t + l.length + 2 := by
  unfold growTree
  split
  · split
    · split
      · have := putBlock_tsz t (nextBlock (t.blk n.toNat) (storeOf t n) v l).1
        have := nextBlock_len (t.blk n.toNat) (storeOf t n) v l
        omega
      · show tsz t ≤ _; omega
    · show tsz t ≤ _; omega
  · show tsz ⟨[], [], []⟩ ≤ _; simp [tsz, lsum]

theorem putBlock_ok {t : Tree} (ht : TreeOk t) (b : Block) : TreeOk (putBlock t b).1 := by
  unfold putBlock
  rw [if_pos (treeValid_true ht)]
  split
  · rename_i h; exact treeOk_of h
  · exact ht

theorem growTree_ok {t : Tree} (ht : TreeOk t) (n v : Int) (l : List Action) : TreeOk (growTree t n v l).1 := by
  unfold growTree
  rw [if_pos (treeValid_true ht)]
  split
  · split
    · exact putBlock_ok ht _
    · exact ht
  · exact ht

theorem c_spec_PutBlock (n1 n2 n3 n : Option Bool) (t : Tree) (b : Block) (hx : TreeS32 t) (hb : b.list.length < 2 ^ 32) :
    Det Tryz.prog 93 [.agg (encT n1 n2 n3 t), .agg (encBk n b)] (.tup [.agg (encTF (putBlock t b).1), .bool (putBlock t b).2]) := by
  refine fspec_det tab_ok Tryz.call93 Tryz.func93 rfl 39 Tryz.ntmps93 (of_decide_eq_true rfl) fun B => codeK_sound tab_ok _ _ _ ?_
  unfold putBlock
  simp (config := { maxSteps := 4000000 }) only [go_sem, simprocAttr, ↓dnA, Tryz.f93, rows_length, encT, encBk]
  refine CallTo.det (c_spec_BlockTreeValid n1 n2 n3 t hx.sz) fun _ => ?_
  cases h1 : treeValid t with
  | false => simp (config := { maxSteps := 4000000 }) only [go_sem, simprocAttr, ↓dnA, Tryz.f93, rows_length, encT, encTF, h1, rows_nil]
  | true =>
    have ht := treeOk_of h1
    have hlen := ht.len
    have hbl := ht.bef
    have c1 := all_rows encA AV.flat (fun _ => rfl) b.list
    have c2 := all_rows encA AV.one (fun _ => rfl) b.list
    have c3 := sz0_rows encA 4 (fun _ => rfl) b.list
    simp (config := { maxSteps := 4000000 }) only [go_sem, simprocAttr, ↓dnA, Tryz.f93, rows_length, encT, encBk, h1]
    refine CallTo.det (c_spec_l13Copy n1 n2 n3 t hx) fun _ => ?_
    have tk1 : (rows encB1 t.blocks).take t.blocks.length = rows encB1 t.blocks := by rw [List.take_of_length_le]; rw [rows_length]; omega
    have tk2 : (rows encI t.before).take t.before.length = rows encI t.before := by rw [List.take_of_length_le]; rw [rows_length]; omega
    simp (config := { maxSteps := 4000000 }) only [go_sem, simprocAttr, ↓dnA, Tryz.f93, rows_length, encT, encTF, encBk, h1, tk1]
    repeat refine And.intro (by first | omega | (simp; done) | (simp; omega) | assumption) ?_
    refine semL_draw tab_ok mixed_ rfl (ord := [(0, []), (1, []), (2, []), (3, []), (4, []), (5, [0, 1]), (6, [0, 1]), (7, []), (8, []), (9, [])]) (by dsimp only; decide +kernel) ?_
    simp (config := { maxSteps := 4000000 }) only [go_sem, simprocAttr, ↓dnA, Tryz.f93, rows_length, encT, encTF, encBk, h1]
    refine CallTo.det (c_spec_find n1 n2 n3 t b.before hx.sz) fun _ => ?_
    have e1 : rows encB1 t.blocks ++ [[AV.int IntKind.i64 b.before, AV.int IntKind.i64 b.height, AV.int IntKind.i64 b.view, AV.sl none (rows encA b.list), AV.int IntKind.i64 b.root, AV.int IntKind.i64 b.effects]] = rows encB1 (t.blocks ++ [b]) := by
      rw [← rows_snoc]; rfl
    have e2 : rows encI t.before ++ [[AV.int IntKind.i64 (findB t.blocks b.before)]] = rows encI (t.before ++ [findB t.blocks b.before]) := by
      rw [← rows_snoc]; rfl
    have l1 : (t.blocks ++ [b]).length = t.blocks.length + 1 := by simp
    have l2 : (t.before ++ [findB t.blocks b.before]).length = t.before.length + 1 := by simp
    have hu : TreeSz (putT t b) := ⟨hx.sz.base, by show (t.blocks ++ [b]).length < _; rw [l1]; omega, by show (t.before ++ [findB t.blocks b.before]).length < _; rw [l2]; omega, fun c hc => by
      rcases List.mem_append.1 hc with e | e
      · exact hx.sz.list c e
      · rw [List.mem_singleton.1 e]; omega⟩
    have hv := c_spec_BlockTreeValid none (some true) (some true) (putT t b) hu
    have hf : encTF (putT t b) = [.osl false 2 (rows encE t.base), .osl false 6 (rows encB1 (t.blocks ++ [b])), .osl false 1 (rows encI (t.before ++ [findB t.blocks b.before]))] := rfl
    simp (config := { maxSteps := 4000000 }) only [go_sem, simprocAttr, ↓dnA, Tryz.f93, rows_length, encT, encTF, encBk, h1, tk2, e1, e2, l1, l2]
    repeat refine And.intro (by first | omega | (simp; done) | (simp; omega) | assumption) ?_
    refine CallTo.det hv fun _ => ?_
    cases h2 : treeValid (putT t b) with
    | false =>
      simp (config := { maxSteps := 4000000 }) only [go_sem, simprocAttr, ↓dnA, Tryz.f93, rows_length, encT, encBk, h1, h2]
      refine CallTo.det (c_spec_l13Copy n1 n2 n3 t hx) fun _ => ?_
      simp (config := { maxSteps := 4000000 }) only [go_sem, simprocAttr, ↓dnA, Tryz.f93, rows_length, encT, encTF, h1, h2]
    | true =>
      simp (config := { maxSteps := 4000000 }) only [go_sem, simprocAttr, ↓dnA, Tryz.f93, rows_length, encT, encBk, h1, h2, hf, tk2, e1, e2, l1, l2]

theorem c_spec_GrowTree (n1 n2 n3 n0 : Option Bool) (t : Tree) (n v : Int) (l : List Action) (hx : TreeS32 t) (hl : l.length < 2 ^ 32) :
    Det Tryz.prog 30 [.agg (encT n1 n2 n3 t), .int .i64 n, .int .i64 v, .sl n0 (rows encA l)] (.tup [.agg (encTF (growTree t n v l).1), .bool (growTree t n v l).2]) := by
  refine fspec_det tab_ok Tryz.call30 Tryz.func30 rfl 48 Tryz.ntmps30 (of_decide_eq_true rfl) fun B => codeK_sound tab_ok _ _ _ ?_
  unfold growTree
  simp (config := { maxSteps := 4000000 }) only [go_sem, simprocAttr, ↓dnA, Tryz.f30, rows_length, encT]
  refine CallTo.det (c_spec_BlockTreeValid n1 n2 n3 t hx.sz) fun _ => ?_
  cases h1 : treeValid t with
  | false => simp (config := { maxSteps := 4000000 }) only [go_sem, simprocAttr, ↓dnA, Tryz.f30, rows_length, encT, encTF, h1, rows_nil]
  | true =>
    have ht := treeOk_of h1
    have hlen := ht.len
    have hw : IntKind.i64.wrap ((t.blocks.length : Int) - 1) = (t.blocks.length : Int) - 1 := wrap_small _ (by omega) (by omega)
    simp (config := { maxSteps := 4000000 }) only [go_sem, simprocAttr, ↓dnA, Tryz.f30, rows_length, encT, h1, hw]
    refine CallTo.det (c_l1In _ _ _) fun _ => ?_
    cases h2 : inB n 0 ((t.blocks.length : Int) - 1) with
    | false =>
      simp (config := { maxSteps := 4000000 }) only [go_sem, simprocAttr, ↓dnA, Tryz.f30, rows_length, encT, h1, h2, hw]
      refine CallTo.det (c_spec_l13Copy n1 n2 n3 t hx) fun _ => ?_
      simp (config := { maxSteps := 4000000 }) only [go_sem, simprocAttr, ↓dnA, Tryz.f30, rows_length, encT, encTF, h1, h2, hw]
    | true =>
      have hb := inB_iff.1 h2
      obtain ⟨k, hk⟩ : ∃ k : Nat, n = (k : Int) := ⟨n.toNat, by omega⟩
      subst hk
      have hkl : k < t.blocks.length := by omega
      have hbk := t.blk_get k hkl
      have hbl := hx.list _ (List.getElem_mem hkl)
      rw [hbk] at hbl
      have hso : (storeOf t (k : Int)).length ≤ 32 := by
        have := store_len (storeL_valid (afterV_ok ht (n := (k : Int)) (by omega)))
        unfold storeOf
        rw [h1, h2]
        exact this
      rw [Int.toNat_natCast]
      simp (config := { maxSteps := 4000000 }) only [go_sem, simprocAttr, ↓dnA, Tryz.f30, rows_length, encT, h1, h2, hw]
      refine semL_draw tab_ok mixed_ rfl (ord := [(0, []), (1, []), (2, []), (3, []), (4, []), (5, []), (6, []), (8, []), (9, []), (7, [0, 1, 2, 3, 4, 8, 9]), (10, []), (11, []), (12, []), (13, []), (14, [0, 1, 2, 3, 4, 5, 6, 8, 9, 11, 12, 13]), (15, [13]), (16, [])]) (by dsimp only; decide +kernel) ?_
      simp (config := { maxSteps := 4000000 }) only [go_sem, simprocAttr, ↓dnA, Tryz.f30, rows_length, encT, h1, h2, hw, nlt hkl, hkl, rows_get _ _ _ hkl, hbk, encB1, encBk, nn0]
      refine CallTo.det (c_spec_StoreOf n1 n2 n3 t k hx) fun _ => ?_
      simp (config := { maxSteps := 4000000 }) only [go_sem, simprocAttr, ↓dnA, Tryz.f30, rows_length, encT, h1, h2, hw, nlt hkl, hkl, rows_get _ _ _ hkl, hbk, encB1, encBk, nn0]
      have hpl := nextBlock_len (t.blk k) (storeOf t k) v l
      refine CallTo.det (c_spec_NextBlock none none n0 (t.blk k) (storeOf t k) v l hbl (by omega) hl) fun _ => ?_
      generalize nextBlock (t.blk k) (storeOf t k) v l = p at hpl
      obtain ⟨nb, ok⟩ := p
      dsimp only at hpl ⊢
      cases ok with
      | false =>
        simp (config := { maxSteps := 4000000 }) only [go_sem, simprocAttr, ↓dnA, Tryz.f30, rows_length, encT, h1, h2, hw, nlt hkl, hkl, rows_get _ _ _ hkl, hbk, encB1, encBk, encBkF, encBkO, nn0]
        refine CallTo.det (c_spec_l13Copy n1 n2 n3 t hx) fun _ => ?_
        simp (config := { maxSteps := 4000000 }) only [go_sem, simprocAttr, ↓dnA, Tryz.f30, rows_length, encT, encTF, h1, h2, hw, encBkF, encBkO]
      | true =>
        simp (config := { maxSteps := 4000000 }) only [go_sem, simprocAttr, ↓dnA, Tryz.f30, rows_length, encT, h1, h2, hw, nlt hkl, hkl, rows_get _ _ _ hkl, hbk, encB1, encBk, encBkF, encBkO, nn0]
        refine CallTo.det (c_spec_PutBlock n1 n2 n3 none t nb hx (by omega)) fun _ => ?_
        simp (config := { maxSteps := 4000000 }) only [go_sem, simprocAttr, ↓dnA, Tryz.f30, rows_length, encT, encTF, h1, h2, hw, encBkF, encBkO]

end Go.Proofs.YthcfafpjkbbaoaaGreat

/- Contracts: drawn keys, values, actions. -/
set_option linter.unusedSimpArgs false
set_option linter.unusedVariables false
set_option maxRecDepth 20000
set_option maxHeartbeats 4000000
namespace Go.Proofs.YthcfafpjkbbaoaaGreat
open Go Go.RowKit

def NumQ (lo hi d : Int) (nb : Option Bool) (bs : List Int) (p : Int) (r : AV) (b : List AV) : Prop := ∃ x q : Int, r = .int .i64 x ∧ b = rd nb bs q ∧ p ≤ q ∧ q ≤ p + d ∧ lo ≤ x ∧ x ≤ hi

theorem wr0 : IntKind.i64.wrap 0 = 0 := by decide
theorem wr1 : IntKind.i64.wrap 1 = 1 := by decide
theorem wr2 : IntKind.i64.wrap 2 = 2 := by decide
theorem wr3 : IntKind.i64.wrap 3 = 3 := by decide
theorem wr4 : IntKind.i64.wrap 4 = 4 := by decide
theorem wr5 : IntKind.i64.wrap 5 = 5 := by decide
theorem wr6 : IntKind.i64.wrap 6 = 6 := by decide
theorem tn0 : (0 : Int).toNat = 0 := rfl
theorem tn1 : (1 : Int).toNat = 1 := rfl
theorem tn2 : (2 : Int).toNat = 2 := rfl
theorem tn3 : (3 : Int).toNat = 3 := rfl
theorem tn4 : (4 : Int).toNat = 4 := rfl
theorem tn5 : (5 : Int).toNat = 5 := rfl
theorem tn6 : (6 : Int).toNat = 6 := rfl

theorem c_spec_l20Key (nb : Option Bool) (bs : List Int) (p : Int) (h : RdOk bs p) (hp : p ≤ 999999000) : FSpec Tryz.prog 170 [.loc 0 0] true (rd nb bs p) (NumQ 0 31 3 nb bs p) := by
  refine fspec_rel tab_ok Tryz.call170 Tryz.func170 rfl 13 Tryz.ntmps170 (of_decide_eq_true rfl) fun B => codeK_sound tab_ok _ _ _ ?_
  unfold rd
  simp (config := { maxSteps := 4000000 }) only [go_sem, simprocAttr, ↓dnA, Tryz.f170, wr0, wr1, wr2, wr3, wr4, wr5, wr6, tn0, tn1, tn2, tn3, tn4, tn5, tn6]
  refine CallTo.of (c_spec_pick nb bs p 5 h) ?_
  rintro r b ⟨x, rfl, rfl, hx⟩
  have h1 := h.step (q := p + 1) (by omega) (by omega)
  unfold rd
  simp (config := { maxSteps := 4000000 }) only [go_sem, simprocAttr, ↓dnA, Tryz.f170, wr0, wr1, wr2, wr3, wr4, wr5, wr6, tn0, tn1, tn2, tn3, tn4, tn5, tn6]
  refine CallTo.of (c_spec_pick nb bs (p + 1) 32 h1) ?_
  rintro r b ⟨y, rfl, rfl, hy⟩
  have h2 := h.step (q := p + 1 + 1) (by omega) (by omega)
  unfold rd
  simp (config := { maxSteps := 4000000 }) only [go_sem, simprocAttr, ↓dnA, Tryz.f170, wr0, wr1, wr2, wr3, wr4, wr5, wr6, tn0, tn1, tn2, tn3, tn4, tn5, tn6]
  refine CallTo.of (c_spec_pick nb bs (p + 1 + 1) 4 h2) ?_
  rintro r b ⟨z, rfl, rfl, hz⟩
  unfold rd
  have hz4 : z = 0 ∨ z = 1 ∨ z = 2 ∨ z = 3 := by omega
  rcases hz4 with rfl | rfl | rfl | rfl
  all_goals
    simp (config := { maxSteps := 4000000 }) only [go_sem, simprocAttr, ↓dnA, Tryz.f170, wr0, wr1, wr2, wr3, wr4, wr5, wr6, tn0, tn1, tn2, tn3, tn4, tn5, tn6]
    exact .same ⟨_, _, rfl, rfl, by omega, by omega, by omega, by omega⟩


theorem c_spec_l20Value (nb : Option Bool) (bs : List Int) (p : Int) (h : RdOk bs p) (hp : p ≤ 999999000) : FSpec Tryz.prog 171 [.loc 0 0] true (rd nb bs p) (NumQ 0 1000000 3 nb bs p) := by
  refine fspec_rel tab_ok Tryz.call171 Tryz.func171 rfl 15 Tryz.ntmps171 (of_decide_eq_true rfl) fun B => codeK_sound tab_ok _ _ _ ?_
  unfold rd
  simp (config := { maxSteps := 4000000 }) only [go_sem, simprocAttr, ↓dnA, Tryz.f171, wr0, wr1, wr2, wr3, wr4, wr5, wr6, tn0, tn1, tn2, tn3, tn4, tn5, tn6]
  refine CallTo.of (c_spec_pick nb bs p 12 h) ?_
  rintro r b ⟨x, rfl, rfl, hx⟩
  have h1 := h.step (q := p + 1) (by omega) (by omega)
  unfold rd
  simp (config := { maxSteps := 4000000 }) only [go_sem, simprocAttr, ↓dnA, Tryz.f171, wr0, wr1, wr2, wr3, wr4, wr5, wr6, tn0, tn1, tn2, tn3, tn4, tn5, tn6]
  refine CallTo.of (c_spec_pick nb bs (p + 1) 256 h1) ?_
  rintro r b ⟨y, rfl, rfl, hy⟩
  have h2 := h.step (q := p + 1 + 1) (by omega) (by omega)
  unfold rd
  simp (config := { maxSteps := 4000000 }) only [go_sem, simprocAttr, ↓dnA, Tryz.f171, wr0, wr1, wr2, wr3, wr4, wr5, wr6, tn0, tn1, tn2, tn3, tn4, tn5, tn6]
  refine CallTo.of (c_spec_pick nb bs (p + 1 + 1) 7 h2) ?_
  rintro r b ⟨z, rfl, rfl, hz⟩
  unfold rd
  have hz4 : z = 0 ∨ z = 1 ∨ z = 2 ∨ z = 3 ∨ z = 4 ∨ z = 5 ∨ z = 6 := by omega
  rcases hz4 with rfl | rfl | rfl | rfl | rfl | rfl | rfl
  all_goals
    simp (config := { maxSteps := 4000000 }) only [go_sem, simprocAttr, ↓dnA, Tryz.f171, wr0, wr1, wr2, wr3, wr4, wr5, wr6, tn0, tn1, tn2, tn3, tn4, tn5, tn6]
    exact .same ⟨_, _, rfl, rfl, by omega, by omega, by omega, by omega⟩

def ActQ (nb : Option Bool) (bs : List Int) (p : Int) (r : AV) (b : List AV) : Prop := ∃ (a : Action) (q : Int), r = .agg (encA a) ∧ b = rd nb bs q ∧ p ≤ q ∧ q ≤ p + 15

theorem c_spec_l20Action (nb : Option Bool) (bs : List Int) (p n : Int) (h : RdOk bs p) (hp : p ≤ 999998000) (hn : 0 ≤ n ∧ n ≤ 1000000) : FSpec Tryz.prog 143 [.loc 0 0, .int .i64 n] true (rd nb bs p) (ActQ nb bs p) := by
  refine fspec_rel tab_ok Tryz.call143 Tryz.func143 rfl 58 Tryz.ntmps143 (of_decide_eq_true rfl) fun B => codeK_sound tab_ok _ _ _ ?_
  unfold rd
  simp (config := { maxSteps := 4000000 }) only [go_sem, simprocAttr, ↓dnA, Tryz.f143, wr0, wr1, wr2, wr3, wr4, wr5, wr6, tn0, tn1, tn2, tn3, tn4, tn5, tn6]
  refine CallTo.of (c_spec_pick nb bs p 6 h) ?_
  rintro r b ⟨x, rfl, rfl, hx⟩
  have h1 := h.step (q := p + 1) (by omega) (by omega)
  unfold rd
  simp (config := { maxSteps := 4000000 }) only [go_sem, simprocAttr, ↓dnA, Tryz.f143, wr0, wr1, wr2, wr3, wr4, wr5, wr6, tn0, tn1, tn2, tn3, tn4, tn5, tn6]
  refine CallTo.of (c_spec_l20Key nb bs (p + 1) h1 (by omega)) ?_
  rintro r b ⟨y, q1, rfl, rfl, hq1, hq1', hy⟩
  have h2 := h.step (q := q1) (by omega) (by omega)
  unfold rd
  simp (config := { maxSteps := 4000000 }) only [go_sem, simprocAttr, ↓dnA, Tryz.f143, wr0, wr1, wr2, wr3, wr4, wr5, wr6, tn0, tn1, tn2, tn3, tn4, tn5, tn6]
  refine CallTo.of (c_spec_l20Key nb bs q1 h2 (by omega)) ?_
  rintro r b ⟨z, q2, rfl, rfl, hq2, hq2', hz⟩
  have h3 := h.step (q := q2) (by omega) (by omega)
  unfold rd
  simp (config := { maxSteps := 4000000 }) only [go_sem, simprocAttr, ↓dnA, Tryz.f143, wr0, wr1, wr2, wr3, wr4, wr5, wr6, tn0, tn1, tn2, tn3, tn4, tn5, tn6]
  refine CallTo.of (c_spec_l20Value nb bs q2 h3 (by omega)) ?_
  rintro r b ⟨u, q3, rfl, rfl, hq3, hq3', hu⟩
  have h4 := h.step (q := q3) (by omega) (by omega)
  unfold rd
  have hx6 : x = 0 ∨ x = 1 ∨ x = 2 ∨ x = 3 ∨ x = 4 ∨ x = 5 := by omega
  rcases hx6 with rfl | rfl | rfl | rfl | rfl | rfl
  all_goals
    simp (config := { maxSteps := 4000000 }) only [go_sem, simprocAttr, ↓dnA, Tryz.f143, wr0, wr1, wr2, wr3, wr4, wr5, wr6, tn0, tn1, tn2, tn3, tn4, tn5, tn6]
    refine CallTo.of (c_spec_odd nb bs q3 n h4 hn) ?_
    rintro r b ⟨g, q4, rfl, rfl, hq4, hq4'⟩
    have h5 := h.step (q := q4) (by omega) (by omega)
    unfold rd
    cases g
    · simp (config := { maxSteps := 4000000 }) only [go_sem, simprocAttr, ↓dnA, Tryz.f143, wr0, wr1, wr2, wr3, wr4, wr5, wr6, tn0, tn1, tn2, tn3, tn4, tn5, tn6]
      exact .same ⟨⟨_, _, _, _⟩, q4, rfl, rfl, by omega, by omega⟩
    · simp (config := { maxSteps := 4000000 }) only [go_sem, simprocAttr, ↓dnA, Tryz.f143, wr0, wr1, wr2, wr3, wr4, wr5, wr6, tn0, tn1, tn2, tn3, tn4, tn5, tn6]
      refine CallTo.of (c_spec_pick nb bs q4 4 h5) ?_
      rintro r b ⟨m, rfl, rfl, hm⟩
      have h6 := h.step (q := q4 + 1) (by omega) (by omega)
      unfold rd
      have hm4 : m = 0 ∨ m = 1 ∨ m = 2 ∨ m = 3 := by omega
      rcases hm4 with rfl | rfl | rfl | rfl
      all_goals
        simp (config := { maxSteps := 4000000 }) only [go_sem, simprocAttr, ↓dnA, Tryz.f143, wr0, wr1, wr2, wr3, wr4, wr5, wr6, tn0, tn1, tn2, tn3, tn4, tn5, tn6]
        first
          | exact .same ⟨⟨_, _, _, _⟩, q4 + 1, rfl, rfl, by omega, by omega⟩
          | (refine CallTo.of (c_spec_pick nb bs (q4 + 1) 2 h6) ?_
             rintro r b ⟨m2, rfl, rfl, hm2⟩
             unfold rd
             have hm4 : m2 = 0 ∨ m2 = 1 := by omega
             rcases hm4 with rfl | rfl
             all_goals
               simp (config := { maxSteps := 4000000 }) only [go_sem, simprocAttr, ↓dnA, Tryz.f143, wr0, wr1, wr2, wr3, wr4, wr5, wr6, tn0, tn1, tn2, tn3, tn4, tn5, tn6]
               exact .same ⟨⟨_, _, _, _⟩, q4 + 1 + 1, rfl, rfl, by omega, by omega⟩)

end Go.Proofs.YthcfafpjkbbaoaaGreat

/- Contracts: drawn lists of actions, drawn stores. -/
set_option linter.unusedSimpArgs false
set_option linter.unusedVariables false
set_option maxRecDepth 20000
set_option maxHeartbeats 4000000
namespace Go.Proofs.YthcfafpjkbbaoaaGreat
open Go Go.RowKit

def ActsQ (nb : Option Bool) (bs : List Int) (p : Int) (r : AV) (b : List AV) : Prop := ∃ (xs : List Action) (q : Int), r = .osl true 4 (rows encA xs) ∧ b = rd nb bs q ∧ p ≤ q ∧ q ≤ p + 200 ∧ xs.length ≤ 20

theorem c_spec_l20Actions (nb : Option Bool) (bs : List Int) (p n : Int) (h : RdOk bs p) (hp : p ≤ 999990000) (hn : 0 ≤ n ∧ n ≤ 1000000) : FSpec Tryz.prog 86 [.loc 0 0, .int .i64 n] true (rd nb bs p) (ActsQ nb bs p) := by
  refine fspec_rel tab_ok Tryz.call86 Tryz.func86 rfl 38 Tryz.ntmps86 (of_decide_eq_true rfl) fun B => codeK_sound tab_ok _ _ _ ?_
  unfold rd
  simp (config := { maxSteps := 4000000 }) only [go_sem, simprocAttr, ↓dnA, Tryz.f86, rows_length]
  refine CallTo.of (c_spec_pick nb bs p 7 h) ?_
  rintro r b ⟨x, rfl, rfl, hx⟩
  unfold rd
  simp (config := { maxSteps := 4000000 }) only [go_sem, simprocAttr, ↓dnA, Tryz.f86, rows_length]
  obtain ⟨c0, rfl⟩ : ∃ c0 : Nat, x = (c0 : Int) := ⟨x.toNat, by omega⟩
  refine semL_for tab_ok (fun s : List Action × Nat × Int => ⟨38, [(0, .loc 900 0), (1, .int .i64 n), (5, .row 600 s.1.length), (6, .int .i64 s.2.1)], [(900, .var (rd nb bs s.2.2)), (600, .row true true 4 (rows encA s.1))]⟩) (fun s => s.2.1)
    (fun s => s.1.length + s.2.1 ≤ 6 ∧ p ≤ s.2.2 ∧ s.2.2 + 15 * s.2.1 ≤ p + 91) ([], c0, p + 1) [(900, 900), (7, 600)] (Weak.of (by rfl) ?_ ?_ (by rfl)) (by dsimp only; simp only [List.length_nil]; omega) ?_
  · simp (config := { maxSteps := 4000000 }) only [go_sem, simprocAttr, ↓dnA, Tryz.f86, rows_length, rd, frW, wk2, wk1, wkL, wkB, hpW, List.mem_cons, Prod.mk.injEq, exists_eq_left, exists_eq_right, exists_eq]
    try rfl
  · simp (config := { maxSteps := 4000000 }) only [go_sem, simprocAttr, ↓dnA, Tryz.f86, rows_length, rd, frW, wk2, wk1, wkL, wkB, hpW, List.mem_cons, Prod.mk.injEq, exists_eq_left, exists_eq_right, exists_eq]
    try rfl
  · rintro ⟨xs, c, q⟩ ⟨i1, i2, i3⟩
    dsimp only at i1 i2 i3 ⊢
    have hq := h.step (q := q) (by omega) (by omega)
    have htk : (rows encA xs).take xs.length = rows encA xs := by rw [List.take_of_length_le]; rw [rows_length]; omega
    by_cases hc : 0 < c
    · have hd : decide ((c : Int) > 0) = true := by simp; omega
      have hw : IntKind.i64.wrap ((c : Int) - 1) = ((c - 1 : Nat) : Int) := by rw [wrap_small _ (by omega) (by omega)]; omega
      simp (config := { maxSteps := 4000000 }) only [go_sem, simprocAttr, ↓dnA, Tryz.f86, rows_length, rd, hd, hw, htk]
      refine CallTo.of (c_spec_l20Action nb bs q 0 hq (by omega) (by omega)) ?_
      rintro r b ⟨a, q', rfl, rfl, hq1, hq2⟩
      simp (config := { maxSteps := 4000000 }) only [go_sem, simprocAttr, ↓dnA, Tryz.f86, rows_length, rd, encA, hd, hw, htk]
      repeat refine And.intro (by first | omega | (simp; done) | (simp; omega) | assumption) ?_
      refine ⟨(xs ++ [a], c - 1, q'), [(900, 900), (18, 600)], ⟨by dsimp only; simp only [List.length_append, List.length_cons, List.length_nil]; omega, by dsimp only; omega, by dsimp only; omega⟩, by dsimp only; omega, Weak.of (by rfl) ?_ ?_ (by rfl)⟩
      · simp (config := { maxSteps := 4000000 }) only [go_sem, simprocAttr, ↓dnA, Tryz.f86, rows_length, rd, List.length_append, frW, wk2, wk1, wkL, wkB, hpW, List.mem_cons, Prod.mk.injEq, exists_eq_left, exists_eq_right, exists_eq]
        rw [← rows_snoc]; rfl
      · simp (config := { maxSteps := 4000000 }) only [go_sem, simprocAttr, ↓dnA, Tryz.f86, rows_length, rd, List.length_append, frW, wk2, wk1, wkL, wkB, hpW, List.mem_cons, Prod.mk.injEq, exists_eq_left, exists_eq_right, exists_eq]
    · obtain rfl : c = 0 := by omega
      simp (config := { maxSteps := 4000000 }) only [go_sem, simprocAttr, ↓dnA, Tryz.f86, rows_length, rd, htk]
      refine CallTo.of (c_spec_odd nb bs q n hq hn) ?_
      rintro r b ⟨g, q1, rfl, rfl, hq1, hq2⟩
      have h5 := h.step (q := q1) (by omega) (by omega)
      unfold rd
      cases g with
      | false =>
        simp (config := { maxSteps := 4000000 }) only [go_sem, simprocAttr, ↓dnA, Tryz.f86, rows_length, htk]
        exact .same ⟨xs, q1, rfl, rfl, by omega, by omega, by omega⟩
      | true =>
        simp (config := { maxSteps := 4000000 }) only [go_sem, simprocAttr, ↓dnA, Tryz.f86, rows_length, htk]
        refine CallTo.of (c_spec_pick nb bs q1 2 h5) ?_
        rintro r b ⟨z, rfl, rfl, hz⟩
        have h6 := h.step (q := q1 + 1) (by omega) (by omega)
        unfold rd
        have hz2 : z = 0 ∨ z = 1 := by omega
        rcases hz2 with rfl | rfl
        · simp (config := { maxSteps := 4000000 }) only [go_sem, simprocAttr, ↓dnA, Tryz.f86, rows_length, htk]
          refine CallTo.of (c_spec_l20Action nb bs (q1 + 1) 1 h6 (by omega) (by omega)) ?_
          rintro r b ⟨a, q', rfl, rfl, hq3, hq4⟩
          have hl : (rows encA xs ++ [[AV.int IntKind.i64 a.kind, AV.int IntKind.i64 a.fr, AV.int IntKind.i64 a.to, AV.int IntKind.i64 a.amount]]) = rows encA (xs ++ [a]) := by rw [← rows_snoc]; rfl
          have hl2 : (xs ++ [a]).length = xs.length + 1 := by simp
          simp (config := { maxSteps := 4000000 }) only [go_sem, simprocAttr, ↓dnA, Tryz.f86, rows_length, rd, encA, htk, hl, hl2]
          repeat refine And.intro (by first | omega | (simp; done) | (simp; omega) | assumption) ?_
          exact .same ⟨xs ++ [a], q', rfl, rfl, by omega, by omega, by rw [hl2]; omega⟩
        · simp (config := { maxSteps := 4000000 }) only [go_sem, simprocAttr, ↓dnA, Tryz.f86, rows_length, htk]
          refine semL_for tab_ok (fun s : List Action => ⟨38, [(5, .row 600 s.length)], [(900, .var (rd nb bs (q1 + 1))), (600, .row true true 4 (rows encA s))]⟩) (fun s => 11 - s.length)
            (fun s => s.length ≤ 11) xs [(900, 900), (600, 600)] (Weak.of (by rfl) ?_ ?_ (by rfl)) (by omega) ?_
          · simp (config := { maxSteps := 4000000 }) only [go_sem, simprocAttr, ↓dnA, Tryz.f86, rows_length, rd, frW, wk2, wk1, wkL, wkB, hpW, List.mem_cons, Prod.mk.injEq, exists_eq_left, exists_eq_right, exists_eq]
          · simp (config := { maxSteps := 4000000 }) only [go_sem, simprocAttr, ↓dnA, Tryz.f86, rows_length, rd, frW, wk2, wk1, wkL, wkB, hpW, List.mem_cons, Prod.mk.injEq, exists_eq_left, exists_eq_right, exists_eq]
          · intro ys hy
            have htk : (rows encA ys).take ys.length = rows encA ys := by rw [List.take_of_length_le]; rw [rows_length]; omega
            by_cases h10 : ys.length ≤ 10
            · have hd : decide ((ys.length : Int) ≤ 10) = true := by simp; omega
              simp (config := { maxSteps := 4000000 }) only [go_sem, simprocAttr, ↓dnA, Tryz.f86, rows_length, rd, hd, htk]
              repeat refine And.intro (by first | omega | (simp; done) | (simp; omega) | assumption) ?_
              refine ⟨ys ++ [⟨1, 0, 0, 0⟩], [(900, 900), (36, 600)], by simp; omega, by simp; omega, Weak.of (by rfl) ?_ ?_ (by rfl)⟩
              · simp (config := { maxSteps := 4000000 }) only [go_sem, simprocAttr, ↓dnA, Tryz.f86, rows_length, rd, List.length_append, frW, wk2, wk1, wkL, wkB, hpW, List.mem_cons, Prod.mk.injEq, exists_eq_left, exists_eq_right, exists_eq]
                rw [← rows_snoc]; rfl
              · simp (config := { maxSteps := 4000000 }) only [go_sem, simprocAttr, ↓dnA, Tryz.f86, rows_length, rd, List.length_append, frW, wk2, wk1, wkL, wkB, hpW, List.mem_cons, Prod.mk.injEq, exists_eq_left, exists_eq_right, exists_eq]
                try rfl
            · have hd : decide ((ys.length : Int) ≤ 10) = false := by simp; omega
              simp (config := { maxSteps := 4000000 }) only [go_sem, simprocAttr, ↓dnA, Tryz.f86, rows_length, rd, hd, htk]
              exact .same ⟨ys, q1 + 1, rfl, rfl, by omega, by omega, by omega⟩

end Go.Proofs.YthcfafpjkbbaoaaGreat

/- Contracts: drawn stores, drawn serial runs. -/
set_option linter.unusedSimpArgs false
set_option linter.unusedVariables false
set_option maxRecDepth 20000
set_option maxHeartbeats 4000000
namespace Go.Proofs.YthcfafpjkbbaoaaGreat
open Go Go.RowKit

/-- A store with a value put. -/
def putValue (s : List Entry) (k x : Int) : List Entry × Bool := if storeValid s then (if inB k 0 31 && inB x 0 1000000 then (putD k x (x == 0) s, true) else (s, false)) else ([], false)

theorem c_spec_PutValue (n1 : Option Bool) (s : List Entry) (k x : Int) (hs : s.length ≤ 1000) : Det Tryz.prog 169 [.sl n1 (rows encE s), .int .i64 k, .int .i64 x] (.tup [.osl true 2 (rows encE (putValue s k x).1), .bool (putValue s k x).2]) := by
  refine fspec_det tab_ok Tryz.call169 Tryz.func169 rfl 27 Tryz.ntmps169 (of_decide_eq_true rfl) fun B => codeK_sound tab_ok _ _ _ ?_
  unfold putValue
  have b1 := all_rows encE AV.flat (fun _ => rfl) s
  have b2 := all_rows encE AV.one (fun _ => rfl) s
  have b3 := sz0_rows encE 2 (fun _ => rfl) s
  simp (config := { maxSteps := 4000000 }) only [go_sem, simprocAttr, ↓dnA, Tryz.f169, rows_length]
  refine CallTo.det (c_spec_StoreValid n1 s (by omega)) fun _ => ?_
  cases h1 : storeValid s with
  | false => simp (config := { maxSteps := 4000000 }) only [go_sem, simprocAttr, ↓dnA, Tryz.f169, rows_length, h1, rows_nil]
  | true =>
    simp (config := { maxSteps := 4000000 }) only [go_sem, simprocAttr, ↓dnA, Tryz.f169, rows_length, h1]
    refine CallTo.det (c_l1In _ _ _) fun _ => ?_
    cases h2 : inB k 0 31 with
    | false =>
      simp (config := { maxSteps := 4000000 }) only [go_sem, simprocAttr, ↓dnA, Tryz.f169, rows_length, h1, h2, b1, b2, b3]
      repeat refine And.intro (by first | omega | (simp; done) | (simp; omega) | assumption) ?_
      omega
    | true =>
      simp (config := { maxSteps := 4000000 }) only [go_sem, simprocAttr, ↓dnA, Tryz.f169, rows_length, h1, h2]
      refine CallTo.det (c_l1In _ _ _) fun _ => ?_
      cases h3 : inB x 0 1000000 with
      | false =>
        simp (config := { maxSteps := 4000000 }) only [go_sem, simprocAttr, ↓dnA, Tryz.f169, rows_length, h1, h2, h3, b1, b2, b3]
        repeat refine And.intro (by first | omega | (simp; done) | (simp; omega) | assumption) ?_
        omega
      | true =>
        simp (config := { maxSteps := 4000000 }) only [go_sem, simprocAttr, ↓dnA, Tryz.f169, rows_length, h1, h2, h3]
        refine CallTo.det (c_spec_l2Put n1 s k x (by omega)) fun _ => ?_
        simp (config := { maxSteps := 4000000 }) only [go_sem, simprocAttr, ↓dnA, Tryz.f169, rows_length, h1, h2, h3]

end Go.Proofs.YthcfafpjkbbaoaaGreat

/- Contracts: drawn trees in a line. -/
set_option linter.unusedSimpArgs false
set_option linter.unusedVariables false
set_option maxRecDepth 20000
set_option maxHeartbeats 4000000
namespace Go.Proofs.YthcfafpjkbbaoaaGreat
open Go Go.RowKit

theorem putValue_valid {s : List Entry} (h : storeValid s = true) (k x : Int) : storeValid (putValue s k x).1 = true := by
  unfold putValue
  rw [if_pos h]
  split
  · rename_i hb
    rw [Bool.and_eq_true] at hb
    exact (putD_ok (inB_iff.1 hb.1) (inB_iff.1 hb.2) h).1
  · exact h

theorem c_spec_odd0 (nb : Option Bool) (bs : List Int) (p : Int) (h : RdOk bs p) : FSpec Tryz.prog 105 [.loc 0 0, .int .i64 0] true (rd nb bs p) (fun r b => r = .bool false ∧ b = rd nb bs p) := by
  refine fspec_rel tab_ok Tryz.call105 Tryz.func105 rfl 15 Tryz.ntmps105 (of_decide_eq_true rfl) fun B => codeK_sound tab_ok _ _ _ ?_
  unfold rd
  simp (config := { maxSteps := 4000000 }) only [go_sem, simprocAttr, ↓dnA, Tryz.f105]
  exact .same ⟨rfl, rfl⟩

def StoreVQ (nb : Option Bool) (bs : List Int) (p : Int) (r : AV) (b : List AV) : Prop := ∃ (xs : List Entry) (q : Int), r = .osl true 2 (rows encE xs) ∧ b = rd nb bs q ∧ p ≤ q ∧ q ≤ p + 200 ∧ storeValid xs = true

theorem c_spec_l20Store0 (nb : Option Bool) (bs : List Int) (p : Int) (h : RdOk bs p) (hp : p ≤ 999990000) : FSpec Tryz.prog 132 [.loc 0 0, .int .i64 0] true (rd nb bs p) (StoreVQ nb bs p) := by
  refine fspec_rel tab_ok Tryz.call132 Tryz.func132 rfl 57 Tryz.ntmps132 (of_decide_eq_true rfl) fun B => codeK_sound tab_ok _ _ _ ?_
  unfold rd
  simp (config := { maxSteps := 4000000 }) only [go_sem, simprocAttr, ↓dnA, Tryz.f132, rows_length, wr0, wr1, wr2, wr3, tn0, tn1, tn2, tn3]
  refine CallTo.of (c_spec_pick nb bs p 7 h) ?_
  rintro r b ⟨x, rfl, rfl, hx⟩
  unfold rd
  simp (config := { maxSteps := 4000000 }) only [go_sem, simprocAttr, ↓dnA, Tryz.f132, rows_length, wr0, wr1, wr2, wr3, tn0, tn1, tn2, tn3]
  obtain ⟨c0, rfl⟩ : ∃ c0 : Nat, x = (c0 : Int) := ⟨x.toNat, by omega⟩
  refine semL_for tab_ok (fun s : List Entry × Nat × Int => ⟨57, [(0, .loc 900 0), (1, .int .i64 0), (5, .row 600 s.1.length), (6, .int .i64 s.2.1)], [(900, .var (rd nb bs s.2.2)), (600, .row true true 2 (rows encE s.1))]⟩) (fun s => s.2.1)
    (fun s => storeValid s.1 = true ∧ p ≤ s.2.2 ∧ s.2.2 + 6 * s.2.1 ≤ p + 91) ([], c0, p + 1) [(900, 900), (7, 600)] (Weak.of (by rfl) ?_ ?_ (by rfl)) ⟨(show storeValid [] = true by decide), by dsimp only; omega, by dsimp only; omega⟩ ?_
  · simp (config := { maxSteps := 4000000 }) only [go_sem, simprocAttr, ↓dnA, Tryz.f132, rows_length, wr0, wr1, wr2, wr3, tn0, tn1, tn2, tn3, rd, frW, wk2, wk1, wkL, wkB, hpW, List.mem_cons, Prod.mk.injEq, exists_eq_left, exists_eq_right, exists_eq]
    try rfl
  · simp (config := { maxSteps := 4000000 }) only [go_sem, simprocAttr, ↓dnA, Tryz.f132, rows_length, wr0, wr1, wr2, wr3, tn0, tn1, tn2, tn3, rd, frW, wk2, wk1, wkL, wkB, hpW, List.mem_cons, Prod.mk.injEq, exists_eq_left, exists_eq_right, exists_eq]
    try rfl
  · rintro ⟨xs, c, q⟩ ⟨i1, i2, i3⟩
    dsimp only at i1 i2 i3 ⊢
    have hq := h.step (q := q) (by omega) (by omega)
    have hxl := store_len i1
    have htk : (rows encE xs).take xs.length = rows encE xs := by rw [List.take_of_length_le]; rw [rows_length]; omega
    by_cases hc : 0 < c
    · have hd : decide ((c : Int) > 0) = true := by simp; omega
      have hw : IntKind.i64.wrap ((c : Int) - 1) = ((c - 1 : Nat) : Int) := by rw [wrap_small _ (by omega) (by omega)]; omega
      simp (config := { maxSteps := 4000000 }) only [go_sem, simprocAttr, ↓dnA, Tryz.f132, rows_length, wr0, wr1, wr2, wr3, tn0, tn1, tn2, tn3, rd, hd, hw, htk]
      refine CallTo.of (c_spec_l20Key nb bs q hq (by omega)) ?_
      rintro r b ⟨k, q', rfl, rfl, hq1, hq2, hk⟩
      have hq' := h.step (q := q') (by omega) (by omega)
      simp (config := { maxSteps := 4000000 }) only [go_sem, simprocAttr, ↓dnA, Tryz.f132, rows_length, wr0, wr1, wr2, wr3, tn0, tn1, tn2, tn3, rd, hd, hw, htk]
      refine CallTo.of (c_spec_l20Value nb bs q' hq' (by omega)) ?_
      rintro r b ⟨v, q2, rfl, rfl, hq3, hq4, hv⟩
      simp (config := { maxSteps := 4000000 }) only [go_sem, simprocAttr, ↓dnA, Tryz.f132, rows_length, wr0, wr1, wr2, wr3, tn0, tn1, tn2, tn3, rd, hd, hw, htk]
      have hpl := putValue_valid i1 k v
      refine CallTo.det (c_spec_PutValue _ xs k v (by omega)) fun _ => ?_
      generalize putValue xs k v = ys at hpl
      obtain ⟨ys, ok⟩ := ys
      dsimp only at hpl ⊢
      simp (config := { maxSteps := 4000000 }) only [go_sem, simprocAttr, ↓dnA, Tryz.f132, rows_length, wr0, wr1, wr2, wr3, tn0, tn1, tn2, tn3, rd, hd, hw, htk]
      refine ⟨(ys, c - 1, q2), [(900, 900), (21000, 600)], ⟨hpl, by dsimp only; omega, by dsimp only; omega⟩, by dsimp only; omega, Weak.of (by rfl) ?_ ?_ (by rfl)⟩
      · simp (config := { maxSteps := 4000000 }) only [go_sem, simprocAttr, ↓dnA, Tryz.f132, rows_length, wr0, wr1, wr2, wr3, tn0, tn1, tn2, tn3, rd, frW, wk2, wk1, wkL, wkB, hpW, List.mem_cons, Prod.mk.injEq, exists_eq_left, exists_eq_right, exists_eq]
      · simp (config := { maxSteps := 4000000 }) only [go_sem, simprocAttr, ↓dnA, Tryz.f132, rows_length, wr0, wr1, wr2, wr3, tn0, tn1, tn2, tn3, rd, frW, wk2, wk1, wkL, wkB, hpW, List.mem_cons, Prod.mk.injEq, exists_eq_left, exists_eq_right, exists_eq]
    · obtain rfl : c = 0 := by omega
      simp (config := { maxSteps := 4000000 }) only [go_sem, simprocAttr, ↓dnA, Tryz.f132, rows_length, wr0, wr1, wr2, wr3, tn0, tn1, tn2, tn3, rd, htk]
      refine CallTo.of (c_spec_odd0 nb bs q hq) ?_
      rintro r b ⟨rfl, rfl⟩
      unfold rd
      simp (config := { maxSteps := 4000000 }) only [go_sem, simprocAttr, ↓dnA, Tryz.f132, rows_length, wr0, wr1, wr2, wr3, tn0, tn1, tn2, tn3, htk]
      exact .same ⟨xs, q, rfl, rfl, by omega, by omega, i1⟩

theorem c_spec_FirstBlock0 (n1 : Option Bool) (s : List Entry) (hx : s.length < 2 ^ 62) : Det Tryz.prog 75 [.sl n1 (rows encE s)] (.agg (encBk0 (firstBlock s))) := by
  refine fspec_det tab_ok Tryz.call75 Tryz.func75 rfl 12 Tryz.ntmps75 (of_decide_eq_true rfl) fun B => codeK_sound tab_ok _ _ _ ?_
  simp (config := { maxSteps := 4000000 }) only [go_sem, simprocAttr, ↓dnA, Tryz.f75, rows_length]
  refine CallTo.det (c_spec_StoreValid _ _ hx) fun _ => ?_
  cases h : storeValid s with
  | false => simp (config := { maxSteps := 4000000 }) only [go_sem, simprocAttr, ↓dnA, Tryz.f75, rows_length, h, firstBlock, encBk0]
  | true =>
    simp (config := { maxSteps := 4000000 }) only [go_sem, simprocAttr, ↓dnA, Tryz.f75, rows_length, h]
    refine CallTo.det (c_spec_RootOf _ _ hx) fun _ => ?_
    simp (config := { maxSteps := 4000000 }) only [go_sem, simprocAttr, ↓dnA, Tryz.f75, rows_length, h]
    refine CallTo.det (c_spec_EffectsSum0 _) fun _ => ?_
    simp (config := { maxSteps := 4000000 }) only [go_sem, simprocAttr, ↓dnA, Tryz.f75, rows_length, h, firstBlock, encBk0]

theorem c_spec_TreeOf (n1 : Option Bool) (s : List Entry) (hs : storeValid s = true) : Det Tryz.prog 131 [.sl n1 (rows encE s)] (.agg (encTF (treeOf s))) := by
  refine fspec_det tab_ok Tryz.call131 Tryz.func131 rfl 15 Tryz.ntmps131 (of_decide_eq_true rfl) fun B => codeK_sound tab_ok _ _ _ ?_
  have hsl := store_len hs
  have b1 := all_rows encE AV.flat (fun _ => rfl) s
  have b2 := all_rows encE AV.one (fun _ => rfl) s
  have b3 := sz0_rows encE 2 (fun _ => rfl) s
  have ht : treeOf s = ⟨s, [firstBlock s], [-1]⟩ := by unfold treeOf; rw [if_pos hs]
  rw [ht]
  simp (config := { maxSteps := 4000000 }) only [go_sem, simprocAttr, ↓dnA, Tryz.f131, rows_length]
  refine CallTo.det (c_spec_StoreValid n1 s (by omega)) fun _ => ?_
  simp (config := { maxSteps := 4000000 }) only [go_sem, simprocAttr, ↓dnA, Tryz.f131, rows_length, hs]
  repeat refine And.intro (by first | omega | (simp; done) | (simp; omega) | assumption) ?_
  refine CallTo.det (c_spec_FirstBlock0 n1 s (by omega)) fun _ => ?_
  have hf : encBk none (firstBlock s) = [.int .i64 (firstBlock s).before, .int .i64 (firstBlock s).height, .int .i64 (firstBlock s).view, .sl none [], .int .i64 (firstBlock s).root, .int .i64 (firstBlock s).effects] := by
    unfold encBk
    rw [firstBlock_list]
    rfl
  simp (config := { maxSteps := 4000000 }) only [go_sem, simprocAttr, ↓dnA, Tryz.f131, rows_length, hs, encBk0]
  simp only [encTF, rows, List.map_cons, List.map_nil, encB1, hf, encI]
  simp [rwL, rwC]

def LineQ (nb : Option Bool) (bs : List Int) (p n : Int) (r : AV) (b : List AV) : Prop := ∃ (t : Tree) (q : Int), r = .agg (encTF t) ∧ b = rd nb bs q ∧ p ≤ q ∧ q ≤ p + 1000 ∧ tsz t ≤ 200 ∧ 1 ≤ t.blocks.length ∧ t.blocks.length ≤ 14 ∧ (n = 0 → TreeOk t)

theorem treeOk_small {t : Tree} (ht : TreeOk t) : tsz t ≤ 200 := by
  have h1 := store_len ht.store
  have h2 := ht.len
  have h3 := ht.bef
  have h4 := lsum_le t.blocks fun b hb => by
    obtain ⟨i, hi, rfl⟩ := List.getElem_of_mem hb
    rw [t.blk_get i hi]
    exact (blk_acts ht hi).2.1
  unfold tsz; omega

theorem c_spec_l20Line (nb : Option Bool) (bs : List Int) (p n : Int) (h : RdOk bs p) (hp : p ≤ 999980000) (hn : 0 ≤ n ∧ n ≤ 1000000) : FSpec Tryz.prog 103 [.loc 0 0, .int .i64 n] true (rd nb bs p) (LineQ nb bs p n) := by
  refine fspec_rel tab_ok Tryz.call103 Tryz.func103 rfl 63 Tryz.ntmps103 (of_decide_eq_true rfl) fun B => codeK_sound tab_ok _ _ _ ?_
  unfold rd
  simp (config := { maxSteps := 4000000 }) only [go_sem, simprocAttr, ↓dnA, Tryz.f103, rows_length]
  refine CallTo.of (c_spec_l20Store0 nb bs p h (by omega)) ?_
  rintro r b ⟨s, p1, rfl, rfl, hp1, hp2, hsv⟩
  unfold rd
  simp (config := { maxSteps := 4000000 }) only [go_sem, simprocAttr, ↓dnA, Tryz.f103, rows_length]
  refine CallTo.det (c_spec_TreeOf _ s hsv) fun _ => ?_
  have ht0 := treeOf_ok hsv
  generalize treeOf s = t0 at ht0
  have hr1 := h.step (q := p1) (by omega) (by omega)
  simp (config := { maxSteps := 4000000 }) only [go_sem, simprocAttr, ↓dnA, Tryz.f103, rows_length, encTF]
  refine CallTo.of (c_spec_pick nb bs p1 9 hr1) ?_
  rintro r b ⟨x, rfl, rfl, hx⟩
  unfold rd
  simp (config := { maxSteps := 4000000 }) only [go_sem, simprocAttr, ↓dnA, Tryz.f103, rows_length, encTF]
  obtain ⟨c0, rfl⟩ : ∃ c0 : Nat, x = (c0 : Int) := ⟨x.toNat, by omega⟩
  refine semL_for tab_ok (fun s : Tree × Nat × Int => ⟨63, [(0, .loc 900 0), (1, .int .i64 n), (4, .loc 4 0), (5, .loc 5 0), (6, .int .i64 s.2.1)],
      [(900, .var (rd nb bs s.2.2)), (4, .var [.sl (some false) [], .sl (some false) [], .sl (some false) []]), (5, .var [.row 601 s.1.base.length, .row 602 s.1.blocks.length, .row 603 s.1.before.length]),
        (601, .row true false 2 (rows encE s.1.base)), (602, .row true false 6 (rows encB1 s.1.blocks)), (603, .row true false 1 (rows encI s.1.before))]⟩) (fun s => s.2.1)
    (fun s => TreeOk s.1 ∧ p1 + 1 ≤ s.2.2 ∧ s.2.2 + 20 * s.2.1 ≤ p1 + 181) (t0, c0, p1 + 1) [(900, 900), (4, 4), (5, 5), (11000, 601), (11001, 602), (11002, 603)] (Weak.of (by rfl) ?_ ?_ (by rfl)) ⟨ht0, by dsimp only; omega, by dsimp only; omega⟩ ?_
  · simp (config := { maxSteps := 4000000 }) only [go_sem, simprocAttr, ↓dnA, Tryz.f103, rows_length, rd, encTF, frW, wk2, wk1, wkL, wkB, hpW, List.mem_cons, Prod.mk.injEq, exists_eq_left, exists_eq_right, exists_eq]
    try rfl
  · simp (config := { maxSteps := 4000000 }) only [go_sem, simprocAttr, ↓dnA, Tryz.f103, rows_length, rd, frW, wk2, wk1, wkL, wkB, hpW, List.mem_cons, Prod.mk.injEq, exists_eq_left, exists_eq_right, exists_eq]
    try rfl
  · rintro ⟨t, c, q⟩ ⟨ht, i2, i3⟩
    dsimp only at ht i2 i3 ⊢
    have hq := h.step (q := q) (by omega) (by omega)
    have hlen := ht.len
    have hbf := ht.bef
    by_cases hc : 0 < c
    · have hd : decide ((c : Int) > 0) = true := by simp; omega
      have hwc : IntKind.i64.wrap ((c : Int) - 1) = ((c - 1 : Nat) : Int) := by rw [wrap_small _ (by omega) (by omega)]; omega
      have hwl : IntKind.i64.wrap ((t.blocks.length : Int) - 1) = ((t.blocks.length - 1 : Nat) : Int) := by rw [wrap_small _ (by omega) (by omega)]; omega
      simp (config := { maxSteps := 4000000 }) only [go_sem, simprocAttr, ↓dnA, Tryz.f103, rows_length, encTF, rd, hd, hwl]
      refine CallTo.of (c_spec_pick nb bs q 5 hq) ?_
      rintro r b ⟨z, rfl, rfl, hz⟩
      have hq1 := h.step (q := q + 1) (by omega) (by omega)
      by_cases hz0 : z = 0
      · subst hz0
        have e0 : ((0 : Int) == 0) = true := rfl
        simp (config := { maxSteps := 4000000 }) only [go_sem, simprocAttr, ↓dnA, Tryz.f103, rows_length, encTF, rd, hd, hwl, e0]
        refine CallTo.of (c_spec_pick nb bs (q + 1) (t.blocks.length : Int) hq1) ?_
        rintro r b ⟨m, rfl, rfl, hm⟩
        have hq1' := h.step (q := q + 1 + 1) (by omega) (by omega)
        obtain ⟨k, rfl⟩ : ∃ k : Nat, m = (k : Int) := ⟨m.toNat, by omega⟩
        have hk : k < t.blocks.length := by omega
        have hbk : (rows encB1 t.blocks).getD k [] = encB1 (t.blk k) := rows_gd encB1 t.blocks k hk
        have hvb := (blockValid_bd (ht.valid k hk)).2.1
        have hv1 : IntKind.i64.wrap ((t.blk k).view + 1) = (t.blk k).view + 1 := wrap_small _ (by omega) (by omega)
        simp (config := { maxSteps := 4000000 }) only [go_sem, simprocAttr, ↓dnA, Tryz.f103, rows_length, encTF, rd, hd, hwl, e0]
        refine semL_draw tab_ok mixed_ rfl (ord := [(0, []), (1, []), (2, []), (3, []), (4, []), (5, []), (6, []), (7, []), (8, []), (9, []), (13, []), (10, [0, 1, 2, 3, 4, 5, 6, 7, 8, 13]), (11, []), (12, []), (14, [0, 1, 2, 3, 4, 5, 6, 7, 8, 11, 12]), (15, [0, 1, 2, 3, 4, 5, 6, 7, 8, 11, 12]), (16, []), (17, []), (18, []), (19, []), (20, [19])]) (by dsimp only; decide +kernel) ?_
        simp (config := { maxSteps := 4000000 }) only [go_sem, simprocAttr, ↓dnA, Tryz.f103, rows_length, encTF, rd, hd, hwl, e0, nlt hk, hk, nn0, hbk, encB1, encBk, hv1]
        refine CallTo.of (c_spec_pick nb bs (q + 1 + 1) 6 hq1') ?_
        rintro r b ⟨y, rfl, rfl, hy⟩
        have hq2 := h.step (q := (q + 1 + 1) + 1) (by omega) (by omega)
        have hyd : y.tdiv 5 = y / 5 := Int.tdiv_eq_ediv_of_nonneg hy.1
        have hv2 : IntKind.i64.wrap (y.tdiv 5) = y / 5 := by rw [hyd]; exact wrap_small _ (by omega) (by omega)
        have hv3 : IntKind.i64.wrap ((t.blk k).view + 1 + y / 5) = (t.blk k).view + 1 + y / 5 := wrap_small _ (by omega) (by omega)
        simp (config := { maxSteps := 4000000 }) only [go_sem, simprocAttr, ↓dnA, Tryz.f103, rows_length, encTF, rd, hd, hwl, e0, nlt hk, hk, nn0, hbk, encB1, encBk, hv1, hv2, hv3]
        refine CallTo.of (c_spec_l20Action nb bs ((q + 1 + 1) + 1) 0 hq2 (by omega) (by omega)) ?_
        rintro r b ⟨a, q', rfl, rfl, hq3, hq4⟩
        have hgo := growTree_ok ht (k : Int) ((t.blk k).view + 1 + y / 5) [a]
        have hG := c_spec_GrowTree none none none (some true) t (k : Int) ((t.blk k).view + 1 + y / 5) [a] (treeOk_s32 ht) (by simp)
        generalize growTree t (k : Int) ((t.blk k).view + 1 + y / 5) [a] = g at hgo hG
        obtain ⟨g, ok⟩ := g
        dsimp only at hgo hG
        simp (config := { maxSteps := 4000000 }) only [go_sem, simprocAttr, ↓dnA, Tryz.f103, rows_length, encTF, rd, hd, hwl, e0, nlt hk, hk, nn0, hbk, encB1, encBk, hv1, hv2, hv3, encA]
        refine CallTo.det hG fun _ => ?_
        simp (config := { maxSteps := 4000000 }) only [go_sem, simprocAttr, ↓dnA, Tryz.f103, rows_length, encTF, rd, hd, hwl, e0, nlt hk, hk, nn0, hbk, encB1, encBk, hv1, hv2, hv3, encA, hwc]
        refine ⟨(g, c - 1, q'), [(900, 900), (4, 4), (5, 5), (47000, 601), (47001, 602), (47002, 603)], ⟨hgo, by dsimp only; omega, by dsimp only; omega⟩, by dsimp only; omega, Weak.of (by rfl) ?_ ?_ (by rfl)⟩
        · simp (config := { maxSteps := 4000000 }) only [go_sem, simprocAttr, ↓dnA, Tryz.f103, rows_length, rd, encTF, frW, wk2, wk1, wkL, wkB, hpW, List.mem_cons, Prod.mk.injEq, exists_eq_left, exists_eq_right, exists_eq]
        · simp (config := { maxSteps := 4000000 }) only [go_sem, simprocAttr, ↓dnA, Tryz.f103, rows_length, rd, frW, wk2, wk1, wkL, wkB, hpW, List.mem_cons, Prod.mk.injEq, exists_eq_left, exists_eq_right, exists_eq]
      · have e0 : (z == 0) = false := by simp [hz0]
        obtain ⟨k, hkk⟩ : ∃ k : Nat, t.blocks.length - 1 = k := ⟨_, rfl⟩
        rw [hkk] at hwl
        have hk : k < t.blocks.length := by omega
        have hbk : (rows encB1 t.blocks).getD k [] = encB1 (t.blk k) := rows_gd encB1 t.blocks k hk
        have hvb := (blockValid_bd (ht.valid k hk)).2.1
        have hv1 : IntKind.i64.wrap ((t.blk k).view + 1) = (t.blk k).view + 1 := wrap_small _ (by omega) (by omega)
        simp (config := { maxSteps := 4000000 }) only [go_sem, simprocAttr, ↓dnA, Tryz.f103, rows_length, encTF, rd, hd, hwl, e0]
        refine semL_draw tab_ok mixed_ rfl (ord := [(0, []), (1, []), (2, []), (3, []), (4, []), (5, []), (6, []), (7, []), (8, []), (9, []), (13, []), (10, [0, 1, 2, 3, 4, 5, 6, 7, 8, 13]), (11, []), (12, []), (14, [0, 1, 2, 3, 4, 5, 6, 7, 8, 11, 12]), (15, [0, 1, 2, 3, 4, 5, 6, 7, 8, 11, 12]), (16, []), (17, []), (18, []), (19, []), (20, [19])]) (by dsimp only; decide +kernel) ?_
        simp (config := { maxSteps := 4000000 }) only [go_sem, simprocAttr, ↓dnA, Tryz.f103, rows_length, encTF, rd, hd, hwl, e0, nlt hk, hk, nn0, hbk, encB1, encBk, hv1]
        refine CallTo.of (c_spec_pick nb bs (q + 1) 6 hq1) ?_
        rintro r b ⟨y, rfl, rfl, hy⟩
        have hq2 := h.step (q := (q + 1) + 1) (by omega) (by omega)
        have hyd : y.tdiv 5 = y / 5 := Int.tdiv_eq_ediv_of_nonneg hy.1
        have hv2 : IntKind.i64.wrap (y.tdiv 5) = y / 5 := by rw [hyd]; exact wrap_small _ (by omega) (by omega)
        have hv3 : IntKind.i64.wrap ((t.blk k).view + 1 + y / 5) = (t.blk k).view + 1 + y / 5 := wrap_small _ (by omega) (by omega)
        simp (config := { maxSteps := 4000000 }) only [go_sem, simprocAttr, ↓dnA, Tryz.f103, rows_length, encTF, rd, hd, hwl, e0, nlt hk, hk, nn0, hbk, encB1, encBk, hv1, hv2, hv3]
        refine CallTo.of (c_spec_l20Action nb bs ((q + 1) + 1) 0 hq2 (by omega) (by omega)) ?_
        rintro r b ⟨a, q', rfl, rfl, hq3, hq4⟩
        have hgo := growTree_ok ht (k : Int) ((t.blk k).view + 1 + y / 5) [a]
        have hG := c_spec_GrowTree none none none (some true) t (k : Int) ((t.blk k).view + 1 + y / 5) [a] (treeOk_s32 ht) (by simp)
        generalize growTree t (k : Int) ((t.blk k).view + 1 + y / 5) [a] = g at hgo hG
        obtain ⟨g, ok⟩ := g
        dsimp only at hgo hG
        simp (config := { maxSteps := 4000000 }) only [go_sem, simprocAttr, ↓dnA, Tryz.f103, rows_length, encTF, rd, hd, hwl, e0, nlt hk, hk, nn0, hbk, encB1, encBk, hv1, hv2, hv3, encA]
        refine CallTo.det hG fun _ => ?_
        simp (config := { maxSteps := 4000000 }) only [go_sem, simprocAttr, ↓dnA, Tryz.f103, rows_length, encTF, rd, hd, hwl, e0, nlt hk, hk, nn0, hbk, encB1, encBk, hv1, hv2, hv3, encA, hwc]
        refine ⟨(g, c - 1, q'), [(900, 900), (4, 4), (5, 5), (47000, 601), (47001, 602), (47002, 603)], ⟨hgo, by dsimp only; omega, by dsimp only; omega⟩, by dsimp only; omega, Weak.of (by rfl) ?_ ?_ (by rfl)⟩
        · simp (config := { maxSteps := 4000000 }) only [go_sem, simprocAttr, ↓dnA, Tryz.f103, rows_length, rd, encTF, frW, wk2, wk1, wkL, wkB, hpW, List.mem_cons, Prod.mk.injEq, exists_eq_left, exists_eq_right, exists_eq]
        · simp (config := { maxSteps := 4000000 }) only [go_sem, simprocAttr, ↓dnA, Tryz.f103, rows_length, rd, frW, wk2, wk1, wkL, wkB, hpW, List.mem_cons, Prod.mk.injEq, exists_eq_left, exists_eq_right, exists_eq]
    · obtain rfl : c = 0 := by omega
      simp (config := { maxSteps := 4000000 }) only [go_sem, simprocAttr, ↓dnA, Tryz.f103, rows_length, encTF, rd]
      have hts := treeOk_small ht
      by_cases hn0 : n = 0
      · subst hn0
        refine CallTo.of (c_spec_odd0 nb bs q hq) ?_
        rintro r b ⟨rfl, rfl⟩
        simp (config := { maxSteps := 4000000 }) only [go_sem, simprocAttr, ↓dnA, Tryz.f103, rows_length, encTF, rd]
        exact .same ⟨t, q, rfl, rfl, by omega, by omega, hts, by omega, by omega, fun _ => ht⟩
      refine CallTo.of (c_spec_odd nb bs q n hq hn) ?_
      rintro r b ⟨g, q1, rfl, rfl, hq1, hq2⟩
      cases g with
      | false =>
        simp (config := { maxSteps := 4000000 }) only [go_sem, simprocAttr, ↓dnA, Tryz.f103, rows_length, encTF, rd]
        exact .same ⟨t, q1, rfl, rfl, by omega, by omega, hts, by omega, by omega, fun _ => ht⟩
      | true =>
        have hwb : IntKind.i64.wrap ((t.before.length : Int) - 1) = ((t.before.length - 1 : Nat) : Int) := by rw [wrap_small _ (by omega) (by omega)]; omega
        obtain ⟨k, hkk⟩ : ∃ k : Nat, t.before.length - 1 = k := ⟨_, rfl⟩
        rw [hkk] at hwb
        have hkb : k < t.before.length := by omega
        have hrs : (rows encI t.before).set k [.int .i64 (t.before.length : Int)] = rows encI (t.before.set k (t.before.length : Int)) := by rw [← rows_set]; rfl
        simp (config := { maxSteps := 4000000 }) only [go_sem, simprocAttr, ↓dnA, Tryz.f103, rows_length, encTF, rd, hwb, nlt hkb, hkb, nn0, rows_get _ _ _ hkb, encI, spliceL, List.length_set, hrs]
        exact .same ⟨⟨t.base, t.blocks, t.before.set k (t.before.length : Int)⟩, q1, by simp [encTF], rfl, by omega, by omega, by unfold tsz at hts ⊢; simp; omega, by dsimp only; omega, by dsimp only; omega, fun h => absurd h hn0⟩

end Go.Proofs.YthcfafpjkbbaoaaGreat

/- Regions with an operation that waits for none of several calls; pieces of code that lead to one of some states. -/
set_option linter.unusedSimpArgs false
set_option linter.unusedVariables false
set_option maxRecDepth 20000
set_option maxHeartbeats 4000000
namespace Go.Proofs.YthcfafpjkbbaoaaGreat
open Go Go.RowKit

section
variable {P : Program} {T : Tab} {B : Base} {ops : Array Oper}

def rkL (l : List Nat) (i : Nat) : Nat := l.getD i 0

/-- The region with the operation b at its place i beside the operations cs. -/
def slotsOk (T : Tab) (n : Nat) (b : Nat) : List Nat → Array Oper → List (List Nat × List (Nat × List Nat)) → Bool
  | [], ops, [o] => drawOkS (rkL o.1) T ops n o.2
  | c :: r, ops, o :: q => drawOkS (rkL o.1) T (addDep ops c b) n o.2 && slotsOk T n b r (addDep ops b c) q
  | _, _, _ => false
def slotsK (P : Program) (T : Tab) (ops : List Oper) (Φ : AState → Prop) (s : AState) : List (List Nat × List (Nat × List Nat)) → Prop
  | [] => True
  | o :: q => drawK P T ops Φ o.2 s ∧ slotsK P T ops Φ s q

theorem slots_run (hT : TabOk P T) {Kx : Exit → AState → Prop} {X : Ctx} {s : AState} {x : Act} {w : World} {n : Nat} (hn : s.nt = n) (hXB : X.base = B) (hR : R X s x w) (b : Nat) {l : List Nat} : ∀ (cs : List Nat) (ops : Array Oper) (os : List (List Nat × List (Nat × List Nat))),
    (cs.all fun c => b != c) = true → slotsOk T n b cs ops os = true → slotsK P T ops.toList (Kx .normal) s os → ValE ops (Array.replicate ops.size false) l →
    wpOps P ops (fun e a w => Post B (Kx e) a w) l x { w with drawn := w.drawn + 1 }
  | [], ops, [], _, h, _, _ => by cases h
  | [], ops, [o], _, h, hk, hv => by
    have e := draw_start (B := B) (Kx := Kx) hT hn (show drawOkS (rkL o.1) T ops n o.2 = true from h) hXB hR hk.1
    exact val_run _ _ _ _ _ hv e
  | [], ops, _ :: _ :: _, _, h, _, _ => by cases h
  | c :: r, ops, [], _, h, _, _ => by cases h
  | c :: r, ops, o :: q, hb, h, hk, hv => by
    have hb := hb
    rw [List.all_cons, Bool.and_eq_true] at hb
    have hbc : b ≠ c := by simpa using hb.1
    have h : (drawOkS (rkL o.1) T (addDep ops c b) n o.2 && slotsOk T n b r (addDep ops b c) q) = true := h
    rw [Bool.and_eq_true] at h
    obtain ⟨k1, k2⟩ := hk
    have hsz : ∀ (ops : Array Oper) b a, (addDep ops b a).size = ops.size := fun ops b a => by unfold addDep; simp
    have kk : ∀ (os : List (List Nat × List (Nat × List Nat))), slotsK P T ops.toList (Kx .normal) s os → slotsK P T (addDep ops b c).toList (Kx .normal) s os := by
      intro os
      induction os with
      | nil => intro h; exact h
      | cons y z ih => intro h; exact ⟨by rw [drawK_addDep]; exact h.1, ih h.2⟩
    rcases val_two hbc _ _ (by simp) hv with hv | hv
    · have e1 := draw_start (B := B) (Kx := Kx) hT hn h.1 hXB hR (by rw [drawK_addDep]; exact k1)
      rw [hsz] at e1
      exact wpOps_addDep _ _ _ (val_run _ _ _ _ _ hv e1)
    · have hv : ValE (addDep ops b c) (Array.replicate (addDep ops b c).size false) l := by rw [hsz]; exact hv
      exact wpOps_addDep _ _ _ (slots_run hT hn hXB hR b r (addDep ops b c) q hb.2 h.2 (kk q k2) hv)

/-- A region in which the operation b may come at any place beside the operations cs, each of which waits for the one before it. -/
theorem semL_slots (hT : TabOk P T) {Kx : Exit → AState → Prop} {s : AState} {id n : Nat} (b : Nat) (cs : List Nat) {os : List (List Nat × List (Nat × List Nat))} (hm : P.follows .mixedOrders = true) (hn : s.nt = n) (hb : (cs.all fun c => b != c) = true)
    (hk : slotsOk T n b cs ops os = true) (h : slotsK P T ops.toList (Kx .normal) s os) : @SemL P B (.region id ops true) s ⟨Kx⟩ := by
  intro X x w hXB hR
  refine wp_region_draw fun t => ?_
  simp only [Region.schedule, hm, Bool.true_or, if_true]
  have hv := go_val (ops := ops) ops.size t (Array.replicate ops.size false) (by simp) (by
    rw [Array.toList_replicate]
    generalize ops.size = m
    induction m with
    | zero => exact Nat.le_refl _
    | succ m ih => rw [List.replicate_succ]; simp only [cntF]; simp; omega)
  exact slots_run hT hn hXB hR b cs ops os hb hk h hv

/-- A piece of code that leads to one of some states. -/
def MidN {ι : Type} (st : ι → AState) (I : ι → Prop) (s : AState) : Prop := ∃ i ρ, I i ∧ Weak ρ s (st i)
theorem semL_mid {P : Program} {B : Base} {c : Code} {s : AState} {Kx : Exit → AState → Prop} {ι : Type} (st : ι → AState) (I : ι → Prop) (h : @SemL P B c s ⟨fun e s' => e = .normal ∧ MidN st I s'⟩) (h2 : ∀ i, I i → Kx .normal (st i)) : @SemL P B c s ⟨Kx⟩ := by
  intro X a w hB hR
  refine wp_mono (h X a w hB hR) ?_
  rintro e a' w' ⟨X', s', h1, h2', rfl, i, ρ, hi, hw⟩
  obtain ⟨X2, h3, h4⟩ := Ghost.weak hw X' a' w' h2'
  exact ⟨X2, st i, h3.trans h1, h4, h2 i hi⟩
/-- Nested values of an own row may be read as immutable ones. -/
theorem Ghost.disown {s : AState} (id : Nat) {nn : Bool} {sz : Nat} {es : List (List AV)} (hb : s.blk id = .row true nn sz es) : Ghost s { s with hp := (id, .row false nn sz es) :: s.hp } := fun X a w h => by
  obtain ⟨X', h1, _, _, h2⟩ := h.disown hb
  exact ⟨X', h1, h2⟩
end

end Go.Proofs.YthcfafpjkbbaoaaGreat

/- Contracts: drawn trees. -/
set_option linter.unusedSimpArgs false
set_option linter.unusedVariables false
set_option maxRecDepth 20000
set_option maxHeartbeats 4000000
namespace Go.Proofs.YthcfafpjkbbaoaaGreat
open Go Go.RowKit

theorem putBlock_le {t : Tree} (ht : TreeOk t) (b : Block) : t.blocks.length ≤ (putBlock t b).1.blocks.length := by
  unfold putBlock
  rw [if_pos (treeValid_true ht)]
  split
  · show _ ≤ (putT t b).blocks.length
    simp [putT]
  · exact Nat.le_refl _
theorem growTree_le {t : Tree} (ht : TreeOk t) (n v : Int) (l : List Action) : t.blocks.length ≤ (growTree t n v l).1.blocks.length := by
  unfold growTree
  rw [if_pos (treeValid_true ht)]
  split
  · split
    · exact putBlock_le ht _
    · exact Nat.le_refl _
  · exact Nat.le_refl _

theorem storeOf_le (t : Tree) (n : Int) : (storeOf t n).length ≤ 32 := by
  unfold storeOf
  split
  · rename_i h
    rw [Bool.and_eq_true] at h
    have hn := inB_iff.1 h.2
    exact store_len (storeL_valid (afterV_ok (treeOk_of h.1) (n := n) (by omega)))
  · simp

theorem lsum_set : ∀ (bs : List Block) (k : Nat) (b : Block) (h : k < bs.length), b.list.length = (bs[k]'h).list.length → lsum (bs.set k b) = lsum bs
  | c :: r, 0, b, h, e => by
    show b.list.length + lsum r = c.list.length + lsum r
    rw [e]; rfl
  | c :: r, k + 1, b, h, e => by
    show c.list.length + lsum (r.set k b) = c.list.length + lsum r
    rw [lsum_set r k b (by simpa using h) (by simpa using e)]

def encTM (t : Tree) : List AV := [.osl false 2 (rows encE t.base), .sl none (rows encB1 t.blocks), .osl false 1 (rows encI t.before)]
def TreeQ (nb : Option Bool) (bs : List Int) (p : Int) (r : AV) (b : List AV) : Prop := ∃ (t : Tree) (q : Int), r = .agg (encTM t) ∧ b = rd nb bs q ∧ p ≤ q ∧ q ≤ p + 5000 ∧ tsz t ≤ 300 ∧ 1 ≤ t.blocks.length ∧ t.blocks.length ≤ 14

theorem c_spec_l20Tree (nb : Option Bool) (bs : List Int) (p n : Int) (h : RdOk bs p) (hp : p ≤ 999980000) (hn : 0 ≤ n ∧ n ≤ 1000000) : FSpec Tryz.prog 65 [.loc 0 0, .int .i64 n] true (rd nb bs p) (TreeQ nb bs p) := by
  refine fspec_rel tab_ok Tryz.call65 Tryz.func65 rfl 137 Tryz.ntmps65 (of_decide_eq_true rfl) fun B => codeK_sound tab_ok _ _ _ ?_
  unfold rd
  simp (config := { maxSteps := 4000000 }) only [go_sem, simprocAttr, ↓dnA, Tryz.f65, rows_length]
  refine CallTo.of (c_spec_l20Store0 nb bs p h (by omega)) ?_
  rintro r b ⟨s, p1, rfl, rfl, hp1, hp2, hsv⟩
  unfold rd
  simp (config := { maxSteps := 4000000 }) only [go_sem, simprocAttr, ↓dnA, Tryz.f65, rows_length]
  refine CallTo.det (c_spec_TreeOf _ s hsv) fun _ => ?_
  have ht0 := treeOf_ok hsv
  generalize treeOf s = t0 at ht0
  have hr1 := h.step (q := p1) (by omega) (by omega)
  simp (config := { maxSteps := 4000000 }) only [go_sem, simprocAttr, ↓dnA, Tryz.f65, rows_length, encTF]
  refine CallTo.of (c_spec_pick nb bs p1 8 hr1) ?_
  rintro r b ⟨x, rfl, rfl, hx⟩
  unfold rd
  simp (config := { maxSteps := 4000000 }) only [go_sem, simprocAttr, ↓dnA, Tryz.f65, rows_length, encTF]
  obtain ⟨c0, rfl⟩ : ∃ c0 : Nat, x = (c0 : Int) := ⟨x.toNat, by omega⟩
  refine semL_ghostX ?_
  refine semL_for tab_ok (fun s : Tree × Nat × Int × Bool => ⟨137, [(0, .loc 900 0), (1, .int .i64 n), (4, .loc 4 0), (5, .loc 5 0), (6, .int .i64 s.2.1)],
      [(900, .var (rd nb bs s.2.2.1)), (4, .var [.sl (some false) [], .sl (some false) [], .sl (some false) []]), (5, .var [.row 601 s.1.base.length, .row 602 s.1.blocks.length, .row 603 s.1.before.length]),
        (601, .row true false 2 (rows encE s.1.base)), (602, .row s.2.2.2 false 6 (rows encB1 s.1.blocks)), (603, .row true false 1 (rows encI s.1.before))]⟩) (fun s => s.2.1)
    (fun s => TreeOk s.1 ∧ p1 + 1 ≤ s.2.2.1 ∧ s.2.2.1 + 500 * s.2.1 ≤ p1 + 3501) (t0, c0, p1 + 1, true) [(900, 900), (4, 4), (5, 5), (15000, 601), (15001, 602), (15002, 603)] (Weak.of (by rfl) ?_ ?_ (by rfl)) ⟨ht0, by dsimp only; omega, by dsimp only; omega⟩ ?_
  · simp (config := { maxSteps := 4000000 }) only [go_sem, simprocAttr, ↓dnA, Tryz.f65, rows_length, rd, encTF, frW, wk2, wk1, wkL, wkB, hpW, List.mem_cons, Prod.mk.injEq, exists_eq_left, exists_eq_right, exists_eq]
    try rfl
  · simp (config := { maxSteps := 4000000 }) only [go_sem, simprocAttr, ↓dnA, Tryz.f65, rows_length, rd, frW, wk2, wk1, wkL, wkB, hpW, List.mem_cons, Prod.mk.injEq, exists_eq_left, exists_eq_right, exists_eq]
    try rfl
  · rintro ⟨t, c, q, o⟩ ⟨ht, i2, i3⟩
    dsimp only at ht i2 i3 ⊢
    have hq := h.step (q := q) (by omega) (by omega)
    have hlen := ht.len
    have hbf := ht.bef
    by_cases hc : 0 < c
    · have hd : decide ((c : Int) > 0) = true := by simp; omega
      have hwc : IntKind.i64.wrap ((c : Int) - 1) = ((c - 1 : Nat) : Int) := by rw [wrap_small _ (by omega) (by omega)]; omega
      have hwl : IntKind.i64.wrap ((t.blocks.length : Int) - 1) = ((t.blocks.length - 1 : Nat) : Int) := by rw [wrap_small _ (by omega) (by omega)]; omega
      simp (config := { maxSteps := 4000000 }) only [go_sem, simprocAttr, ↓dnA, Tryz.f65, rows_length, encTF, rd, hd, hwl]
      refine semL_ghost (t := ⟨137, [(0, .loc 900 0), (1, .int .i64 n), (4, .loc 4 0), (5, .loc 5 0), (6, .int .i64 c)],
        [(900, .var (rd nb bs q)), (4, .var [.sl (some false) [], .sl (some false) [], .sl (some false) []]), (5, .var [.row 601 t.base.length, .row 602 t.blocks.length, .row 603 t.before.length]),
        (601, .row true false 2 (rows encE t.base)), (602, .row false false 6 (rows encB1 t.blocks)), (603, .row true false 1 (rows encI t.before))]⟩) ?_ ?_
      · cases o with
        | false =>
          refine Ghost.weak (ρ := [(900, 900), (4, 4), (5, 5), (601, 601), (602, 602), (603, 603)]) (Weak.of (by rfl) ?_ ?_ (by rfl))
          · simp (config := { maxSteps := 4000000 }) only [go_sem, simprocAttr, ↓dnA, Tryz.f65, rows_length, rd, encTF, frW, wk2, wk1, wkL, wkB, hpW, List.mem_cons, Prod.mk.injEq, exists_eq_left, exists_eq_right, exists_eq]
            try rfl
          · simp (config := { maxSteps := 4000000 }) only [go_sem, simprocAttr, ↓dnA, Tryz.f65, rows_length, rd, frW, wk2, wk1, wkL, wkB, hpW, List.mem_cons, Prod.mk.injEq, exists_eq_left, exists_eq_right, exists_eq]
            try rfl
        | true =>
          refine (Ghost.disown 602 (nn := false) (sz := 6) (es := rows encB1 t.blocks) (by rfl)).trans (Ghost.weak (ρ := [(900, 900), (4, 4), (5, 5), (601, 601), (602, 602), (603, 603)]) (Weak.of (by rfl) ?_ ?_ (by rfl)))
          · simp (config := { maxSteps := 4000000 }) only [go_sem, simprocAttr, ↓dnA, Tryz.f65, rows_length, rd, encTF, frW, wk2, wk1, wkL, wkB, hpW, List.mem_cons, Prod.mk.injEq, exists_eq_left, exists_eq_right, exists_eq]
            try rfl
          · simp (config := { maxSteps := 4000000 }) only [go_sem, simprocAttr, ↓dnA, Tryz.f65, rows_length, rd, frW, wk2, wk1, wkL, wkB, hpW, List.mem_cons, Prod.mk.injEq, exists_eq_left, exists_eq_right, exists_eq]
            try rfl
      refine semL_mid (fun a : Nat × Int => ⟨137, [(0, .loc 900 0), (1, .int .i64 n), (4, .loc 4 0), (5, .loc 5 0), (6, .int .i64 c), (7, .int .i64 (a.1 : Nat))],
        [(900, .var (rd nb bs a.2)), (4, .var [.sl (some false) [], .sl (some false) [], .sl (some false) []]), (5, .var [.row 601 t.base.length, .row 602 t.blocks.length, .row 603 t.before.length]),
        (601, .row true false 2 (rows encE t.base)), (602, .row false false 6 (rows encB1 t.blocks)), (603, .row true false 1 (rows encI t.before))]⟩) (fun a => a.1 < t.blocks.length ∧ q ≤ a.2 ∧ a.2 ≤ q + 2) ?_ ?_
      · refine semL_two' tab_ok 9 11 mixed_ rfl (by decide) (ord1 := [(0, []), (1, []), (2, []), (3, []), (4, []), (5, []), (6, []), (7, []), (10, []), (8, [0, 1, 2, 3, 10]), (9, [10]), (11, []), (12, []), (13, []), (14, []), (15, [])]) (ord2 := [(0, []), (1, []), (2, []), (3, []), (4, []), (5, []), (6, []), (7, []), (10, []), (8, [0, 1, 2, 3, 10]), (11, [0, 1, 2, 3]), (12, []), (9, [12]), (13, []), (14, []), (15, [])]) (by dsimp only; decide +kernel) (by dsimp only; decide +kernel) ?_
        refine ⟨?_, ?_⟩
        all_goals
          simp (config := { maxSteps := 4000000 }) only [go_sem, simprocAttr, ↓dnA, Tryz.f65, rows_length, encTF, rd, hd, hwl]
          refine CallTo.of (c_spec_pick nb bs q (t.blocks.length : Int) hq) ?_
          rintro r b ⟨m, rfl, rfl, hm⟩
          have hq1 := h.step (q := q + 1) (by omega) (by omega)
          obtain ⟨m, rfl⟩ : ∃ k : Nat, m = (k : Int) := ⟨m.toNat, by omega⟩
          simp (config := { maxSteps := 4000000 }) only [go_sem, simprocAttr, ↓dnA, Tryz.f65, rows_length, encTF, rd, hd, hwl]
          refine CallTo.of (c_spec_pick nb bs (q + 1) 4 hq1) ?_
          rintro r b ⟨x, rfl, rfl, hx⟩
          have hx3 : x.tdiv 3 = 0 ∨ x.tdiv 3 = 1 := by rw [Int.tdiv_eq_ediv_of_nonneg hx.1]; omega
          rcases hx3 with e | e
          · simp (config := { maxSteps := 4000000 }) only [go_sem, simprocAttr, ↓dnA, Tryz.f65, rows_length, encTF, rd, hd, hwl, e, wr0, wr1, tn0, tn1]
            refine ⟨(t.blocks.length - 1, q + 1 + 1), [(900, 900), (4, 4), (5, 5), (601, 601), (602, 602), (603, 603)], ⟨by dsimp only; omega, by dsimp only; omega, by dsimp only; omega⟩, Weak.of (by rfl) ?_ ?_ (by rfl)⟩
            · simp (config := { maxSteps := 4000000 }) only [go_sem, simprocAttr, ↓dnA, Tryz.f65, rows_length, rd, encTF, frW, wk2, wk1, wkL, wkB, hpW, List.mem_cons, Prod.mk.injEq, exists_eq_left, exists_eq_right, exists_eq]
              try rfl
            · simp (config := { maxSteps := 4000000 }) only [go_sem, simprocAttr, ↓dnA, Tryz.f65, rows_length, rd, frW, wk2, wk1, wkL, wkB, hpW, List.mem_cons, Prod.mk.injEq, exists_eq_left, exists_eq_right, exists_eq]
              try rfl
          · simp (config := { maxSteps := 4000000 }) only [go_sem, simprocAttr, ↓dnA, Tryz.f65, rows_length, encTF, rd, hd, hwl, e, wr0, wr1, tn0, tn1]
            refine ⟨(m, q + 1 + 1), [(900, 900), (4, 4), (5, 5), (601, 601), (602, 602), (603, 603)], ⟨by dsimp only; omega, by dsimp only; omega, by dsimp only; omega⟩, Weak.of (by rfl) ?_ ?_ (by rfl)⟩
            · simp (config := { maxSteps := 4000000 }) only [go_sem, simprocAttr, ↓dnA, Tryz.f65, rows_length, rd, encTF, frW, wk2, wk1, wkL, wkB, hpW, List.mem_cons, Prod.mk.injEq, exists_eq_left, exists_eq_right, exists_eq]
              try rfl
            · simp (config := { maxSteps := 4000000 }) only [go_sem, simprocAttr, ↓dnA, Tryz.f65, rows_length, rd, frW, wk2, wk1, wkL, wkB, hpW, List.mem_cons, Prod.mk.injEq, exists_eq_left, exists_eq_right, exists_eq]
              try rfl
      rintro ⟨k, q2⟩ ⟨hk, hq2, hq2'⟩
      dsimp only at hk hq2 hq2' ⊢
      have hbk : (rows encB1 t.blocks).getD k [] = encB1 (t.blk k) := rows_gd encB1 t.blocks k hk
      have hr2 := h.step (q := q2) (by omega) (by omega)
      simp (config := { maxSteps := 4000000 }) only [go_sem, simprocAttr, ↓dnA, Tryz.f65, rows_length, encTF, rd, hd, hwl]
      refine semL_mid (fun a : Int × Int => ⟨137, [(0, .loc 900 0), (1, .int .i64 n), (4, .loc 4 0), (5, .loc 5 0), (6, .int .i64 c), (7, .int .i64 k), (8, .int .i64 a.1)],
        [(900, .var (rd nb bs a.2)), (4, .var [.sl (some false) [], .sl (some false) [], .sl (some false) []]), (5, .var [.row 601 t.base.length, .row 602 t.blocks.length, .row 603 t.before.length]),
        (601, .row true false 2 (rows encE t.base)), (602, .row false false 6 (rows encB1 t.blocks)), (603, .row true false 1 (rows encI t.before))]⟩) (fun a => q2 ≤ a.2 ∧ a.2 ≤ q2 + 1) ?_ ?_
      · refine semL_two' tab_ok 6 8 mixed_ rfl (by decide) (ord1 := [(0, []), (1, []), (2, []), (3, []), (4, []), (5, []), (7, []), (6, [0, 1, 2, 3, 4, 5, 7]), (8, [0, 1, 2, 3, 4, 5]), (9, []), (10, []), (11, []), (12, [])]) (ord2 := [(0, []), (1, []), (2, []), (3, []), (4, []), (5, []), (7, []), (8, [0, 1, 2, 3, 4, 5]), (6, [0, 1, 2, 3, 4, 5]), (9, []), (10, []), (11, []), (12, [])]) (by dsimp only; decide +kernel) (by dsimp only; decide +kernel) ?_
        refine ⟨?_, ?_⟩
        all_goals
          simp (config := { maxSteps := 4000000 }) only [go_sem, simprocAttr, ↓dnA, Tryz.f65, rows_length, encTF, rd, hd, hwl, nlt hk, hk, nn0, hbk, encB1, encBk]
          refine CallTo.of (c_spec_pick nb bs q2 4 hr2) ?_
          rintro r b ⟨x, rfl, rfl, hx⟩
          have hx4 : x = 0 ∨ x = 1 ∨ x = 2 ∨ x = 3 := by omega
          rcases hx4 with rfl | rfl | rfl | rfl
          · simp (config := { maxSteps := 4000000 }) only [go_sem, simprocAttr, ↓dnA, Tryz.f65, rows_length, encTF, rd, hd, hwl, nlt hk, hk, nn0, hbk, encB1, encBk, tn0, tn1, tn2, tn3]
            refine ⟨(IntKind.i64.wrap ((t.blk k).view + 1), q2 + 1), [(900, 900), (4, 4), (5, 5), (601, 601), (602, 602), (603, 603)], ⟨by dsimp only; omega, by dsimp only; omega⟩, Weak.of (by rfl) ?_ ?_ (by rfl)⟩
            · simp (config := { maxSteps := 4000000 }) only [go_sem, simprocAttr, ↓dnA, Tryz.f65, rows_length, rd, encTF, frW, wk2, wk1, wkL, wkB, hpW, List.mem_cons, Prod.mk.injEq, exists_eq_left, exists_eq_right, exists_eq]
              try rfl
            · simp (config := { maxSteps := 4000000 }) only [go_sem, simprocAttr, ↓dnA, Tryz.f65, rows_length, rd, frW, wk2, wk1, wkL, wkB, hpW, List.mem_cons, Prod.mk.injEq, exists_eq_left, exists_eq_right, exists_eq]
              try rfl
          · simp (config := { maxSteps := 4000000 }) only [go_sem, simprocAttr, ↓dnA, Tryz.f65, rows_length, encTF, rd, hd, hwl, nlt hk, hk, nn0, hbk, encB1, encBk, tn0, tn1, tn2, tn3]
            refine ⟨(IntKind.i64.wrap ((t.blk k).view + 1), q2 + 1), [(900, 900), (4, 4), (5, 5), (601, 601), (602, 602), (603, 603)], ⟨by dsimp only; omega, by dsimp only; omega⟩, Weak.of (by rfl) ?_ ?_ (by rfl)⟩
            · simp (config := { maxSteps := 4000000 }) only [go_sem, simprocAttr, ↓dnA, Tryz.f65, rows_length, rd, encTF, frW, wk2, wk1, wkL, wkB, hpW, List.mem_cons, Prod.mk.injEq, exists_eq_left, exists_eq_right, exists_eq]
              try rfl
            · simp (config := { maxSteps := 4000000 }) only [go_sem, simprocAttr, ↓dnA, Tryz.f65, rows_length, rd, frW, wk2, wk1, wkL, wkB, hpW, List.mem_cons, Prod.mk.injEq, exists_eq_left, exists_eq_right, exists_eq]
              try rfl
          · simp (config := { maxSteps := 4000000 }) only [go_sem, simprocAttr, ↓dnA, Tryz.f65, rows_length, encTF, rd, hd, hwl, nlt hk, hk, nn0, hbk, encB1, encBk, tn0, tn1, tn2, tn3]
            refine ⟨(IntKind.i64.wrap ((t.blk k).view + 1), q2 + 1), [(900, 900), (4, 4), (5, 5), (601, 601), (602, 602), (603, 603)], ⟨by dsimp only; omega, by dsimp only; omega⟩, Weak.of (by rfl) ?_ ?_ (by rfl)⟩
            · simp (config := { maxSteps := 4000000 }) only [go_sem, simprocAttr, ↓dnA, Tryz.f65, rows_length, rd, encTF, frW, wk2, wk1, wkL, wkB, hpW, List.mem_cons, Prod.mk.injEq, exists_eq_left, exists_eq_right, exists_eq]
              try rfl
            · simp (config := { maxSteps := 4000000 }) only [go_sem, simprocAttr, ↓dnA, Tryz.f65, rows_length, rd, frW, wk2, wk1, wkL, wkB, hpW, List.mem_cons, Prod.mk.injEq, exists_eq_left, exists_eq_right, exists_eq]
              try rfl
          · simp (config := { maxSteps := 4000000 }) only [go_sem, simprocAttr, ↓dnA, Tryz.f65, rows_length, encTF, rd, hd, hwl, nlt hk, hk, nn0, hbk, encB1, encBk, tn0, tn1, tn2, tn3]
            refine ⟨(IntKind.i64.wrap ((t.blk k).view + 2), q2 + 1), [(900, 900), (4, 4), (5, 5), (601, 601), (602, 602), (603, 603)], ⟨by dsimp only; omega, by dsimp only; omega⟩, Weak.of (by rfl) ?_ ?_ (by rfl)⟩
            · simp (config := { maxSteps := 4000000 }) only [go_sem, simprocAttr, ↓dnA, Tryz.f65, rows_length, rd, encTF, frW, wk2, wk1, wkL, wkB, hpW, List.mem_cons, Prod.mk.injEq, exists_eq_left, exists_eq_right, exists_eq]
              try rfl
            · simp (config := { maxSteps := 4000000 }) only [go_sem, simprocAttr, ↓dnA, Tryz.f65, rows_length, rd, frW, wk2, wk1, wkL, wkB, hpW, List.mem_cons, Prod.mk.injEq, exists_eq_left, exists_eq_right, exists_eq]
              try rfl
      rintro ⟨v, q3⟩ ⟨hq3, hq3'⟩
      dsimp only at hq3 hq3' ⊢
      have hr3 := h.step (q := q3) (by omega) (by omega)
      simp (config := { maxSteps := 4000000 }) only [go_sem, simprocAttr, ↓dnA, Tryz.f65, rows_length, encTF, rd, hd, hwl]
      refine semL_draw tab_ok mixed_ rfl (ord := [(0, []), (1, []), (2, []), (3, []), (4, [0, 1, 2]), (5, []), (6, []), (7, []), (8, []), (9, [8])]) (by dsimp only; decide +kernel) ?_
      simp (config := { maxSteps := 4000000 }) only [go_sem, simprocAttr, ↓dnA, Tryz.f65, rows_length, encTF, rd, hd, hwl]
      refine CallTo.of (c_spec_l20Actions nb bs q3 0 hr3 (by omega) (by omega)) ?_
      rintro r b ⟨l, q4, rfl, rfl, hq4, hq4', hll⟩
      have hr4 := h.step (q := q4) (by omega) (by omega)
      have hgo := growTree_ok ht (k : Int) v l
      have hgl := growTree_le ht (k : Int) v l
      have hG := c_spec_GrowTree none none none (some true) t (k : Int) v l (treeOk_s32 ht) (by omega)
      generalize growTree t (k : Int) v l = g at hgo hG hgl
      obtain ⟨g, ok⟩ := g
      dsimp only at hgo hG hgl
      simp (config := { maxSteps := 4000000 }) only [go_sem, simprocAttr, ↓dnA, Tryz.f65, rows_length, encTF, rd, hd, hwl]
      refine CallTo.det hG fun _ => ?_
      simp (config := { maxSteps := 4000000 }) only [go_sem, simprocAttr, ↓dnA, Tryz.f65, rows_length, encTF, rd, hd, hwl]
      refine CallTo.of (c_spec_odd nb bs q4 9 hr4 (by omega)) ?_
      rintro r b ⟨gg, q5, rfl, rfl, hq5, hq5'⟩
      have hr5 := h.step (q := q5) (by omega) (by omega)
      cases gg with
      | false =>
        simp (config := { maxSteps := 4000000 }) only [go_sem, simprocAttr, ↓dnA, Tryz.f65, rows_length, encTF, rd, hd, hwl, hwc]
        refine ⟨(g, c - 1, q5, true), [(900, 900), (4, 4), (5, 5), (55000, 601), (55001, 602), (55002, 603)], ⟨hgo, by dsimp only; omega, by dsimp only; omega⟩, by dsimp only; omega, Weak.of (by rfl) ?_ ?_ (by rfl)⟩
        · simp (config := { maxSteps := 4000000 }) only [go_sem, simprocAttr, ↓dnA, Tryz.f65, rows_length, rd, encTF, frW, wk2, wk1, wkL, wkB, hpW, List.mem_cons, Prod.mk.injEq, exists_eq_left, exists_eq_right, exists_eq]
          try rfl
        · simp (config := { maxSteps := 4000000 }) only [go_sem, simprocAttr, ↓dnA, Tryz.f65, rows_length, rd, frW, wk2, wk1, wkL, wkB, hpW, List.mem_cons, Prod.mk.injEq, exists_eq_left, exists_eq_right, exists_eq]
          try rfl
      | true =>
        by_cases hg1 : 1 < g.blocks.length
        · have hdl : decide ((g.blocks.length : Int) > 1) = true := by simp; omega
          have hkg : k < g.blocks.length := by omega
          have hbg : (rows encB1 g.blocks).getD k [] = encB1 (g.blk k) := rows_gd encB1 g.blocks k hkg
          have hsl := storeOf_le g (k : Int)
          have hll2 := (blk_acts hgo hkg).2.1
          have hS := c_spec_StoreOf none none none g (k : Int) (treeOk_s32 hgo)
          generalize storeOf g (k : Int) = so at hsl hS
          simp (config := { maxSteps := 4000000 }) only [go_sem, simprocAttr, ↓dnA, Tryz.f65, rows_length, encTF, rd, hd, hwl, hdl]
          refine semL_ghost (Ghost.disown 55001 (nn := false) (sz := 6) (es := rows encB1 g.blocks) (by rfl)) ?_
          refine semL_draw tab_ok mixed_ rfl (ord := [(0, []), (1, []), (2, []), (3, []), (4, []), (5, []), (6, []), (8, []), (9, []), (7, [0, 1, 2, 3, 4, 8, 9]), (10, [0, 1, 2, 3, 4, 8]), (11, []), (12, []), (13, []), (14, []), (15, [0, 1, 2, 3, 4, 5, 6, 8, 9, 12, 13, 14]), (16, [14]), (17, [])]) (by dsimp only; decide +kernel) ?_
          simp (config := { maxSteps := 4000000 }) only [go_sem, simprocAttr, ↓dnA, Tryz.f65, rows_length, encTF, rd, hd, hwl, hdl, nlt hkg, hkg, nn0, hbg, encB1, encBk]
          refine CallTo.det hS fun _ => ?_
          simp (config := { maxSteps := 4000000 }) only [go_sem, simprocAttr, ↓dnA, Tryz.f65, rows_length, encTF, rd, hd, hwl, hdl, nlt hkg, hkg, nn0, hbg, encB1, encBk]
          refine CallTo.of (c_spec_l20Actions nb bs q5 0 hr5 (by omega) (by omega)) ?_
          rintro r b ⟨l2, q6, rfl, rfl, hq6, hq6', hl2⟩
          have hr6 := h.step (q := q6) (by omega) (by omega)
          have hN := c_spec_NextBlock none none (some true) (g.blk k) so v l2 (by omega) (by omega) (by omega)
          have hNl := nextBlock_len (g.blk k) so v l2
          generalize nextBlock (g.blk k) so v l2 = x at hN hNl
          obtain ⟨x, ok2⟩ := x
          dsimp only at hN hNl
          simp (config := { maxSteps := 4000000 }) only [go_sem, simprocAttr, ↓dnA, Tryz.f65, rows_length, encTF, rd, hd, hwl, hdl, nlt hkg, hkg, nn0, hbg, encB1, encBk]
          refine CallTo.det hN fun _ => ?_
          cases ok2 with
          | false =>
            simp (config := { maxSteps := 4000000 }) only [go_sem, simprocAttr, ↓dnA, Tryz.f65, rows_length, encTF, rd, hd, hwl, hdl, nlt hkg, hkg, nn0, hbg, encB1, encBk, encBkF, hwc]
            refine ⟨(g, c - 1, q6, false), [(900, 900), (4, 4), (5, 5), (55000, 601), (55001, 602), (55002, 603)], ⟨hgo, by dsimp only; omega, by dsimp only; omega⟩, by dsimp only; omega, Weak.of (by rfl) ?_ ?_ (by rfl)⟩
            · simp (config := { maxSteps := 4000000 }) only [go_sem, simprocAttr, ↓dnA, Tryz.f65, rows_length, rd, encTF, frW, wk2, wk1, wkL, wkB, hpW, List.mem_cons, Prod.mk.injEq, exists_eq_left, exists_eq_right, exists_eq]
              try rfl
            · simp (config := { maxSteps := 4000000 }) only [go_sem, simprocAttr, ↓dnA, Tryz.f65, rows_length, rd, frW, wk2, wk1, wkL, wkB, hpW, List.mem_cons, Prod.mk.injEq, exists_eq_left, exists_eq_right, exists_eq]
              try rfl
          | true =>
            simp (config := { maxSteps := 4000000 }) only [go_sem, simprocAttr, ↓dnA, Tryz.f65, rows_length, encTF, rd, hd, hwl, hdl, nlt hkg, hkg, nn0, hbg, encB1, encBk, encBkF]
            refine CallTo.of (c_spec_pick nb bs q6 256 hr6) ?_
            rintro r b ⟨z, rfl, rfl, hz⟩
            have hpo := putBlock_ok hgo ⟨x.before, x.height, x.view, x.list, z, x.effects⟩
            have hP := c_spec_PutBlock none none none none g ⟨x.before, x.height, x.view, x.list, z, x.effects⟩ (treeOk_s32 hgo) (by dsimp only; omega)
            generalize putBlock g ⟨x.before, x.height, x.view, x.list, z, x.effects⟩ = y at hP hpo
            obtain ⟨y, ok3⟩ := y
            dsimp only at hP hpo
            simp (config := { maxSteps := 4000000 }) only [go_sem, simprocAttr, ↓dnA, Tryz.f65, rows_length, encTF, rd, hd, hwl, hdl, nlt hkg, hkg, nn0, hbg, encB1, encBk, encBkF]
            refine CallTo.det hP fun _ => ?_
            simp (config := { maxSteps := 4000000 }) only [go_sem, simprocAttr, ↓dnA, Tryz.f65, rows_length, encTF, rd, hd, hwl, hdl, nlt hkg, hkg, nn0, hbg, encB1, encBk, encBkF, hwc]
            refine ⟨(y, c - 1, q6 + 1, true), [(900, 900), (4, 4), (5, 5), (88000, 601), (88001, 602), (88002, 603)], ⟨hpo, by dsimp only; omega, by dsimp only; omega⟩, by dsimp only; omega, Weak.of (by rfl) ?_ ?_ (by rfl)⟩
            · simp (config := { maxSteps := 4000000 }) only [go_sem, simprocAttr, ↓dnA, Tryz.f65, rows_length, rd, encTF, frW, wk2, wk1, wkL, wkB, hpW, List.mem_cons, Prod.mk.injEq, exists_eq_left, exists_eq_right, exists_eq]
              try rfl
            · simp (config := { maxSteps := 4000000 }) only [go_sem, simprocAttr, ↓dnA, Tryz.f65, rows_length, rd, frW, wk2, wk1, wkL, wkB, hpW, List.mem_cons, Prod.mk.injEq, exists_eq_left, exists_eq_right, exists_eq]
              try rfl
        · have hdl : decide ((g.blocks.length : Int) > 1) = false := by simp; omega
          simp (config := { maxSteps := 4000000 }) only [go_sem, simprocAttr, ↓dnA, Tryz.f65, rows_length, encTF, rd, hd, hwl, hdl, hwc]
          refine ⟨(g, c - 1, q5, true), [(900, 900), (4, 4), (5, 5), (55000, 601), (55001, 602), (55002, 603)], ⟨hgo, by dsimp only; omega, by dsimp only; omega⟩, by dsimp only; omega, Weak.of (by rfl) ?_ ?_ (by rfl)⟩
          · simp (config := { maxSteps := 4000000 }) only [go_sem, simprocAttr, ↓dnA, Tryz.f65, rows_length, rd, encTF, frW, wk2, wk1, wkL, wkB, hpW, List.mem_cons, Prod.mk.injEq, exists_eq_left, exists_eq_right, exists_eq]
            try rfl
          · simp (config := { maxSteps := 4000000 }) only [go_sem, simprocAttr, ↓dnA, Tryz.f65, rows_length, rd, frW, wk2, wk1, wkL, wkB, hpW, List.mem_cons, Prod.mk.injEq, exists_eq_left, exists_eq_right, exists_eq]
            try rfl
    · obtain rfl : c = 0 := by omega
      have hts := treeOk_small ht
      simp (config := { maxSteps := 4000000 }) only [go_sem, simprocAttr, ↓dnA, Tryz.f65, rows_length, encTF, rd]
      refine GhostK.go (⟨137, [(0, .loc 900 0), (1, .int .i64 n), (4, .loc 4 0), (5, .loc 5 0)],
        [(900, .var (rd nb bs q)), (4, .var [.sl (some false) [], .sl (some false) [], .sl (some false) []]), (5, .var [.row 601 t.base.length, .row 602 t.blocks.length, .row 603 t.before.length]),
        (601, .row true false 2 (rows encE t.base)), (602, .row false false 6 (rows encB1 t.blocks)), (603, .row true false 1 (rows encI t.before))]⟩) ?_ ?_
      · cases o with
        | false =>
          refine Ghost.weak (ρ := [(900, 900), (4, 4), (5, 5), (601, 601), (602, 602), (603, 603)]) (Weak.of (by rfl) ?_ ?_ (by rfl))
          · simp (config := { maxSteps := 4000000 }) only [go_sem, simprocAttr, ↓dnA, Tryz.f65, rows_length, rd, encTF, frW, wk2, wk1, wkL, wkB, hpW, List.mem_cons, Prod.mk.injEq, exists_eq_left, exists_eq_right, exists_eq]
            try rfl
          · simp (config := { maxSteps := 4000000 }) only [go_sem, simprocAttr, ↓dnA, Tryz.f65, rows_length, rd, frW, wk2, wk1, wkL, wkB, hpW, List.mem_cons, Prod.mk.injEq, exists_eq_left, exists_eq_right, exists_eq]
            try rfl
        | true =>
          refine (Ghost.disown 602 (nn := false) (sz := 6) (es := rows encB1 t.blocks) (by rfl)).trans (Ghost.weak (ρ := [(900, 900), (4, 4), (5, 5), (601, 601), (602, 602), (603, 603)]) (Weak.of (by rfl) ?_ ?_ (by rfl)))
          · simp (config := { maxSteps := 4000000 }) only [go_sem, simprocAttr, ↓dnA, Tryz.f65, rows_length, rd, encTF, frW, wk2, wk1, wkL, wkB, hpW, List.mem_cons, Prod.mk.injEq, exists_eq_left, exists_eq_right, exists_eq]
            try rfl
          · simp (config := { maxSteps := 4000000 }) only [go_sem, simprocAttr, ↓dnA, Tryz.f65, rows_length, rd, frW, wk2, wk1, wkL, wkB, hpW, List.mem_cons, Prod.mk.injEq, exists_eq_left, exists_eq_right, exists_eq]
            try rfl
      simp (config := { maxSteps := 4000000 }) only [go_sem, simprocAttr, ↓dnA, Tryz.f65, rows_length, encTF, rd]
      refine CallTo.of (c_spec_odd nb bs q n hq hn) ?_
      rintro r b ⟨gg, q1, rfl, rfl, hq1, hq1'⟩
      have hr1 := h.step (q := q1) (by omega) (by omega)
      cases gg with
      | false =>
        simp (config := { maxSteps := 4000000 }) only [go_sem, simprocAttr, ↓dnA, Tryz.f65, rows_length, encTF, rd]
        exact .same ⟨t, q1, by simp [encTM, nnOf], rfl, by omega, by omega, by omega, by omega, by omega⟩
      | true =>
        simp (config := { maxSteps := 4000000 }) only [go_sem, simprocAttr, ↓dnA, Tryz.f65, rows_length, encTF, rd]
        refine CallTo.of (c_spec_pick nb bs q1 (t.blocks.length : Int) hr1) ?_
        rintro r b ⟨m, rfl, rfl, hm⟩
        have hr2 := h.step (q := q1 + 1) (by omega) (by omega)
        obtain ⟨k, rfl⟩ : ∃ k : Nat, m = (k : Int) := ⟨m.toNat, by omega⟩
        have hk : k < t.blocks.length := by omega
        have hkb : k < t.before.length := by omega
        have hbk : (rows encB1 t.blocks).getD k [] = encB1 (t.blk k) := rows_gd encB1 t.blocks k hk
        simp (config := { maxSteps := 4000000 }) only [go_sem, simprocAttr, ↓dnA, Tryz.f65, rows_length, encTF, rd]
        refine CallTo.of (c_spec_pick nb bs (q1 + 1) 4 hr2) ?_
        rintro r b ⟨z, rfl, rfl, hz⟩
        have hr3 := h.step (q := q1 + 1 + 1) (by omega) (by omega)
        have hz4 : z = 0 ∨ z = 1 ∨ z = 2 ∨ z = 3 := by omega
        rcases hz4 with rfl | rfl | rfl | rfl
        · simp (config := { maxSteps := 4000000 }) only [go_sem, simprocAttr, ↓dnA, Tryz.f65, rows_length, encTF, rd]
          refine semL_draw tab_ok mixed_ rfl (ord := [(0, []), (1, []), (2, []), (3, []), (4, []), (5, []), (6, []), (7, []), (8, []), (9, []), (10, []), (11, []), (12, [])]) (by dsimp only; decide +kernel) ?_
          obtain ⟨w, hw⟩ : ∃ w, IntKind.i64.wrap ((t.blk k).height + 1) = w := ⟨_, rfl⟩
          have hrs : (rows encB1 t.blocks).set k [AV.int IntKind.i64 (t.blk k).before, AV.int IntKind.i64 w, AV.int IntKind.i64 (t.blk k).view, AV.sl none (rows encA (t.blk k).list), AV.int IntKind.i64 (t.blk k).root, AV.int IntKind.i64 (t.blk k).effects] = rows encB1 (t.blocks.set k ⟨(t.blk k).before, w, (t.blk k).view, (t.blk k).list, (t.blk k).root, (t.blk k).effects⟩) := rows_set encB1 t.blocks k ⟨(t.blk k).before, w, (t.blk k).view, (t.blk k).list, (t.blk k).root, (t.blk k).effects⟩
          have hls := lsum_set t.blocks k ⟨(t.blk k).before, w, (t.blk k).view, (t.blk k).list, (t.blk k).root, (t.blk k).effects⟩ hk (by rw [t.blk_get k hk])
          simp (config := { maxSteps := 4000000 }) only [go_sem, simprocAttr, ↓dnA, Tryz.f65, rows_length, encTF, rd, nlt hk, hk, nn0, hbk, encB1, encBk, hw, spliceL, List.length_set, hrs]
          exact .same ⟨⟨t.base, t.blocks.set k ⟨(t.blk k).before, w, (t.blk k).view, (t.blk k).list, (t.blk k).root, (t.blk k).effects⟩, t.before⟩, q1 + 1 + 1, by simp [encTM, nnOf], rfl, by omega, by omega, by unfold tsz at hts ⊢; simp; omega, by simp; omega, by simp; omega⟩
        · simp (config := { maxSteps := 4000000 }) only [go_sem, simprocAttr, ↓dnA, Tryz.f65, rows_length, encTF, rd]
          refine semL_draw tab_ok mixed_ rfl (ord := [(0, []), (1, []), (2, []), (3, []), (4, [0, 1, 2]), (5, []), (6, []), (7, [])]) (by dsimp only; decide +kernel) ?_
          simp (config := { maxSteps := 4000000 }) only [go_sem, simprocAttr, ↓dnA, Tryz.f65, rows_length, encTF, rd]
          refine CallTo.of (c_spec_pick nb bs (q1 + 1 + 1) 5 hr3) ?_
          rintro r b ⟨y, rfl, rfl, hy⟩
          obtain ⟨w, hw⟩ : ∃ w, IntKind.i64.wrap (y - 1) = w := ⟨_, rfl⟩
          have hrs : (rows encI t.before).set k [.int .i64 w] = rows encI (t.before.set k w) := by rw [← rows_set]; rfl
          simp (config := { maxSteps := 4000000 }) only [go_sem, simprocAttr, ↓dnA, Tryz.f65, rows_length, encTF, rd, nlt hkb, hkb, nn0, rows_get _ _ _ hkb, encI, hw, spliceL, List.length_set, hrs]
          exact .same ⟨⟨t.base, t.blocks, t.before.set k w⟩, q1 + 1 + 1 + 1, by simp [encTM, nnOf], rfl, by omega, by omega, by unfold tsz at hts ⊢; simp; omega, by dsimp only; omega, by dsimp only; omega⟩
        · have htk : (rows encI t.before).take t.before.length = rows encI t.before := by rw [List.take_of_length_le]; rw [rows_length]; omega
          have hl : rows encI t.before ++ [[.int .i64 0]] = rows encI (t.before ++ [0]) := by rw [← rows_snoc]; rfl
          simp (config := { maxSteps := 4000000 }) only [go_sem, simprocAttr, ↓dnA, Tryz.f65, rows_length, encTF, rd, htk, hl]
          repeat refine And.intro (by first | omega | (simp; done) | (simp; omega) | assumption) ?_
          exact ⟨.agg (encTM ⟨t.base, t.blocks, t.before ++ [0]⟩), _, by simp [rwR, rwP, rwL, rwC, encTM, nnOf], rwL_refl _, ⟨_, q1 + 1 + 1, rfl, rfl, by omega, by omega, by unfold tsz at hts ⊢; simp; omega, by dsimp only; omega, by dsimp only; omega⟩⟩
        · have hsl := store_len ht.store
          have htk : (rows encE t.base).take t.base.length = rows encE t.base := by rw [List.take_of_length_le]; rw [rows_length]; omega
          have hl : rows encE t.base ++ [[.int .i64 32, .int .i64 1]] = rows encE (t.base ++ [⟨32, 1⟩]) := by rw [← rows_snoc]; rfl
          simp (config := { maxSteps := 4000000 }) only [go_sem, simprocAttr, ↓dnA, Tryz.f65, rows_length, encTF, rd, htk, hl]
          repeat refine And.intro (by first | omega | (simp; done) | (simp; omega) | assumption) ?_
          exact ⟨.agg (encTM ⟨t.base ++ [⟨32, 1⟩], t.blocks, t.before⟩), _, by simp [rwR, rwP, rwL, rwC, encTM, nnOf], rwL_refl _, ⟨_, q1 + 1 + 1, rfl, rfl, by omega, by omega, by unfold tsz at hts ⊢; simp; omega, by dsimp only; omega, by dsimp only; omega⟩⟩

end Go.Proofs.YthcfafpjkbbaoaaGreat

/- Results that are owned, taken as read only; drawn trees and lines so. -/
set_option linter.unusedSimpArgs false
set_option linter.unusedVariables false
set_option maxRecDepth 20000
set_option maxHeartbeats 4000000
namespace Go.Proofs.YthcfafpjkbbaoaaGreat
open Go Go.RowKit

def pureC : AV → AV
  | .osl _ _ es => .sl none es
  | a => a

theorem reads_pureC {w : World} {S : Nat → Prop} {v : Value} {a : AV} (h : Reads w S v a) : Reads w S v (pureC a) := by
  cases a <;> first | exact h | cases h

theorem OwnS.readsN {w : World} {v : Value} {nn : Bool} {sz : Nat} {es : List (List AV)} {F : Nat → Prop} (h : OwnS w v nn sz es F) : Reads w F v (.sl none es) := by
  obtain ⟨h1, h2, h3⟩ := h
  rcases h3 with ⟨rfl, rfl, _, _⟩ | ⟨b, cap, c, ty, FF, rfl, hb, hc, hcap, hO, hd, hnb, hF⟩
  · exact .nil none (by simp)
  · exact (OwnV.slice b cap sz none es c ty FF F (by simp) h2 h1 hcap hb hc hO hd hnb hF).reads

theorem pure_getD (cs : List AV) (i : Nat) : (cs.map pureC).getD i .top = pureC (cs.getD i .top) := by
  rw [List.getD_eq_getElem?_getD, List.getD_eq_getElem?_getD, List.getElem?_map]
  cases cs[i]? <;> rfl

/-- An aggregate of owned slices may be taken as one that is only read. -/
theorem FSpec.pureAgg {P : Program} {k : FuncId} {args : List AV} {hb : Bool} {bx : List AV} {Q Q' : AV → List AV → Prop} (h : FSpec P k args hb bx Q) (hq : ∀ r b, Q r b → ∃ cs, r = .agg cs ∧ Q' (.agg (cs.map pureC)) b) : FSpec P k args hb bx Q' := by
  refine ⟨h.1, fun w S vs b BF h1 h2 h3 h4 => (h.2 w S vs b BF h1 h2 h3 h4).mono ?_⟩
  rintro e w' ⟨v, r, bx1, F, BF', rfl, hQ, g1, g2, g3, g4, g5⟩
  obtain ⟨cs, rfl, hQ'⟩ := hq _ _ hQ
  have hS : ∀ x, (¬ F x ∧ ¬ BoxM hb b bx1 BF' x ∧ (S x ∨ BoxM hb b bx BF x ∨ w.heap.size ≤ x)) → (¬ False ∧ ¬ BoxM hb b bx1 BF' x ∧ (S x ∨ BoxM hb b bx BF x ∨ w.heap.size ≤ x)) := fun x hx => ⟨fun e => e, hx.2⟩
  have hF : ∀ x, F x → (¬ False ∧ ¬ BoxM hb b bx1 BF' x ∧ (S x ∨ BoxM hb b bx BF x ∨ w.heap.size ≤ x)) := fun x hx => ⟨fun e => e, g4 x hx, .inr (g5 x (.inl hx)).1⟩
  refine ⟨v, .agg (cs.map pureC), bx1, fun _ => False, BF', rfl, hQ', g1, ?_, fun e => (g3 e).mono hS, fun x e => e.elim, fun x e => ?_⟩
  · generalize ha : AV.agg cs = a at g2
    cases g2 with
    | part v a F h =>
      cases h with
      | cell v a F h =>
        cases h with
        | pure a F h hF' =>
          subst ha
          refine .part _ _ _ (.cell _ _ _ (.pure _ _ _ ?_ (fun _ e => e)))
          cases h with
          | agg vs cs hl h =>
            refine .agg vs _ (by simpa using hl) fun i hi => ?_
            rw [pure_getD]
            exact (reads_pureC (h i (by simpa using hi))).mono hS
        | osl nn sz es F h => cases ha
      | agg vs cs' FF F hl h hFF =>
        injection ha with ha
        subst ha
        refine .part _ _ _ (.agg vs _ (fun _ _ => False) _ (by simpa using hl) ⟨fun i hi => ?_, fun i j x _ _ e => e.elim⟩ (fun x => ⟨fun e => e.elim, fun ⟨i, _, e⟩ => e.elim⟩))
        have hi' : i < cs.length := by simpa using hi
        have hc := h.cell i hi'
        have hFi : ∀ x, FF i x → F x := fun x hx => (hFF x).2 ⟨i, hi', hx⟩
        rw [pure_getD]
        generalize cs.getD i .top = a at hc
        generalize FF i = G at hc hFi
        cases hc with
        | pure a F h hF' => exact .pure _ _ _ ((reads_pureC h).mono hS) (fun _ e => e)
        | osl nn sz es F h => exact .pure _ _ _ (h.readsN.mono fun x hx => hF x (hFi x hx)) (fun _ e => e)
    | tup => cases ha
    | box => cases ha
  · rcases e with e | e
    · exact e.elim
    · exact g5 x (.inr e)

/-- An owned slice may be taken as one that is only read. -/
theorem FSpec.pureOne {P : Program} {k : FuncId} {args : List AV} {hb : Bool} {bx : List AV} {Q Q' : AV → List AV → Prop} (h : FSpec P k args hb bx Q) (hq : ∀ r b, Q r b → ∃ nn sz es, r = .osl nn sz es ∧ Q' (.sl none es) b) : FSpec P k args hb bx Q' := by
  refine ⟨h.1, fun w S vs b BF h1 h2 h3 h4 => (h.2 w S vs b BF h1 h2 h3 h4).mono ?_⟩
  rintro e w' ⟨v, r, bx1, F, BF', rfl, hQ, g1, g2, g3, g4, g5⟩
  obtain ⟨nn, sz, es, rfl, hQ'⟩ := hq _ _ hQ
  have hS : ∀ x, (¬ F x ∧ ¬ BoxM hb b bx1 BF' x ∧ (S x ∨ BoxM hb b bx BF x ∨ w.heap.size ≤ x)) → (¬ False ∧ ¬ BoxM hb b bx1 BF' x ∧ (S x ∨ BoxM hb b bx BF x ∨ w.heap.size ≤ x)) := fun x hx => ⟨fun e => e, hx.2⟩
  have hF : ∀ x, F x → (¬ False ∧ ¬ BoxM hb b bx1 BF' x ∧ (S x ∨ BoxM hb b bx BF x ∨ w.heap.size ≤ x)) := fun x hx => ⟨fun e => e, g4 x hx, .inr (g5 x (.inl hx)).1⟩
  refine ⟨v, .sl none es, bx1, fun _ => False, BF', rfl, hQ', g1, ?_, fun e => (g3 e).mono hS, fun x e => e.elim, fun x e => ?_⟩
  · have hO : OwnS w' v nn sz es F := by
      cases g2 with
      | part v a F h =>
        cases h with
        | cell v a F h =>
          cases h with
          | pure a F h hF => cases h
          | osl nn sz es F h => exact h
    exact .part _ _ _ (.cell _ _ _ (.pure _ _ _ (hO.readsN.mono hF) (fun _ e => e)))
  · rcases e with e | e
    · exact e.elim
    · exact g5 x (.inr e)

def TreeP (nb : Option Bool) (bs : List Int) (p : Int) (r : AV) (b : List AV) : Prop := ∃ (t : Tree) (q : Int), r = .agg (encT none none none t) ∧ b = rd nb bs q ∧ p ≤ q ∧ q ≤ p + 5000 ∧ tsz t ≤ 300 ∧ 1 ≤ t.blocks.length ∧ t.blocks.length ≤ 14
theorem c_spec_l20TreeP (nb : Option Bool) (bs : List Int) (p n : Int) (h : RdOk bs p) (hp : p ≤ 999980000) (hn : 0 ≤ n ∧ n ≤ 1000000) : FSpec Tryz.prog 65 [.loc 0 0, .int .i64 n] true (rd nb bs p) (TreeP nb bs p) := by
  refine (c_spec_l20Tree nb bs p n h hp hn).pureAgg ?_
  rintro r b ⟨t, q, rfl, rfl, h1, h2, h3, h4, h5⟩
  exact ⟨_, rfl, t, q, rfl, rfl, h1, h2, h3, h4, h5⟩

def LineP (nb : Option Bool) (bs : List Int) (p n : Int) (r : AV) (b : List AV) : Prop := ∃ (t : Tree) (q : Int), r = .agg (encT none none none t) ∧ b = rd nb bs q ∧ p ≤ q ∧ q ≤ p + 1000 ∧ tsz t ≤ 200 ∧ 1 ≤ t.blocks.length ∧ t.blocks.length ≤ 14 ∧ (n = 0 → TreeOk t)
theorem c_spec_l20LineP (nb : Option Bool) (bs : List Int) (p n : Int) (h : RdOk bs p) (hp : p ≤ 999980000) (hn : 0 ≤ n ∧ n ≤ 1000000) : FSpec Tryz.prog 103 [.loc 0 0, .int .i64 n] true (rd nb bs p) (LineP nb bs p n) := by
  refine (c_spec_l20Line nb bs p n h hp hn).pureAgg ?_
  rintro r b ⟨t, q, rfl, rfl, h1, h2, h3, h4, h5, h6⟩
  exact ⟨_, rfl, t, q, rfl, rfl, h1, h2, h3, h4, h5, h6⟩

end Go.Proofs.YthcfafpjkbbaoaaGreat

/- Regions with an operation that waits for none of several calls, and a last operation that waits for all others. -/
set_option linter.unusedSimpArgs false
set_option linter.unusedVariables false
set_option maxRecDepth 20000
set_option maxHeartbeats 4000000
namespace Go.Proofs.YthcfafpjkbbaoaaGreat
open Go Go.RowKit

section
variable {P : Program} {T : Tab} {B : Base} {ops : Array Oper}

theorem ready_old {o : Oper} (hlt : ∃ rk : Nat → Nat, ∀ (i : Nat) (o : Oper), ops[i]? = some o → ∀ j, j ∈ depsOf o → rk j < rk i ∧ j < ops.size) (L : Array Bool) (i : Nat) (hL : L.size = ops.size) (hi : i < ops.size) :
    i ∈ Region.ready .any (ops.push o) (L.push false) ↔ i ∈ Region.ready .any ops L := by
  rw [ready_iff, ready_iff, push_getD _ (by omega), Array.getElem?_push_lt hi]
  refine and_congr Iff.rfl ⟨fun ⟨oi, e, h⟩ => ⟨oi, by rw [Array.getElem?_eq_getElem hi]; exact e, fun j hj => ?_⟩, fun ⟨oi, e, h⟩ => ⟨oi, by rw [← Array.getElem?_eq_getElem hi]; exact e, fun j hj => ?_⟩⟩
  · obtain ⟨rk, hrk⟩ := hlt
    have := (hrk i oi (by rw [Array.getElem?_eq_getElem hi]; exact e) j hj).2
    have h' := h j hj
    rwa [push_getD _ (by omega)] at h'
  · obtain ⟨rk, hrk⟩ := hlt
    have := (hrk i oi e j hj).2
    rw [push_getD _ (by omega)]
    exact h j hj

theorem ready_new {o : Oper} (hdep : ∀ i, i < ops.size → i ∈ depsOf o) (hdl : ∀ j, j ∈ depsOf o → j < ops.size) (L : Array Bool) (hL : L.size = ops.size) :
    ops.size ∈ Region.ready .any (ops.push o) (L.push false) ↔ ∀ i, i < ops.size → L.getD i false = true := by
  rw [ready_iff]
  constructor
  · rintro ⟨_, oi, e, h⟩ i hi
    simp only [Array.getElem?_push_size] at e
    cases e
    have := h i (hdep i hi)
    rwa [push_getD _ (by omega)] at this
  · intro h
    refine ⟨by rw [← hL]; exact push_getD_last _, o, by simp, fun j hj => ?_⟩
    rw [push_getD _ (by have := hdl j hj; omega)]
    exact h j (hdl j hj)

theorem val_pop {o : Oper} (hlt : ∃ rk : Nat → Nat, ∀ (i : Nat) (o : Oper), ops[i]? = some o → ∀ j, j ∈ depsOf o → rk j < rk i ∧ j < ops.size)
    (hdep : ∀ i, i < ops.size → i ∈ depsOf o) (hdl : ∀ j, j ∈ depsOf o → j < ops.size) : ∀ (l : List Nat) (L : Array Bool), L.size = ops.size → ValE (ops.push o) (L.push false) l → ∃ l', l = l' ++ [ops.size] ∧ ValE ops L l'
  | [], L, hL, h => by
    exfalso
    have h : Region.ready .any (ops.push o) (L.push false) = [] := h
    have hr : Region.ready .any ops L = [] := by
      cases e : Region.ready .any ops L with
      | nil => rfl
      | cons i r =>
        have hm : i ∈ Region.ready .any ops L := by rw [e]; simp
        obtain ⟨_, oi, eo, _⟩ := ready_iff.1 hm
        have := (ready_old (o := o) hlt L i hL (lt_of_get eo)).2 hm
        rw [h] at this; cases this
    have := (ready_new hdep hdl L hL).2 (all_listed hlt hL hr)
    rw [h] at this; cases this
  | i :: r, L, hL, h => by
    obtain ⟨h1, h2⟩ := h
    have hi : i < ops.size ∨ i = ops.size := by
      obtain ⟨_, oi, e, _⟩ := ready_iff.1 h1
      have := lt_of_get e
      simp at this
      omega
    rcases hi with hi | rfl
    · have e : (L.push false).setIfInBounds i true = (L.setIfInBounds i true).push false := by
        apply Array.ext'
        rw [Array.toList_setIfInBounds, Array.toList_push, Array.toList_push, Array.toList_setIfInBounds, List.set_append_left _ _ (by simp; omega)]
      rw [e] at h2
      obtain ⟨l', rfl, h3⟩ := val_pop hlt hdep hdl r (L.setIfInBounds i true) (by simp [hL]) h2
      exact ⟨i :: l', rfl, (ready_old hlt L i hL hi).1 h1, h3⟩
    · have hall := (ready_new hdep hdl L hL).1 h1
      have hnr : Region.ready .any (ops.push o) ((L.push false).setIfInBounds ops.size true) = [] := by
        refine none_ready (by simp [hL]) fun i hi => ?_
        rw [getD_set (by simp [hL])]
        split
        · rfl
        · have hi : i < ops.size := by simp at hi; omega
          rw [push_getD _ (by omega)]; exact hall i hi
      cases r with
      | nil => exact ⟨[], rfl, none_ready hL hall⟩
      | cons j r =>
        have := h2.1
        rw [hnr] at this; cases this

theorem run_push {o : Oper} {Q Q' : Exit → Act → World → Prop} (hg : ∀ (i : Nat) (oi : Oper) (j : Nat) (want : Bool), ops[i]? = some oi → oi.guard = some (j, want) → j < ops.size)
    (hp : ∀ c a w, Q (.panic c) a w → Q' (.panic c) a w) (ho : LetsOut Q → LetsOut Q') (hn : ∀ a w, Q .normal a w → wpOp P (ops.push o) Q' ops.size (Q' .normal) a w) :
    ∀ (l : List Nat) (L : Array Bool) (a : Act) (w : World), ValE ops L l → wpOps P ops Q l a w → wpOps P (ops.push o) Q' (l ++ [ops.size]) a w
  | [], L, a, w, hv, h => by
    show wpOps P (ops.push o) Q' [ops.size] a w
    rw [wpOps_cons]
    exact hn a w h
  | i :: r, L, a, w, hv, h => by
    obtain ⟨h1, h2⟩ := hv
    obtain ⟨_, oi, e, _⟩ := ready_iff.1 h1
    show wpOps P (ops.push o) Q' (i :: (r ++ [ops.size])) a w
    rw [wpOps_cons] at h ⊢
    exact wpOp_push (lt_of_get e) hg (fun a w hk => run_push hg hp ho hn r _ a w h2 hk) hp ho h

def slotsLOk (T : Tab) (n b : Nat) (cs : List Nat) (m : Nat) (ops : Array Oper) (os : List (List Nat × List (Nat × List Nat))) : Bool :=
  slotsOk T n b cs ops.pop os && stat (rkS (0, 0)) T ops.pop && decide (ops.size = m + 1) && (os.all fun o => o.2.all fun p => decide (p.1 < m) && p.2.all fun x => decide (x < m)) &&
    (ops.all fun o => match o.guard with
      | none => true
      | some (j, _) => decide (j < m)) &&
    (match ops[m]? with
      | none => false
      | some o => (List.range m).all (fun i => (depsOf o).contains i) && (match o.dst with | some d => decide (d < n) | none => true) && (match o.op with | .select _ _ => false | _ => true) && (depsOf o).all (fun j => decide (j < m)))
def slotsLK (P : Program) (T : Tab) (ops : List Oper) (m : Nat) (Φ : AState → Prop) (s : AState) (os : List (List Nat × List (Nat × List Nat))) : Prop :=
  slotsK P T ops (fun s => match ops[m]? with
    | some o => dstOk s o.dst ∧ stepK P T ops o s Φ
    | none => False) s os

/-- As 'semL_slots', where the last operation waits for all others (it may write what they read). -/
theorem semL_slotsL (hT : TabOk P T) {Kx : Exit → AState → Prop} {s : AState} {id n : Nat} (b : Nat) (cs : List Nat) (m : Nat) {os : List (List Nat × List (Nat × List Nat))} (hm : P.follows .mixedOrders = true) (hn : s.nt = n) (hb : (cs.all fun c => b != c) = true)
    (hk : slotsLOk T n b cs m ops os = true) (h : slotsLK P T ops.toList m (Kx .normal) s os) : @SemL P B (.region id ops true) s ⟨Kx⟩ := by
  intro X x w hXB hR
  unfold slotsLOk at hk
  simp only [Bool.and_eq_true] at hk
  obtain ⟨⟨⟨⟨⟨k1, k0⟩, k2⟩, k3⟩, k4⟩, k5⟩ := hk
  have hsz : ops.size = m + 1 := by simpa using k2
  have hg : ∀ (i : Nat) (o : Oper) (j : Nat) (want : Bool), ops[i]? = some o → o.guard = some (j, want) → j < m := by
    intro i o j want ho hgd
    have := Array.all_eq_true_iff_forall_mem.1 k4 o (Array.mem_of_getElem? ho)
    rw [hgd] at this
    simpa using this
  have hml : m < ops.size := by omega
  rw [Array.getElem?_eq_getElem hml] at k5
  simp only [Bool.and_eq_true] at k5
  obtain ⟨⟨⟨q1, q2⟩, q3⟩, q4⟩ := k5
  have hops : ops = ops.pop.push ops[m] := by
    apply Array.ext
    · simp; omega
    · intro i h1 h2
      rw [Array.getElem_push]
      split
      · simp
      · have : i = m := by simp at *; omega
        subst this; rfl
  have hpsz : ops.pop.size = m := by simp; omega
  have popg : ∀ i, i < m → ops.pop[i]? = ops[i]? := by
    intro i hi
    rw [Array.getElem?_eq_getElem (by omega), Array.getElem?_eq_getElem (by omega)]
    simp
  have hpl : ∀ i, i < m → ops.toList[i]? = ops.pop.toList[i]? := by
    intro i hi
    rw [Array.getElem?_toList, Array.getElem?_toList, popg i hi]
  have hS := stat_spec k0
  have hdepl : ∀ i, i < m → i ∈ depsOf ops[m] := fun i hi => by simpa using List.all_eq_true.1 q1 i (List.mem_range.2 hi)
  have hdl : ∀ j, j ∈ depsOf ops[m] → j < m := fun j hj => by simpa using List.all_eq_true.1 q4 j hj
  have conv : ∀ (Φ : AState → Prop) (os : List (List Nat × List (Nat × List Nat))), (os.all fun o => o.2.all fun p => decide (p.1 < m) && p.2.all fun x => decide (x < m)) = true → slotsK P T ops.toList Φ s os → slotsK P T ops.pop.toList Φ s os := by
    intro Φ os
    induction os with
    | nil => intro _ h; exact h
    | cons o q ih =>
      intro hq h
      rw [List.all_cons, Bool.and_eq_true] at hq
      refine ⟨?_, ih hq.2 h.2⟩
      have h1 := h.1
      rw [drawK_pop hpl (fun i o j want ho => hg i o j want (by rw [← Array.getElem?_toList]; exact ho)) _ o.2
        (fun p hp x hx => by have := List.all_eq_true.1 hq.1 p hp; rw [Bool.and_eq_true] at this; simpa using List.all_eq_true.1 this.2 x hx)
        (fun p hp => by have := List.all_eq_true.1 hq.1 p hp; rw [Bool.and_eq_true] at this; simpa using this.1)] at h1
      exact h1
  unfold slotsLK at h
  have h := conv _ os k3 h
  refine wp_region_draw fun t => ?_
  simp only [Region.schedule, hm, Bool.true_or, if_true]
  have hv := go_val (ops := ops) ops.size t (Array.replicate ops.size false) (by simp) (by
    rw [Array.toList_replicate]
    generalize ops.size = m
    induction m with
    | zero => exact Nat.le_refl _
    | succ m ih => rw [List.replicate_succ]; simp only [cntF]; simp; omega)
  have er : Array.replicate ops.size false = (Array.replicate ops.pop.size false).push false := by
    rw [hpsz, hsz]
    apply Array.ext'
    simp [List.replicate_succ']
  show wpOps P ops _ (Region.linearise.go .any ops ops.size t (Array.replicate ops.size false) []) x _
  generalize Region.linearise.go .any ops ops.size t (Array.replicate ops.size false) [] = l at hv
  rw [er] at hv
  have hv2 : ValE (ops.pop.push ops[m]) ((Array.replicate ops.pop.size false).push false) l := by rw [← hops]; exact hv
  obtain ⟨l', rfl, hv'⟩ := val_pop hS.lt (by rw [hpsz]; exact hdepl) (by rw [hpsz]; exact hdl) l _ (by simp) hv2
  have hrun := slots_run (Kx := lastX Kx (fun s => match ops.toList[m]? with | some o => dstOk s o.dst ∧ stepK P T ops.toList o s (Kx .normal) | none => False)) hT hn hXB hR b cs ops.pop os hb k1 h hv'
  have hfin := run_push (P := P) (o := ops[m]) (Q := fun e a w => Post B (lastX Kx (fun s => match ops.toList[m]? with | some o => dstOk s o.dst ∧ stepK P T ops.toList o s (Kx .normal) | none => False) e) a w) (Q' := fun e a w => Post B (Kx e) a w)
    (fun i oi j want ho => by rw [hpsz]; exact hg i oi j want (by rw [← popg i (by have := lt_of_get ho; omega)]; exact ho)) (fun _ _ _ h => h) (fun h => h) ?_ l' _ x _ hv' hrun
  · rw [← hops] at hfin
    exact hfin
  · rw [← hops, hpsz]
    rintro a w ⟨X', s', hX', hR', hΦ⟩
    have hΦ : (match ops.toList[m]? with | some o => dstOk s' o.dst ∧ stepK P T ops.toList o s' (Kx .normal) | none => False) := hΦ
    simp only [Array.getElem?_toList, Array.getElem?_eq_getElem hml] at hΦ
    obtain ⟨hd, hst⟩ := hΦ
    refine step_exec (ops := ops) hT (Array.getElem?_eq_getElem hml) (fun cs b e => by rw [e] at q3; cases q3) hR' (dst_lt hd) (fun _ _ => rfl) hst fun u X2 s2 w2 hX2 hR2 hΦ2 => ?_
    exact ⟨X2, s2, hX2.trans hX', hR2, hΦ2⟩

end

end Go.Proofs.YthcfafpjkbbaoaaGreat

/- Contracts: blocks that are certified. -/
set_option linter.unusedSimpArgs false
set_option linter.unusedVariables false
set_option maxRecDepth 20000
set_option maxHeartbeats 4000000
namespace Go.Proofs.YthcfafpjkbbaoaaGreat
open Go Go.RowKit

theorem rwC_same (a : AV) : rwC a a := by cases a <;> simp [rwC]
theorem rwL_same : ∀ l : List AV, rwL l l
  | [] => trivial
  | a :: r => ⟨rwC_same a, rwL_same r⟩
theorem Det.less {P : Program} {k : FuncId} {args : List AV} {r r' : AV} (h : Det P k args r) (hr : rwR r r') : Det P k args r' :=
  FSpec.rw h fun q b e => ⟨r', b, by rw [e]; exact hr, rwL_same b, rfl⟩

theorem OwnS.readsT {w : World} {v : Value} {sz : Nat} {es : List (List AV)} {F : Nat → Prop} (h : OwnS w v true sz es F) : Reads w F v (.sl (some true) es) := by
  obtain ⟨h1, h2, h3⟩ := h
  rcases h3 with ⟨_, _, g, _⟩ | ⟨b, cap, c, ty, FF, rfl, hb, hc, hcap, hO, hd, hnb, hF⟩
  · cases g
  · exact (OwnV.slice b cap sz (some true) es c ty FF F (by simp) h2 h1 hcap hb hc hO hd hnb hF).reads

/-- A result that is owned may be taken as one that is only read. -/
theorem Det.pureT {P : Program} {k : FuncId} {args : List AV} {sz : Nat} {es : List (List AV)} (h : Det P k args (.osl true sz es)) : Det P k args (.sl (some true) es) := by
  refine ⟨h.1, fun w S vs b BF h1 h2 h3 h4 => (h.2 w S vs b BF h1 h2 h3 h4).mono ?_⟩
  rintro e w' ⟨v, r, bx1, F, BF', rfl, hQ, g1, g2, g3, g4, g5⟩
  subst hQ
  have hno : ∀ {b : Nat} {cs : List AV} {B : Nat → Nat → Prop} (x : Nat), ¬ BoxM false b cs B x := fun x e => by cases e.1
  refine ⟨v, .sl (some true) es, bx1, fun _ => False, BF', rfl, rfl, g1, ?_, (fun e => by cases e), fun x e => e.elim, fun x e => ?_⟩
  · have hO : OwnS w' v true sz es F := by
      cases g2 with
      | part v a F h =>
        cases h with
        | cell v a F h =>
          cases h with
          | pure a F h hF => cases h
          | osl nn sz es F h => exact h
    refine .part _ _ _ (.cell _ _ _ (.pure _ _ _ (hO.readsT.mono fun x hx => ?_) (fun _ e => e)))
    exact ⟨fun e => e, hno x, .inr (.inr (((g5 x (.inl hx)).1).resolve_left (hno x)))⟩
  · rcases e with e | e
    · exact e.elim
    · exact (hno x e).elim

theorem certified_yes {t : Tree} {cs : List Cert} (h0 : treeValid t = true) (hc : cs.length ≤ 30) : certified t cs = certL t cs := by
  unfold certified; rw [if_pos ⟨h0, hc⟩]
theorem certified_no {t : Tree} {cs : List Cert} (h : ¬ (treeValid t = true ∧ cs.length ≤ 30)) : certified t cs = [] := by
  unfold certified; rw [if_neg h]
theorem certF_take (t : Tree) (cs : List Cert) (l : List Bool) (i : Nat) (h : i < cs.length) : certF t (cs.take (i + 1)) l = certStep t (certF t (cs.take i) l) cs[i] := by
  unfold certF; rw [take_snoc _ _ h, List.foldl_append]; rfl
theorem certs0_rows (n : Nat) : boolRows (certs0 n) = (List.replicate n [.bool false]).set 0 [.bool true] := by
  unfold certs0; rw [← boolRows_set, boolRows_rep]

theorem c_impl_CertifiedBlocks_yes (n1 n2 n3 n4 : Option Bool) (t : Tree) (cs : List Cert) (hx : TreeSz t) (h0 : treeValid t = true) (hc : cs.length ≤ 30) :
    Det Tryz.prog 18 [.agg (encT n1 n2 n3 t), .sl n4 (rows encC cs)] (.osl true 1 (boolRows (certL t cs))) := by
  refine fspec_det tab_ok Tryz.call18 Tryz.func18 rfl 39 Tryz.ntmps18 (of_decide_eq_true rfl) fun B => codeK_sound tab_ok _ _ _ ?_
  have ht := treeOk_of h0
  have hlen := ht.len
  have hd : decide ((cs.length : Int) > 30) = false := by simp; omega
  have hp : (0 < t.blocks.length) = True := by simp; omega
  have hp2 : ((0 : Int) < (t.blocks.length : Int)) = True := by simp; omega
  have hg0 : (List.replicate t.blocks.length [AV.bool false]).getD 0 [] = [.bool false] := by
    rw [List.getD_eq_getElem?_getD, List.getElem?_replicate, if_pos (by omega)]; rfl
  simp (config := { maxSteps := 4000000 }) only [go_sem, simprocAttr, ↓dnA, Tryz.f18, encT, rows_length, boolRows_length, List.length_set, List.length_replicate]
  refine CallTo.det (c_impl_BlockTreeValid n1 n2 n3 t hx) fun _ => ?_
  simp (config := { maxSteps := 4000000 }) only [go_sem, simprocAttr, ↓dnA, Tryz.f18, encT, rows_length, boolRows_length, List.length_set, List.length_replicate, h0, hd, hp, hp2, hg0, spliceL]
  repeat refine And.intro (by first | omega | (simp; done) | (simp; omega) | assumption) ?_
  refine semL_for tab_ok (fun i : Nat => ⟨39, [(2, .loc 2 0), (5, .row 600 t.blocks.length), (23, .sl n4 (rows encC cs)), (24, .int .i64 cs.length), (25, .int .i64 i)],
      [(2, .var (encT n1 n2 n3 t)), (600, .row true true 1 (boolRows (certF t (cs.take i) (certs0 t.blocks.length))))]⟩) (fun i => cs.length - i)
    (fun i => i ≤ cs.length) 0 [(2, 2), (20, 600)] (Weak.of (by rfl) ?_ ?_ (by rfl)) (by omega) ?_
  · simp (config := { maxSteps := 4000000 }) only [go_sem, simprocAttr, ↓dnA, Tryz.f18, encT, rows_length, boolRows_length, List.length_set, List.length_replicate, frW, wk2, wk1, wkL, wkB, hpW, List.mem_cons, Prod.mk.injEq, exists_eq_left, exists_eq_right, exists_eq]
    exact certs0_rows _
  · simp (config := { maxSteps := 4000000 }) only [go_sem, simprocAttr, ↓dnA, Tryz.f18, encT, rows_length, boolRows_length, List.length_set, List.length_replicate, frW, wk2, wk1, wkL, wkB, hpW, List.mem_cons, Prod.mk.injEq, exists_eq_left, exists_eq_right, exists_eq]
  · rintro i hi
    have hl : (certF t (cs.take i) (certs0 t.blocks.length)).length = t.blocks.length := by rw [certF_len]; simp [certs0]
    by_cases h : i < cs.length
    · have hst := certF_take t cs (certs0 t.blocks.length) i h
      generalize certF t (cs.take i) (certs0 t.blocks.length) = l at hl hst
      have hw : IntKind.i64.wrap ((i : Int) + 1) = ((i + 1 : Nat) : Int) := wsucc h (by omega)
      simp (config := { maxSteps := 4000000 }) only [go_sem, simprocAttr, ↓dnA, Tryz.f18, encT, rows_length, boolRows_length, List.length_set, List.length_replicate, nlt h, h, rows_get _ _ _ h, nn0, encC]
      refine CallTo.det (c_impl_certBlock n1 n2 n3 t cs[i] hx) fun _ => ?_
      rcases certBlock_cases t cs[i] with hb | ⟨k, hk, hb⟩
      · have hs : certStep t l cs[i] = l := by unfold certStep; rw [hb, if_pos (by omega)]
        rw [hs] at hst
        simp (config := { maxSteps := 4000000 }) only [go_sem, simprocAttr, ↓dnA, Tryz.f18, encT, rows_length, boolRows_length, List.length_set, List.length_replicate, nlt h, h, rows_get _ _ _ h, nn0, encC, hb, hw]
        refine ⟨i + 1, [(2, 2), (600, 600)], by omega, by dsimp only; omega, Weak.of (by rfl) ?_ ?_ (by rfl)⟩
        · simp (config := { maxSteps := 4000000 }) only [go_sem, simprocAttr, ↓dnA, Tryz.f18, encT, rows_length, boolRows_length, List.length_set, List.length_replicate, hst, frW, wk2, wk1, wkL, wkB, hpW, List.mem_cons, Prod.mk.injEq, exists_eq_left, exists_eq_right, exists_eq]
        · simp (config := { maxSteps := 4000000 }) only [go_sem, simprocAttr, ↓dnA, Tryz.f18, encT, rows_length, boolRows_length, List.length_set, List.length_replicate, frW, wk2, wk1, wkL, wkB, hpW, List.mem_cons, Prod.mk.injEq, exists_eq_left, exists_eq_right, exists_eq]
      · have hs : certStep t l cs[i] = l.set k true := by unfold certStep; rw [hb, if_neg (by omega), Int.toNat_natCast]
        rw [hs] at hst
        have hd2 : decide ((k : Int) ≥ 0) = true := by simp
        simp (config := { maxSteps := 4000000 }) only [go_sem, simprocAttr, ↓dnA, Tryz.f18, encT, rows_length, boolRows_length, List.length_set, List.length_replicate, nlt h, h, rows_get _ _ _ h, nn0, encC, hb, hd2, nlt hk, hk, hl, boolRows_get l k (by omega), spliceL, hw]
        refine ⟨i + 1, [(2, 2), (600, 600)], by omega, by dsimp only; omega, Weak.of (by rfl) ?_ ?_ (by rfl)⟩
        · simp (config := { maxSteps := 4000000 }) only [go_sem, simprocAttr, ↓dnA, Tryz.f18, encT, rows_length, boolRows_length, List.length_set, List.length_replicate, hst, ← boolRows_set, frW, wk2, wk1, wkL, wkB, hpW, List.mem_cons, Prod.mk.injEq, exists_eq_left, exists_eq_right, exists_eq]
        · simp (config := { maxSteps := 4000000 }) only [go_sem, simprocAttr, ↓dnA, Tryz.f18, encT, rows_length, boolRows_length, List.length_set, List.length_replicate, frW, wk2, wk1, wkL, wkB, hpW, List.mem_cons, Prod.mk.injEq, exists_eq_left, exists_eq_right, exists_eq]
    · have hi' : i = cs.length := by omega
      subst hi'
      rw [List.take_length] at hl
      simp (config := { maxSteps := 4000000 }) only [go_sem, simprocAttr, ↓dnA, Tryz.f18, encT, rows_length, boolRows_length, List.length_set, List.length_replicate, nlf h, List.take_length, certL, hl]

theorem c_impl_CertifiedBlocks_T (n1 n2 n3 n4 : Option Bool) (t : Tree) (cs : List Cert) (hx : TreeSz t) (h0 : treeValid t = true) (hc : cs.length ≤ 30) :
    Det Tryz.prog 18 [.agg (encT n1 n2 n3 t), .sl n4 (rows encC cs)] (.sl (some true) (boolRows (certL t cs))) := (c_impl_CertifiedBlocks_yes n1 n2 n3 n4 t cs hx h0 hc).pureT

theorem c_impl_CertifiedBlocks_no (n1 n2 n3 n4 : Option Bool) (t : Tree) (cs : List Cert) (hx : TreeSz t) (h : ¬ (treeValid t = true ∧ cs.length ≤ 30)) :
    Det Tryz.prog 18 [.agg (encT n1 n2 n3 t), .sl n4 (rows encC cs)] (.sl (some false) []) := by
  refine fspec_det tab_ok Tryz.call18 Tryz.func18 rfl 39 Tryz.ntmps18 (of_decide_eq_true rfl) fun B => codeK_sound tab_ok _ _ _ ?_
  simp (config := { maxSteps := 4000000 }) only [go_sem, simprocAttr, ↓dnA, Tryz.f18, encT, rows_length, boolRows_length, List.length_set, List.length_replicate]
  refine CallTo.det (c_impl_BlockTreeValid n1 n2 n3 t hx) fun _ => ?_
  cases h0 : treeValid t with
  | false => simp (config := { maxSteps := 4000000 }) only [go_sem, simprocAttr, ↓dnA, Tryz.f18, encT, rows_length, boolRows_length, List.length_set, List.length_replicate, h0]
  | true =>
    have hd : decide ((cs.length : Int) > 30) = true := by
      have : ¬ cs.length ≤ 30 := fun e => h ⟨h0, e⟩
      simp; omega
    simp (config := { maxSteps := 4000000 }) only [go_sem, simprocAttr, ↓dnA, Tryz.f18, encT, rows_length, boolRows_length, List.length_set, List.length_replicate, h0, hd]

theorem c_impl_CertifiedBlocks (n1 n2 n3 n4 : Option Bool) (t : Tree) (cs : List Cert) (hx : TreeSz t) :
    Det Tryz.prog 18 [.agg (encT n1 n2 n3 t), .sl n4 (rows encC cs)] (.osl false 1 (boolRows (certified t cs))) := by
  by_cases h : treeValid t = true ∧ cs.length ≤ 30
  · rw [certified_yes h.1 h.2]
    exact (c_impl_CertifiedBlocks_yes n1 n2 n3 n4 t cs hx h.1 h.2).less ⟨.inr rfl, rfl, rfl⟩
  · rw [certified_no h]
    exact (c_impl_CertifiedBlocks_no n1 n2 n3 n4 t cs hx h).less ⟨rfl, rfl, rfl, by decide, rfl⟩

theorem c_spec_CertifiedBlocks (n1 n2 n3 n4 : Option Bool) (t : Tree) (cs : List Cert) (hx : TreeSz t) :
    Det Tryz.prog 61 [.agg (encT n1 n2 n3 t), .sl n4 (rows encC cs)] (.osl true 1 (boolRows (certified t cs))) := by
  refine fspec_det tab_ok Tryz.call61 Tryz.func61 rfl 42 Tryz.ntmps61 (of_decide_eq_true rfl) fun B => codeK_sound tab_ok _ _ _ ?_
  simp (config := { maxSteps := 4000000 }) only [go_sem, simprocAttr, ↓dnA, Tryz.f61, encT, rows_length, boolRows_length, List.length_set, List.length_replicate]
  refine CallTo.det (c_spec_BlockTreeValid n1 n2 n3 t hx) fun _ => ?_
  cases h0 : treeValid t with
  | false =>
    have hr := certified_no (t := t) (cs := cs) (fun e => by rw [h0] at e; cases e.1)
    simp (config := { maxSteps := 4000000 }) only [go_sem, simprocAttr, ↓dnA, Tryz.f61, encT, rows_length, boolRows_length, List.length_set, List.length_replicate, h0, hr, boolRows, List.map_nil]
  | true =>
    by_cases hc : cs.length ≤ 30
    · have ht := treeOk_of h0
      have hlen := ht.len
      have hd : decide ((cs.length : Int) > 30) = false := by simp; omega
      have hp : (0 < t.blocks.length) = True := by simp; omega
      have hp2 : ((0 : Int) < (t.blocks.length : Int)) = True := by simp; omega
      have hg0 : (List.replicate t.blocks.length [AV.bool false]).getD 0 [] = [.bool false] := by
        rw [List.getD_eq_getElem?_getD, List.getElem?_replicate, if_pos (by omega)]; rfl
      rw [certified_yes h0 hc]
      simp (config := { maxSteps := 4000000 }) only [go_sem, simprocAttr, ↓dnA, Tryz.f61, encT, rows_length, boolRows_length, List.length_set, List.length_replicate, h0, hd, hp, hp2, hg0, spliceL]
      repeat refine And.intro (by first | omega | (simp; done) | (simp; omega) | assumption) ?_
      refine semL_for tab_ok (fun i : Nat => ⟨42, [(2, .loc 2 0), (1, .sl n4 (rows encC cs)), (5, .row 600 t.blocks.length), (6, .int .i64 i)],
          [(2, .var (encT n1 n2 n3 t)), (600, .row true true 1 (boolRows (certF t (cs.take i) (certs0 t.blocks.length))))]⟩) (fun i => cs.length - i)
        (fun i => i ≤ cs.length) 0 [(2, 2), (21, 600)] (Weak.of (by rfl) ?_ ?_ (by rfl)) (by omega) ?_
      · simp (config := { maxSteps := 4000000 }) only [go_sem, simprocAttr, ↓dnA, Tryz.f61, encT, rows_length, boolRows_length, List.length_set, List.length_replicate, frW, wk2, wk1, wkL, wkB, hpW, List.mem_cons, Prod.mk.injEq, exists_eq_left, exists_eq_right, exists_eq]
        exact certs0_rows _
      · simp (config := { maxSteps := 4000000 }) only [go_sem, simprocAttr, ↓dnA, Tryz.f61, encT, rows_length, boolRows_length, List.length_set, List.length_replicate, frW, wk2, wk1, wkL, wkB, hpW, List.mem_cons, Prod.mk.injEq, exists_eq_left, exists_eq_right, exists_eq]
      · rintro i hi
        have hl : (certF t (cs.take i) (certs0 t.blocks.length)).length = t.blocks.length := by rw [certF_len]; simp [certs0]
        by_cases h : i < cs.length
        · have hst := certF_take t cs (certs0 t.blocks.length) i h
          generalize certF t (cs.take i) (certs0 t.blocks.length) = l at hl hst
          have hw : IntKind.i64.wrap ((i : Int) + 1) = ((i + 1 : Nat) : Int) := wsucc h (by omega)
          simp (config := { maxSteps := 4000000 }) only [go_sem, simprocAttr, ↓dnA, Tryz.f61, encT, rows_length, boolRows_length, List.length_set, List.length_replicate, nlt h, h, rows_get _ _ _ h, nn0, encC]
          refine semL_draw tab_ok mixed_ rfl (ord := [(0, []), (1, []), (2, []), (3, []), (4, []), (5, []), (6, [])]) (by dsimp only; decide +kernel) ?_
          simp (config := { maxSteps := 4000000 }) only [go_sem, simprocAttr, ↓dnA, Tryz.f61, encT, rows_length, boolRows_length, List.length_set, List.length_replicate, nlt h, h, rows_get _ _ _ h, nn0, encC]
          refine CallTo.det (c_spec_CertBlock n1 n2 n3 t cs[i] hx) fun _ => ?_
          rw [if_pos h0]
          rcases certBlock_cases t cs[i] with hb | ⟨k, hk, hb⟩
          · have hs : certStep t l cs[i] = l := by unfold certStep; rw [hb, if_pos (by omega)]
            rw [hs] at hst
            simp (config := { maxSteps := 4000000 }) only [go_sem, simprocAttr, ↓dnA, Tryz.f61, encT, rows_length, boolRows_length, List.length_set, List.length_replicate, nlt h, h, rows_get _ _ _ h, nn0, encC, hb, hw]
            refine ⟨i + 1, [(2, 2), (600, 600)], by omega, by dsimp only; omega, Weak.of (by rfl) ?_ ?_ (by rfl)⟩
            · simp (config := { maxSteps := 4000000 }) only [go_sem, simprocAttr, ↓dnA, Tryz.f61, encT, rows_length, boolRows_length, List.length_set, List.length_replicate, hst, frW, wk2, wk1, wkL, wkB, hpW, List.mem_cons, Prod.mk.injEq, exists_eq_left, exists_eq_right, exists_eq]
            · simp (config := { maxSteps := 4000000 }) only [go_sem, simprocAttr, ↓dnA, Tryz.f61, encT, rows_length, boolRows_length, List.length_set, List.length_replicate, frW, wk2, wk1, wkL, wkB, hpW, List.mem_cons, Prod.mk.injEq, exists_eq_left, exists_eq_right, exists_eq]
          · have hs : certStep t l cs[i] = l.set k true := by unfold certStep; rw [hb, if_neg (by omega), Int.toNat_natCast]
            rw [hs] at hst
            have hd2 : decide ((k : Int) ≥ 0) = true := by simp
            simp (config := { maxSteps := 4000000 }) only [go_sem, simprocAttr, ↓dnA, Tryz.f61, encT, rows_length, boolRows_length, List.length_set, List.length_replicate, nlt h, h, rows_get _ _ _ h, nn0, encC, hb, hd2, nlt hk, hk, hl, boolRows_get l k (by omega), spliceL, hw]
            refine ⟨i + 1, [(2, 2), (600, 600)], by omega, by dsimp only; omega, Weak.of (by rfl) ?_ ?_ (by rfl)⟩
            · simp (config := { maxSteps := 4000000 }) only [go_sem, simprocAttr, ↓dnA, Tryz.f61, encT, rows_length, boolRows_length, List.length_set, List.length_replicate, hst, ← boolRows_set, frW, wk2, wk1, wkL, wkB, hpW, List.mem_cons, Prod.mk.injEq, exists_eq_left, exists_eq_right, exists_eq]
            · simp (config := { maxSteps := 4000000 }) only [go_sem, simprocAttr, ↓dnA, Tryz.f61, encT, rows_length, boolRows_length, List.length_set, List.length_replicate, frW, wk2, wk1, wkL, wkB, hpW, List.mem_cons, Prod.mk.injEq, exists_eq_left, exists_eq_right, exists_eq]
        · have hi' : i = cs.length := by omega
          subst hi'
          rw [List.take_length] at hl
          simp (config := { maxSteps := 4000000 }) only [go_sem, simprocAttr, ↓dnA, Tryz.f61, encT, rows_length, boolRows_length, List.length_set, List.length_replicate, nlf h, List.take_length, certL, hl]
    · have hr := certified_no (t := t) (cs := cs) (fun e => hc e.2)
      have hd : decide ((cs.length : Int) > 30) = true := by simp; omega
      simp (config := { maxSteps := 4000000 }) only [go_sem, simprocAttr, ↓dnA, Tryz.f61, encT, rows_length, boolRows_length, List.length_set, List.length_replicate, h0, hd, hr, boolRows, List.map_nil]

end Go.Proofs.YthcfafpjkbbaoaaGreat

/- Contracts: drawn certificates; FnCertBlock, FnCertifiedBlocks. -/
set_option linter.unusedSimpArgs false
set_option linter.unusedVariables false
set_option maxRecDepth 20000
set_option maxHeartbeats 4000000
namespace Go.Proofs.YthcfafpjkbbaoaaGreat
open Go Go.RowKit

def CertQ (nb : Option Bool) (bs : List Int) (p : Int) (r : AV) (b : List AV) : Prop := ∃ (c : Cert) (q : Int), r = .agg (encC c) ∧ b = rd nb bs q ∧ p ≤ q ∧ q ≤ p + 20

theorem c_spec_l20Cert (nb : Option Bool) (bs : List Int) (p n : Int) (n1 n2 n3 : Option Bool) (t : Tree) (h : RdOk bs p) (hp : p ≤ 999999000) (hn : 0 ≤ n ∧ n ≤ 1000000) (hts : tsz t ≤ 300) (hl1 : 1 ≤ t.blocks.length) :
    FSpec Tryz.prog 164 [.loc 0 0, .agg (encT n1 n2 n3 t), .int .i64 n] true (rd nb bs p) (CertQ nb bs p) := by
  refine fspec_rel tab_ok Tryz.call164 Tryz.func164 rfl 67 Tryz.ntmps164 (of_decide_eq_true rfl) fun B => codeK_sound tab_ok _ _ _ ?_
  unfold rd
  simp (config := { maxSteps := 4000000 }) only [go_sem, simprocAttr, ↓dnA, Tryz.f164, rows_length, tn0, tn1, tn2, tn3, tn4, encT]
  refine semL_draw tab_ok mixed_ rfl (ord := [(0, []), (1, []), (2, []), (3, []), (4, []), (5, []), (6, [0, 1]), (7, []), (8, []), (9, [0, 1, 2, 3, 4, 5, 7, 8]), (10, [])]) (by dsimp only; decide +kernel) ?_
  simp (config := { maxSteps := 4000000 }) only [go_sem, simprocAttr, ↓dnA, Tryz.f164, rows_length, tn0, tn1, tn2, tn3, tn4, encT]
  refine CallTo.of (c_spec_pick nb bs p (t.blocks.length : Int) h) ?_
  rintro r b ⟨m, rfl, rfl, hm⟩
  have hr1 := h.step (q := p + 1) (by omega) (by omega)
  obtain ⟨k, rfl⟩ : ∃ k : Nat, m = (k : Int) := ⟨m.toNat, by omega⟩
  have hk : k < t.blocks.length := by omega
  have hbk : (rows encB1 t.blocks).getD k [] = encB1 (t.blk k) := rows_gd encB1 t.blocks k hk
  have hkl : (t.blk k).list.length ≤ 300 := by
    have := lsum_mem t.blocks (t.blk k) (by rw [← t.blk_get k hk]; exact List.getElem_mem hk)
    unfold tsz at hts; omega
  generalize t.blk k = x at hbk hkl
  have hB := c_spec_BlockSum none x (by omega)
  generalize blockSum x = sm at hB
  simp (config := { maxSteps := 4000000 }) only [go_sem, simprocAttr, ↓dnA, Tryz.f164, rows_length, tn0, tn1, tn2, tn3, tn4, encT, rd, nlt hk, hk, nn0, hbk, encB1, encBk]
  refine semL_mid (fun a : Cert => ⟨67, [(0, .loc 900 0), (2, .int .i64 n), (4, .loc 4 0), (6, .loc 6 0), (7, .loc 7 0), (8, .loc 8 0)],
    [(900, .var (rd nb bs (p + 1 + 1 + 1))), (4, .var (encT n1 n2 n3 t)), (6, .var [.int .i64 0, .int .i64 0, .int .i64 0]), (7, .var (encBk none x)), (8, .var (encC a))]⟩) (fun _ => True) ?_ ?_
  · refine semL_slots tab_ok 9 [11] mixed_ rfl (by decide) (os := [([0, 7, 8, 1, 2, 3, 4, 5, 9, 10, 6, 11, 12, 13, 14, 15, 16], [(0, []), (3, []), (4, []), (5, []), (6, []), (7, []), (10, []), (1, [3, 4, 5, 6, 7, 10]), (2, []), (8, [3, 4, 5, 6, 10, 2]), (9, [3, 4, 5, 6, 10, 2]), (11, [3, 4, 5, 6, 2]), (12, []), (13, []), (14, []), (15, [0, 3, 4, 5, 6, 7, 10, 2, 12, 13, 14]), (16, [])]), ([0, 7, 8, 1, 2, 3, 4, 5, 9, 11, 6, 10, 12, 13, 14, 15, 16], [(0, []), (3, []), (4, []), (5, []), (6, []), (7, []), (10, []), (1, [3, 4, 5, 6, 7, 10]), (2, []), (8, [3, 4, 5, 6, 10, 2]), (11, [3, 4, 5, 6, 2]), (9, [3, 4, 5, 6, 2]), (12, []), (13, []), (14, []), (15, [0, 3, 4, 5, 6, 7, 10, 2, 12, 13, 14]), (16, [])])]) (by dsimp only; decide +kernel) ?_
    refine ⟨?_, ?_, trivial⟩
    all_goals
      simp (config := { maxSteps := 4000000 }) only [go_sem, simprocAttr, ↓dnA, Tryz.f164, rows_length, tn0, tn1, tn2, tn3, tn4, encT, rd, nlt hk, hk, nn0, hbk, encB1, encBk]
      refine CallTo.det hB fun _ => ?_
      simp (config := { maxSteps := 4000000 }) only [go_sem, simprocAttr, ↓dnA, Tryz.f164, rows_length, tn0, tn1, tn2, tn3, tn4, encT, rd, nlt hk, hk, nn0, hbk, encB1, encBk]
      refine CallTo.of (c_spec_pick nb bs (p + 1) 16 hr1) ?_
      rintro r b ⟨y, rfl, rfl, hy⟩
      have hr2 := h.step (q := p + 1 + 1) (by omega) (by omega)
      simp (config := { maxSteps := 4000000 }) only [go_sem, simprocAttr, ↓dnA, Tryz.f164, rows_length, tn0, tn1, tn2, tn3, tn4, encT, rd, nlt hk, hk, nn0, hbk, encB1, encBk]
      refine CallTo.of (c_spec_pick nb bs (p + 1 + 1) 5 hr2) ?_
      rintro r b ⟨z, rfl, rfl, hz⟩
      have hz5 : z = 0 ∨ z = 1 ∨ z = 2 ∨ z = 3 ∨ z = 4 := by omega
      rcases hz5 with rfl | rfl | rfl | rfl | rfl
      · simp (config := { maxSteps := 4000000 }) only [go_sem, simprocAttr, ↓dnA, Tryz.f164, rows_length, tn0, tn1, tn2, tn3, tn4, encT, rd, nlt hk, hk, nn0, hbk, encB1, encBk]
        refine ⟨⟨(if sm > 0 then sm else 0), (if (if x.view < 1000 then x.view else 1000) > 0 then (if x.view < 1000 then x.view else 1000) else 0), 7⟩, [(900, 900), (4, 4), (6, 6), (7, 7), (8, 8)], trivial, Weak.of (by rfl) ?_ ?_ (by rfl)⟩
        · simp (config := { maxSteps := 4000000 }) only [go_sem, simprocAttr, ↓dnA, Tryz.f164, rows_length, tn0, tn1, tn2, tn3, tn4, encT, rd, encBk, encC, frW, wk2, wk1, wkL, wkB, hpW, List.mem_cons, Prod.mk.injEq, exists_eq_left, exists_eq_right, exists_eq]
          try rfl
        · simp (config := { maxSteps := 4000000 }) only [go_sem, simprocAttr, ↓dnA, Tryz.f164, rows_length, tn0, tn1, tn2, tn3, tn4, encT, rd, frW, wk2, wk1, wkL, wkB, hpW, List.mem_cons, Prod.mk.injEq, exists_eq_left, exists_eq_right, exists_eq]
          try rfl
      · simp (config := { maxSteps := 4000000 }) only [go_sem, simprocAttr, ↓dnA, Tryz.f164, rows_length, tn0, tn1, tn2, tn3, tn4, encT, rd, nlt hk, hk, nn0, hbk, encB1, encBk]
        refine ⟨⟨(if sm > 0 then sm else 0), (if (if x.view < 1000 then x.view else 1000) > 0 then (if x.view < 1000 then x.view else 1000) else 0), 11⟩, [(900, 900), (4, 4), (6, 6), (7, 7), (8, 8)], trivial, Weak.of (by rfl) ?_ ?_ (by rfl)⟩
        · simp (config := { maxSteps := 4000000 }) only [go_sem, simprocAttr, ↓dnA, Tryz.f164, rows_length, tn0, tn1, tn2, tn3, tn4, encT, rd, encBk, encC, frW, wk2, wk1, wkL, wkB, hpW, List.mem_cons, Prod.mk.injEq, exists_eq_left, exists_eq_right, exists_eq]
          try rfl
        · simp (config := { maxSteps := 4000000 }) only [go_sem, simprocAttr, ↓dnA, Tryz.f164, rows_length, tn0, tn1, tn2, tn3, tn4, encT, rd, frW, wk2, wk1, wkL, wkB, hpW, List.mem_cons, Prod.mk.injEq, exists_eq_left, exists_eq_right, exists_eq]
          try rfl
      · simp (config := { maxSteps := 4000000 }) only [go_sem, simprocAttr, ↓dnA, Tryz.f164, rows_length, tn0, tn1, tn2, tn3, tn4, encT, rd, nlt hk, hk, nn0, hbk, encB1, encBk]
        refine ⟨⟨(if sm > 0 then sm else 0), (if (if x.view < 1000 then x.view else 1000) > 0 then (if x.view < 1000 then x.view else 1000) else 0), 14⟩, [(900, 900), (4, 4), (6, 6), (7, 7), (8, 8)], trivial, Weak.of (by rfl) ?_ ?_ (by rfl)⟩
        · simp (config := { maxSteps := 4000000 }) only [go_sem, simprocAttr, ↓dnA, Tryz.f164, rows_length, tn0, tn1, tn2, tn3, tn4, encT, rd, encBk, encC, frW, wk2, wk1, wkL, wkB, hpW, List.mem_cons, Prod.mk.injEq, exists_eq_left, exists_eq_right, exists_eq]
          try rfl
        · simp (config := { maxSteps := 4000000 }) only [go_sem, simprocAttr, ↓dnA, Tryz.f164, rows_length, tn0, tn1, tn2, tn3, tn4, encT, rd, frW, wk2, wk1, wkL, wkB, hpW, List.mem_cons, Prod.mk.injEq, exists_eq_left, exists_eq_right, exists_eq]
          try rfl
      · simp (config := { maxSteps := 4000000 }) only [go_sem, simprocAttr, ↓dnA, Tryz.f164, rows_length, tn0, tn1, tn2, tn3, tn4, encT, rd, nlt hk, hk, nn0, hbk, encB1, encBk]
        refine ⟨⟨(if sm > 0 then sm else 0), (if (if x.view < 1000 then x.view else 1000) > 0 then (if x.view < 1000 then x.view else 1000) else 0), 15⟩, [(900, 900), (4, 4), (6, 6), (7, 7), (8, 8)], trivial, Weak.of (by rfl) ?_ ?_ (by rfl)⟩
        · simp (config := { maxSteps := 4000000 }) only [go_sem, simprocAttr, ↓dnA, Tryz.f164, rows_length, tn0, tn1, tn2, tn3, tn4, encT, rd, encBk, encC, frW, wk2, wk1, wkL, wkB, hpW, List.mem_cons, Prod.mk.injEq, exists_eq_left, exists_eq_right, exists_eq]
          try rfl
        · simp (config := { maxSteps := 4000000 }) only [go_sem, simprocAttr, ↓dnA, Tryz.f164, rows_length, tn0, tn1, tn2, tn3, tn4, encT, rd, frW, wk2, wk1, wkL, wkB, hpW, List.mem_cons, Prod.mk.injEq, exists_eq_left, exists_eq_right, exists_eq]
          try rfl
      · simp (config := { maxSteps := 4000000 }) only [go_sem, simprocAttr, ↓dnA, Tryz.f164, rows_length, tn0, tn1, tn2, tn3, tn4, encT, rd, nlt hk, hk, nn0, hbk, encB1, encBk]
        refine ⟨⟨(if sm > 0 then sm else 0), (if (if x.view < 1000 then x.view else 1000) > 0 then (if x.view < 1000 then x.view else 1000) else 0), y⟩, [(900, 900), (4, 4), (6, 6), (7, 7), (8, 8)], trivial, Weak.of (by rfl) ?_ ?_ (by rfl)⟩
        · simp (config := { maxSteps := 4000000 }) only [go_sem, simprocAttr, ↓dnA, Tryz.f164, rows_length, tn0, tn1, tn2, tn3, tn4, encT, rd, encBk, encC, frW, wk2, wk1, wkL, wkB, hpW, List.mem_cons, Prod.mk.injEq, exists_eq_left, exists_eq_right, exists_eq]
          try rfl
        · simp (config := { maxSteps := 4000000 }) only [go_sem, simprocAttr, ↓dnA, Tryz.f164, rows_length, tn0, tn1, tn2, tn3, tn4, encT, rd, frW, wk2, wk1, wkL, wkB, hpW, List.mem_cons, Prod.mk.injEq, exists_eq_left, exists_eq_right, exists_eq]
          try rfl
  rintro c -
  have hr3 := h.step (q := p + 1 + 1 + 1) (by omega) (by omega)
  obtain ⟨sm1, vi1, sg1⟩ := c
  simp (config := { maxSteps := 4000000 }) only [go_sem, simprocAttr, ↓dnA, Tryz.f164, rows_length, tn0, tn1, tn2, tn3, tn4, encC, rd]
  refine CallTo.of (c_spec_odd nb bs (p + 1 + 1 + 1) 9 hr3 (by omega)) ?_
  rintro r b ⟨g1, q1, rfl, rfl, hq1, hq1'⟩
  have hr4 := h.step (q := q1) (by omega) (by omega)
  obtain ⟨vi2, hv2⟩ : ∃ v, v = IntKind.i64.wrap (vi1 + 1) := ⟨_, rfl⟩
  cases g1
  all_goals
    simp (config := { maxSteps := 4000000 }) only [go_sem, simprocAttr, ↓dnA, Tryz.f164, rows_length, tn0, tn1, tn2, tn3, tn4, encC, rd, ← hv2]
    refine CallTo.of (c_spec_odd nb bs q1 n hr4 hn) ?_
    rintro r b ⟨g2, q2, rfl, rfl, hq2, hq2'⟩
    have hr5 := h.step (q := q2) (by omega) (by omega)
    cases g2 with
    | false =>
      simp (config := { maxSteps := 4000000 }) only [go_sem, simprocAttr, ↓dnA, Tryz.f164, rows_length, tn0, tn1, tn2, tn3, tn4, encC, rd, ← hv2]
      exact .same ⟨⟨_, _, _⟩, q2, rfl, rfl, by omega, by omega⟩
    | true =>
      simp (config := { maxSteps := 4000000 }) only [go_sem, simprocAttr, ↓dnA, Tryz.f164, rows_length, tn0, tn1, tn2, tn3, tn4, encC, rd, ← hv2]
      refine CallTo.of (c_spec_pick nb bs q2 3 hr5) ?_
      rintro r b ⟨z, rfl, rfl, hz⟩
      have hr6 := h.step (q := q2 + 1) (by omega) (by omega)
      have hz3 : z = 0 ∨ z = 1 ∨ z = 2 := by omega
      rcases hz3 with rfl | rfl | rfl
      all_goals
        simp (config := { maxSteps := 4000000 }) only [go_sem, simprocAttr, ↓dnA, Tryz.f164, rows_length, tn0, tn1, tn2, tn3, tn4, encC, rd, ← hv2]
        refine CallTo.of (c_spec_pick nb bs (q2 + 1) 2 hr6) ?_
        rintro r b ⟨y, rfl, rfl, hy⟩
        have hy2 : y = 0 ∨ y = 1 := by omega
        rcases hy2 with rfl | rfl
        all_goals
          simp (config := { maxSteps := 4000000 }) only [go_sem, simprocAttr, ↓dnA, Tryz.f164, rows_length, tn0, tn1, tn2, tn3, tn4, encC, rd, ← hv2]
          exact .same ⟨⟨_, _, _⟩, q2 + 1 + 1, rfl, rfl, by omega, by omega⟩

end Go.Proofs.YthcfafpjkbbaoaaGreat

/- Contracts: drawn lists of certificates; FnCertifiedBlocks. -/
set_option linter.unusedSimpArgs false
set_option linter.unusedVariables false
set_option maxRecDepth 20000
set_option maxHeartbeats 4000000
namespace Go.Proofs.YthcfafpjkbbaoaaGreat
open Go Go.RowKit

def CertsQ (nb : Option Bool) (bs : List Int) (p : Int) (r : AV) (b : List AV) : Prop := ∃ (cs : List Cert) (q : Int), r = .osl true 3 (rows encC cs) ∧ b = rd nb bs q ∧ p ≤ q ∧ q ≤ p + 200 ∧ cs.length ≤ 40

theorem c_spec_l20Certs (nb : Option Bool) (bs : List Int) (p : Int) (n1 n2 n3 : Option Bool) (t : Tree) (h : RdOk bs p) (hp : p ≤ 999998000) (hts : tsz t ≤ 300) (hl1 : 1 ≤ t.blocks.length) (hl2 : t.blocks.length ≤ 14) :
    FSpec Tryz.prog 124 [.loc 0 0, .agg (encT n1 n2 n3 t)] true (rd nb bs p) (CertsQ nb bs p) := by
  refine fspec_rel tab_ok Tryz.call124 Tryz.func124 rfl 53 Tryz.ntmps124 (of_decide_eq_true rfl) fun B => codeK_sound tab_ok _ _ _ ?_
  unfold rd
  simp (config := { maxSteps := 4000000 }) only [go_sem, simprocAttr, ↓dnA, Tryz.f124, rows_length, tn0, tn1, tn2, tn3, tn4, encT]
  refine semL_for tab_ok (fun s : List Cert × Nat × Int => ⟨53, [(0, .loc 900 0), (3, .loc 3 0), (4, .sl (some false) []), (5, .row 600 s.1.length), (6, .int .i64 s.2.1)],
      [(900, .var (rd nb bs s.2.2)), (3, .var (encT n1 n2 n3 t)), (600, .row true true 3 (rows encC s.1))]⟩) (fun s => t.blocks.length - s.2.1)
    (fun s => s.2.1 ≤ t.blocks.length ∧ s.1.length ≤ s.2.1 ∧ p ≤ s.2.2 ∧ s.2.2 ≤ p + 2 * s.2.1) ([], 1, p) [(900, 900), (3, 3), (7, 600)] (Weak.of (by rfl) ?_ ?_ (by rfl)) ⟨by dsimp only; omega, by dsimp only; simp, by dsimp only; omega, by dsimp only; omega⟩ ?_
  · simp (config := { maxSteps := 4000000 }) only [go_sem, simprocAttr, ↓dnA, Tryz.f124, rows_length, tn0, tn1, tn2, tn3, tn4, rd, encT, frW, wk2, wk1, wkL, wkB, hpW, List.mem_cons, Prod.mk.injEq, exists_eq_left, exists_eq_right, exists_eq]
    try rfl
  · simp (config := { maxSteps := 4000000 }) only [go_sem, simprocAttr, ↓dnA, Tryz.f124, rows_length, tn0, tn1, tn2, tn3, tn4, rd, List.length_nil, frW, wk2, wk1, wkL, wkB, hpW, List.mem_cons, Prod.mk.injEq, exists_eq_left, exists_eq_right, exists_eq]
    try rfl
  · rintro ⟨cs, i, q⟩ ⟨i1, i2, i3, i4⟩
    dsimp only at i1 i2 i3 i4 ⊢
    have hq := h.step (q := q) (by omega) (by omega)
    have htk : (rows encC cs).take cs.length = rows encC cs := by rw [List.take_of_length_le]; rw [rows_length]; omega
    by_cases hi : i < t.blocks.length
    · have hw : IntKind.i64.wrap ((i : Int) + 1) = ((i + 1 : Nat) : Int) := wsucc hi (by omega)
      have hbk : (rows encB1 t.blocks).getD i [] = encB1 (t.blk i) := rows_gd encB1 t.blocks i hi
      have hkl : (t.blk i).list.length ≤ 300 := by
        have := lsum_mem t.blocks (t.blk i) (by rw [← t.blk_get i hi]; exact List.getElem_mem hi)
        unfold tsz at hts; omega
      generalize t.blk i = x at hbk hkl
      have hB := c_spec_BlockSum none x (by omega)
      generalize blockSum x = sm at hB
      simp (config := { maxSteps := 4000000 }) only [go_sem, simprocAttr, ↓dnA, Tryz.f124, rows_length, tn0, tn1, tn2, tn3, tn4, rd, encT, nlt hi]
      refine CallTo.of (c_spec_pick nb bs q 6 hq) ?_
      rintro r b ⟨z, rfl, rfl, hz⟩
      have hr1 := h.step (q := q + 1) (by omega) (by omega)
      cases hz0 : decide (z > 0) with
      | false =>
        simp (config := { maxSteps := 4000000 }) only [go_sem, simprocAttr, ↓dnA, Tryz.f124, rows_length, tn0, tn1, tn2, tn3, tn4, rd, encT, nlt hi, hz0, hw]
        refine ⟨(cs, i + 1, q + 1), [(900, 900), (3, 3), (600, 600)], ⟨by dsimp only; omega, by dsimp only; omega, by dsimp only; omega, by dsimp only; omega⟩, by dsimp only; omega, Weak.of (by rfl) ?_ ?_ (by rfl)⟩
        · simp (config := { maxSteps := 4000000 }) only [go_sem, simprocAttr, ↓dnA, Tryz.f124, rows_length, tn0, tn1, tn2, tn3, tn4, rd, encT, frW, wk2, wk1, wkL, wkB, hpW, List.mem_cons, Prod.mk.injEq, exists_eq_left, exists_eq_right, exists_eq]
          try rfl
        · simp (config := { maxSteps := 4000000 }) only [go_sem, simprocAttr, ↓dnA, Tryz.f124, rows_length, tn0, tn1, tn2, tn3, tn4, rd, frW, wk2, wk1, wkL, wkB, hpW, List.mem_cons, Prod.mk.injEq, exists_eq_left, exists_eq_right, exists_eq]
          try rfl
      | true =>
        simp (config := { maxSteps := 4000000 }) only [go_sem, simprocAttr, ↓dnA, Tryz.f124, rows_length, tn0, tn1, tn2, tn3, tn4, rd, encT, nlt hi, hz0, hw]
        refine semL_slotsL tab_ok 15 [6, 17] 23 mixed_ rfl (by decide) (os := [([0, 1, 2, 3, 4, 5, 15, 16, 6, 7, 8, 9, 10, 11, 12, 14, 13, 17, 18, 19, 20, 21, 22], [(0, []), (1, []), (2, []), (3, []), (4, []), (5, []), (8, []), (9, []), (10, []), (11, []), (12, []), (13, []), (14, []), (16, []), (15, [0, 1, 2, 3, 4, 5, 8, 9, 10, 11, 12, 13, 14, 16]), (6, [0, 8, 9, 10, 11, 12, 13, 14, 16]), (7, []), (17, [0, 8, 9, 10, 11, 12, 13, 14, 7]), (18, []), (19, []), (20, []), (21, [0]), (22, [])]), ([0, 1, 2, 3, 4, 5, 14, 15, 6, 7, 8, 9, 10, 11, 12, 16, 13, 17, 18, 19, 20, 21, 22], [(0, []), (1, []), (2, []), (3, []), (4, []), (5, []), (8, []), (9, []), (10, []), (11, []), (12, []), (13, []), (14, []), (16, []), (6, [0, 8, 9, 10, 11, 12, 13, 14, 16]), (7, []), (15, [0, 8, 9, 10, 11, 12, 13, 14, 16, 7]), (17, [0, 8, 9, 10, 11, 12, 13, 14, 7]), (18, []), (19, []), (20, []), (21, [0]), (22, [])]), ([0, 1, 2, 3, 4, 5, 14, 15, 6, 7, 8, 9, 10, 11, 12, 17, 13, 16, 18, 19, 20, 21, 22], [(0, []), (1, []), (2, []), (3, []), (4, []), (5, []), (8, []), (9, []), (10, []), (11, []), (12, []), (13, []), (14, []), (16, []), (6, [0, 8, 9, 10, 11, 12, 13, 14, 16]), (7, []), (17, [0, 8, 9, 10, 11, 12, 13, 14, 7]), (15, [0, 8, 9, 10, 11, 12, 13, 14, 7]), (18, []), (19, []), (20, []), (21, [0]), (22, [])])]) (by dsimp only; decide +kernel) ?_
        refine ⟨?_, ?_, ?_, trivial⟩
        all_goals
          simp (config := { maxSteps := 4000000 }) only [go_sem, simprocAttr, ↓dnA, Tryz.f124, rows_length, tn0, tn1, tn2, tn3, tn4, rd, encT, nlt hi, hi, nn0, hbk, encB1, encBk, hz0, hw]
          refine CallTo.det hB fun _ => ?_
          simp (config := { maxSteps := 4000000 }) only [go_sem, simprocAttr, ↓dnA, Tryz.f124, rows_length, tn0, tn1, tn2, tn3, tn4, rd, encT, nlt hi, hi, nn0, hbk, encB1, encBk, hz0, hw]
          refine CallTo.of (c_spec_pick nb bs (q + 1) 4 hr1) ?_
          rintro r b ⟨y, rfl, rfl, hy⟩
          have hy4 : y = 0 ∨ y = 1 ∨ y = 2 ∨ y = 3 := by omega
          rcases hy4 with rfl | rfl | rfl | rfl
          · simp (config := { maxSteps := 4000000 }) only [go_sem, simprocAttr, ↓dnA, Tryz.f124, rows_length, tn0, tn1, tn2, tn3, tn4, rd, encT, nlt hi, hi, nn0, hbk, encB1, encBk, hz0, hw, htk]
            repeat refine And.intro (by first | omega | (simp; done) | (simp; omega) | assumption) ?_
            refine ⟨(cs ++ [⟨(if sm > 0 then sm else 0), (if x.view > 0 then x.view else 0), 7⟩], i + 1, q + 1 + 1), [(900, 900), (3, 3), (40, 600)], ⟨by dsimp only; omega, by dsimp only; simp; omega, by dsimp only; omega, by dsimp only; omega⟩, by dsimp only; omega, Weak.of (by rfl) ?_ ?_ (by rfl)⟩
            · simp (config := { maxSteps := 4000000 }) only [go_sem, simprocAttr, ↓dnA, Tryz.f124, rows_length, tn0, tn1, tn2, tn3, tn4, rd, encT, ← rows_snoc, encC, frW, wk2, wk1, wkL, wkB, hpW, List.mem_cons, Prod.mk.injEq, exists_eq_left, exists_eq_right, exists_eq]
              try rfl
            · simp (config := { maxSteps := 4000000 }) only [go_sem, simprocAttr, ↓dnA, Tryz.f124, rows_length, tn0, tn1, tn2, tn3, tn4, rd, List.length_append, frW, wk2, wk1, wkL, wkB, hpW, List.mem_cons, Prod.mk.injEq, exists_eq_left, exists_eq_right, exists_eq]
              try rfl
          · simp (config := { maxSteps := 4000000 }) only [go_sem, simprocAttr, ↓dnA, Tryz.f124, rows_length, tn0, tn1, tn2, tn3, tn4, rd, encT, nlt hi, hi, nn0, hbk, encB1, encBk, hz0, hw, htk]
            repeat refine And.intro (by first | omega | (simp; done) | (simp; omega) | assumption) ?_
            refine ⟨(cs ++ [⟨(if sm > 0 then sm else 0), (if x.view > 0 then x.view else 0), 13⟩], i + 1, q + 1 + 1), [(900, 900), (3, 3), (40, 600)], ⟨by dsimp only; omega, by dsimp only; simp; omega, by dsimp only; omega, by dsimp only; omega⟩, by dsimp only; omega, Weak.of (by rfl) ?_ ?_ (by rfl)⟩
            · simp (config := { maxSteps := 4000000 }) only [go_sem, simprocAttr, ↓dnA, Tryz.f124, rows_length, tn0, tn1, tn2, tn3, tn4, rd, encT, ← rows_snoc, encC, frW, wk2, wk1, wkL, wkB, hpW, List.mem_cons, Prod.mk.injEq, exists_eq_left, exists_eq_right, exists_eq]
              try rfl
            · simp (config := { maxSteps := 4000000 }) only [go_sem, simprocAttr, ↓dnA, Tryz.f124, rows_length, tn0, tn1, tn2, tn3, tn4, rd, List.length_append, frW, wk2, wk1, wkL, wkB, hpW, List.mem_cons, Prod.mk.injEq, exists_eq_left, exists_eq_right, exists_eq]
              try rfl
          · simp (config := { maxSteps := 4000000 }) only [go_sem, simprocAttr, ↓dnA, Tryz.f124, rows_length, tn0, tn1, tn2, tn3, tn4, rd, encT, nlt hi, hi, nn0, hbk, encB1, encBk, hz0, hw, htk]
            repeat refine And.intro (by first | omega | (simp; done) | (simp; omega) | assumption) ?_
            refine ⟨(cs ++ [⟨(if sm > 0 then sm else 0), (if x.view > 0 then x.view else 0), 15⟩], i + 1, q + 1 + 1), [(900, 900), (3, 3), (40, 600)], ⟨by dsimp only; omega, by dsimp only; simp; omega, by dsimp only; omega, by dsimp only; omega⟩, by dsimp only; omega, Weak.of (by rfl) ?_ ?_ (by rfl)⟩
            · simp (config := { maxSteps := 4000000 }) only [go_sem, simprocAttr, ↓dnA, Tryz.f124, rows_length, tn0, tn1, tn2, tn3, tn4, rd, encT, ← rows_snoc, encC, frW, wk2, wk1, wkL, wkB, hpW, List.mem_cons, Prod.mk.injEq, exists_eq_left, exists_eq_right, exists_eq]
              try rfl
            · simp (config := { maxSteps := 4000000 }) only [go_sem, simprocAttr, ↓dnA, Tryz.f124, rows_length, tn0, tn1, tn2, tn3, tn4, rd, List.length_append, frW, wk2, wk1, wkL, wkB, hpW, List.mem_cons, Prod.mk.injEq, exists_eq_left, exists_eq_right, exists_eq]
              try rfl
          · simp (config := { maxSteps := 4000000 }) only [go_sem, simprocAttr, ↓dnA, Tryz.f124, rows_length, tn0, tn1, tn2, tn3, tn4, rd, encT, nlt hi, hi, nn0, hbk, encB1, encBk, hz0, hw, htk]
            repeat refine And.intro (by first | omega | (simp; done) | (simp; omega) | assumption) ?_
            refine ⟨(cs ++ [⟨(if sm > 0 then sm else 0), (if x.view > 0 then x.view else 0), 3⟩], i + 1, q + 1 + 1), [(900, 900), (3, 3), (40, 600)], ⟨by dsimp only; omega, by dsimp only; simp; omega, by dsimp only; omega, by dsimp only; omega⟩, by dsimp only; omega, Weak.of (by rfl) ?_ ?_ (by rfl)⟩
            · simp (config := { maxSteps := 4000000 }) only [go_sem, simprocAttr, ↓dnA, Tryz.f124, rows_length, tn0, tn1, tn2, tn3, tn4, rd, encT, ← rows_snoc, encC, frW, wk2, wk1, wkL, wkB, hpW, List.mem_cons, Prod.mk.injEq, exists_eq_left, exists_eq_right, exists_eq]
              try rfl
            · simp (config := { maxSteps := 4000000 }) only [go_sem, simprocAttr, ↓dnA, Tryz.f124, rows_length, tn0, tn1, tn2, tn3, tn4, rd, List.length_append, frW, wk2, wk1, wkL, wkB, hpW, List.mem_cons, Prod.mk.injEq, exists_eq_left, exists_eq_right, exists_eq]
              try rfl
    · have hi' : i = t.blocks.length := by omega
      simp (config := { maxSteps := 4000000 }) only [go_sem, simprocAttr, ↓dnA, Tryz.f124, rows_length, tn0, tn1, tn2, tn3, tn4, rd, encT, nlf hi]
      refine CallTo.of (c_spec_odd nb bs q 9 hq (by omega)) ?_
      rintro r b ⟨g1, q1, rfl, rfl, hq1, hq1'⟩
      have hr1 := h.step (q := q1) (by omega) (by omega)
      cases g1 with
      | false =>
        simp (config := { maxSteps := 4000000 }) only [go_sem, simprocAttr, ↓dnA, Tryz.f124, rows_length, tn0, tn1, tn2, tn3, tn4, rd, encT, nlf hi]
        refine CallTo.of (c_spec_odd nb bs q1 24 hr1 (by omega)) ?_
        rintro r b ⟨g2, q2, rfl, rfl, hq2, hq2'⟩
        cases g2 with
        | false =>
          simp (config := { maxSteps := 4000000 }) only [go_sem, simprocAttr, ↓dnA, Tryz.f124, rows_length, tn0, tn1, tn2, tn3, tn4, rd, encT, nlf hi]
          exact .same ⟨cs, q2, rfl, rfl, by omega, by omega, by omega⟩
        | true =>
          simp (config := { maxSteps := 4000000 }) only [go_sem, simprocAttr, ↓dnA, Tryz.f124, rows_length, tn0, tn1, tn2, tn3, tn4, rd, encT, nlf hi]
          exact .same ⟨List.replicate 31 ⟨0, 0, 0⟩, q2, by rw [← rows_replicate]; rfl, rfl, by omega, by omega, by simp⟩
      | true =>
        simp (config := { maxSteps := 4000000 }) only [go_sem, simprocAttr, ↓dnA, Tryz.f124, rows_length, tn0, tn1, tn2, tn3, tn4, rd, encT, nlf hi]
        refine CallTo.of (c_spec_l20Cert nb bs q1 2 n1 n2 n3 t hr1 (by omega) (by omega) hts hl1) ?_
        rintro r b ⟨c, q3, rfl, rfl, hq3, hq3'⟩
        have hr3 := h.step (q := q3) (by omega) (by omega)
        have hsn : rows encC cs ++ [[.int .i64 c.sum, .int .i64 c.view, .int .i64 c.signers]] = rows encC (cs ++ [c]) := by rw [← rows_snoc]; rfl
        have hll : (cs ++ [c]).length = cs.length + 1 := by simp
        simp (config := { maxSteps := 4000000 }) only [go_sem, simprocAttr, ↓dnA, Tryz.f124, rows_length, tn0, tn1, tn2, tn3, tn4, rd, encT, nlf hi, encC, htk, hsn, hll]
        repeat refine And.intro (by first | omega | (simp; done) | (simp; omega) | assumption) ?_
        refine CallTo.of (c_spec_odd nb bs q3 24 hr3 (by omega)) ?_
        rintro r b ⟨g2, q2, rfl, rfl, hq2, hq2'⟩
        cases g2 with
        | false =>
          simp (config := { maxSteps := 4000000 }) only [go_sem, simprocAttr, ↓dnA, Tryz.f124, rows_length, tn0, tn1, tn2, tn3, tn4, rd, encT, nlf hi, encC, htk, hsn, hll]
          exact .same ⟨cs ++ [c], q2, rfl, rfl, by omega, by omega, by rw [hll]; omega⟩
        | true =>
          simp (config := { maxSteps := 4000000 }) only [go_sem, simprocAttr, ↓dnA, Tryz.f124, rows_length, tn0, tn1, tn2, tn3, tn4, rd, encT, nlf hi, encC, htk, hsn, hll]
          exact .same ⟨List.replicate 31 ⟨0, 0, 0⟩, q2, by rw [← rows_replicate]; rfl, rfl, by omega, by omega, by simp⟩

def CertsP (nb : Option Bool) (bs : List Int) (p : Int) (r : AV) (b : List AV) : Prop := ∃ (cs : List Cert) (q : Int), r = .sl none (rows encC cs) ∧ b = rd nb bs q ∧ p ≤ q ∧ q ≤ p + 200 ∧ cs.length ≤ 40
theorem c_spec_l20CertsP (nb : Option Bool) (bs : List Int) (p : Int) (n1 n2 n3 : Option Bool) (t : Tree) (h : RdOk bs p) (hp : p ≤ 999998000) (hts : tsz t ≤ 300) (hl1 : 1 ≤ t.blocks.length) (hl2 : t.blocks.length ≤ 14) :
    FSpec Tryz.prog 124 [.loc 0 0, .agg (encT n1 n2 n3 t)] true (rd nb bs p) (CertsP nb bs p) := by
  refine (c_spec_l20Certs nb bs p n1 n2 n3 t h hp hts hl1 hl2).pureOne ?_
  rintro r b ⟨cs, q, rfl, rfl, h1, h2, h3⟩
  exact ⟨_, _, _, rfl, cs, q, rfl, rfl, h1, h2, h3⟩

def DrawCsQ (r : AV) (b : List AV) : Prop := ∃ (t : Tree) (cs : List Cert), r = .tup [.agg (encT none none none t), .sl none (rows encC cs)] ∧ tsz t ≤ 200 ∧ 1 ≤ t.blocks.length ∧ t.blocks.length ≤ 14 ∧ cs.length ≤ 40

theorem c_spec_DrawCertifiedBlocks (nb : Option Bool) (bs : List Int) (h : CodeOk bs) : FSpec Tryz.prog 59 [.sl nb (rows encB bs)] false [] DrawCsQ := by
  refine fspec_rel tab_ok Tryz.call59 Tryz.func59 rfl 14 Tryz.ntmps59 (of_decide_eq_true rfl) fun B => codeK_sound tab_ok _ _ _ ?_
  simp (config := { maxSteps := 4000000 }) only [go_sem, simprocAttr, ↓dnA, Tryz.f59, rows_length]
  refine CallTo.of (c_spec_l20Open nb bs h) ?_
  rintro r b rfl
  unfold rd
  simp (config := { maxSteps := 4000000 }) only [go_sem, simprocAttr, ↓dnA, Tryz.f59, rows_length]
  have h0 := code_take h
  generalize bs.take 2000 = bs at h0
  refine CallTo.of (c_spec_l20LineP nb _ 0 12 h0 (by omega) (by omega)) ?_
  rintro r b ⟨t, q, rfl, rfl, hq1, hq2, hts, hl1, hl2, _⟩
  have hq := h0.step (q := q) (by omega) (by omega)
  simp (config := { maxSteps := 4000000 }) only [go_sem, simprocAttr, ↓dnA, Tryz.f59, rows_length, rd, encT]
  refine semL_draw tab_ok mixed_ rfl (ord := [(0, []), (1, []), (2, []), (3, [0]), (4, []), (5, [])]) (by dsimp only; decide +kernel) ?_
  simp (config := { maxSteps := 4000000 }) only [go_sem, simprocAttr, ↓dnA, Tryz.f59, rows_length, rd, encT]
  refine CallTo.of (c_spec_l20CertsP nb bs q none none none t hq (by omega) (by omega) hl1 hl2) ?_
  rintro r b ⟨cs, q2, rfl, rfl, _, _, hcs⟩
  simp (config := { maxSteps := 4000000 }) only [go_sem, simprocAttr, ↓dnA, Tryz.f59, rows_length, rd, encT]
  exact .same ⟨t, cs, by simp [encT], hts, hl1, hl2, hcs⟩

end Go.Proofs.YthcfafpjkbbaoaaGreat

/- Contracts: voters after their votes. -/
set_option linter.unusedSimpArgs false
set_option linter.unusedVariables false
set_option maxRecDepth 20000
set_option maxHeartbeats 4000000
namespace Go.Proofs.YthcfafpjkbbaoaaGreat
open Go Go.RowKit

end Go.Proofs.YthcfafpjkbbaoaaGreat

/- Contracts: worlds, and when they are valid. -/
set_option linter.unusedSimpArgs false
set_option linter.unusedVariables false
set_option maxRecDepth 20000
set_option maxHeartbeats 4000000
namespace Go.Proofs.YthcfafpjkbbaoaaGreat
open Go Go.RowKit

structure Wld where
  tree : Tree
  voters : List Voter
  votes : List Int
deriving DecidableEq, Inhabited

structure WldSz (w : Wld) : Prop where
  tree : TreeSz w.tree
  voters : w.voters.length < 2 ^ 62
  votes : w.votes.length < 2 ^ 62

end Go.Proofs.YthcfafpjkbbaoaaGreat

/- Contracts: FnExactWorldValid. -/
set_option linter.unusedSimpArgs false
set_option linter.unusedVariables false
set_option maxRecDepth 20000
set_option maxHeartbeats 4000000
namespace Go.Proofs.YthcfafpjkbbaoaaGreat
open Go Go.RowKit

/-- How much a world is. -/
def wsz (w : Wld) : Nat := tsz w.tree + w.voters.length + w.votes.length
structure WldS32 (w : Wld) : Prop where
  sum : wsz w ≤ 1048576
theorem WldS32.tree {w : Wld} (h : WldS32 w) : TreeS32 w.tree := ⟨by have := h.sum; unfold wsz at this; omega⟩
theorem WldS32.voters {w : Wld} (h : WldS32 w) : w.voters.length < 2 ^ 32 := by have := h.sum; unfold wsz at this; omega
theorem WldS32.votes {w : Wld} (h : WldS32 w) : w.votes.length < 2 ^ 32 := by have := h.sum; unfold wsz at this; omega

theorem WldS32.sz {w : Wld} (h : WldS32 w) : WldSz w := ⟨h.tree.sz, by have := h.voters; omega, by have := h.votes; omega⟩

end Go.Proofs.YthcfafpjkbbaoaaGreat

/- Contracts: copies, sizes, tests and marks of certificates, bools, worlds. -/
set_option linter.unusedSimpArgs false
set_option linter.unusedVariables false
set_option maxRecDepth 20000
set_option maxHeartbeats 4000000
namespace Go.Proofs.YthcfafpjkbbaoaaGreat
open Go Go.RowKit

end Go.Proofs.YthcfafpjkbbaoaaGreat

/- Worlds: new ones, their certificates, what is committed in them: plain. -/
set_option linter.unusedSimpArgs false
set_option linter.unusedVariables false
set_option maxRecDepth 20000
set_option maxHeartbeats 4000000
namespace Go.Proofs.YthcfafpjkbbaoaaGreat
open Go Go.RowKit

/-! Valid trees and worlds are small. -/
theorem tb_list {b : Block} (h : blockValid b = true) : b.list.length ≤ 10 := by
  unfold blockValid at h
  simp only [Bool.and_eq_true] at h
  obtain ⟨⟨⟨⟨⟨_, _⟩, _⟩, _⟩, _⟩, h6⟩ := h
  unfold actionsValid at h6
  rw [Bool.and_eq_true] at h6
  exact of_decide_eq_true h6.1
end Go.Proofs.YthcfafpjkbbaoaaGreat

/- Contracts: copies of worlds, new worlds, their certificates and heads. -/
set_option linter.unusedSimpArgs false
set_option linter.unusedVariables false
set_option maxRecDepth 20000
set_option maxHeartbeats 4000000
namespace Go.Proofs.YthcfafpjkbbaoaaGreat
open Go Go.RowKit

end Go.Proofs.YthcfafpjkbbaoaaGreat

/- Contracts: votes in worlds. -/
set_option linter.unusedSimpArgs false
set_option linter.unusedVariables false
set_option maxRecDepth 20000
set_option maxHeartbeats 4000000
namespace Go.Proofs.YthcfafpjkbbaoaaGreat
open Go Go.RowKit

/-- Whether the member m is in a mask; the mask with it. -/
def hasB (v : Int) (m : Nat) : Bool := (v / 2 ^ m) % 2 == 1
end Go.Proofs.YthcfafpjkbbaoaaGreat

/- Contracts: worlds after a vote. -/
set_option linter.unusedSimpArgs false
set_option linter.unusedVariables false
set_option maxRecDepth 20000
set_option maxHeartbeats 4000000
namespace Go.Proofs.YthcfafpjkbbaoaaGreat
open Go Go.RowKit

end Go.Proofs.YthcfafpjkbbaoaaGreat

/- Contracts: worlds after votes. -/
set_option linter.unusedSimpArgs false
set_option linter.unusedVariables false
set_option maxRecDepth 20000
set_option maxHeartbeats 4000000
namespace Go.Proofs.YthcfafpjkbbaoaaGreat
open Go Go.RowKit

def ScOk (sc : List Int) : Prop := sc.length ≤ 100 ∧ (sc.all fun m => inB m 0 1000) = true
end Go.Proofs.YthcfafpjkbbaoaaGreat

/- Contracts: drawn votes and worlds; FnWorldValid. -/
set_option linter.unusedSimpArgs false
set_option linter.unusedVariables false
set_option maxRecDepth 20000
set_option maxHeartbeats 4000000
namespace Go.Proofs.YthcfafpjkbbaoaaGreat
open Go Go.RowKit

end Go.Proofs.YthcfafpjkbbaoaaGreat

/- Contracts: blocks that are committed at once. -/
set_option linter.unusedSimpArgs false
set_option linter.unusedVariables false
set_option maxRecDepth 20000
set_option maxHeartbeats 4000000
namespace Go.Proofs.YthcfafpjkbbaoaaGreat
open Go Go.RowKit

/-- What is read of a tree at the block d, those before it. -/
theorem head_facts {t : Tree} (ht : TreeOk t) {d : Nat} (hd : d < t.blocks.length) (ce : List Bool) (hce : ce.length = t.blocks.length) :
    d < t.before.length ∧ (rows encI t.before).getD d [] = [.int .i64 (t.bef d)] ∧ (rows encB1 t.blocks).getD d [] = encB1 (t.blk d) ∧ (boolRows ce).getD d [] = [.bool (ce.getD d false)] ∧
      (0 ≤ (t.blk d).view ∧ (t.blk d).view ≤ 1000) ∧ (t.bef d < 0 ∨ ∃ c : Nat, t.bef d = (c : Int) ∧ c < t.blocks.length) := by
  have hb : d < t.before.length := by rw [ht.bef]; exact hd
  have hv := view_bd (ht.valid d hd)
  refine ⟨hb, by rw [rows_get _ _ d hb, t.bef_get d hb]; rfl, rows_gd _ _ d hd, boolRows_get ce d (by omega), hv, ?_⟩
  by_cases h : t.bef d < 0
  · exact .inl h
  · refine .inr ⟨(t.bef d).toNat, by omega, ?_⟩
    by_cases h0 : d = 0
    · subst h0; rw [ht.bef0] at h; omega
    · have := (ht.link d (by omega) hd).hi; omega

theorem headsTo_step (t : Tree) (ce : List Bool) (d : Nat) : headsTo t ce (d + 1) = headStep t ce (headsTo t ce d) d := rfl

/-- What a block does, in the words of its cells. -/
theorem headStep_no {t : Tree} {ce l : List Bool} {d : Nat} (h : t.bef d < 0) : headStep t ce l d = l := by
  unfold headStep; rw [if_pos h]
theorem headStep_no2 {t : Tree} {ce l : List Bool} {d c : Nat} (hc : t.bef d = (c : Int)) (h : t.bef c < 0) : headStep t ce l d = l := by
  unfold headStep; rw [hc, if_neg (by omega), Int.toNat_natCast, if_pos h]
theorem headStep_yes {t : Tree} {ce l : List Bool} {d c b : Nat} (hc : t.bef d = (c : Int)) (hb : t.bef c = (b : Int)) : headStep t ce l d = if threeB t ce b c d then l.set b true else l := by
  unfold headStep; rw [hc, if_neg (by omega), Int.toNat_natCast, hb, if_neg (by omega), Int.toNat_natCast]

theorem v2 (b c d : Int) : ((c == b + 1) && (d == b + 2)) = ((b + 1 == c) && (c + 1 == d)) := by
  rw [Bool.eq_iff_iff]
  simp only [Bool.and_eq_true, beq_iff_eq]
  omega

theorem c_impl_heads (n1 n2 n3 n4 : Option Bool) (t : Tree) (ce : List Bool) (hx : TreeSz t) (ht : TreeOk t) (hce : ce.length = t.blocks.length) :
    Det Tryz.prog 60 [.agg (encT n1 n2 n3 t), .sl n4 (boolRows ce)] (.osl false 1 (rows encI (headsL t ce))) := by
  refine fspec_det tab_ok Tryz.call60 Tryz.func60 rfl 105 Tryz.ntmps60 (of_decide_eq_true rfl) fun B => codeK_sound tab_ok _ _ _ ?_
  have hlen := ht.len
  simp (config := { maxSteps := 4000000 }) only [go_sem, simprocAttr, ↓dnA, Tryz.f60, encT, rows_length, boolRows_length, List.length_set, List.length_replicate]
  repeat refine And.intro (by first | omega | (simp; done) | (simp; omega) | assumption) ?_
  refine semL_for tab_ok (fun i : Nat => ⟨105, [(1, .sl n4 (boolRows ce)), (2, .loc 2 0), (5, .row 600 t.blocks.length), (19, .int .i64 t.blocks.length), (20, .int .i64 i)],
      [(2, .var (encT n1 n2 n3 t)), (600, .row true true 1 (boolRows (headsTo t ce i)))]⟩) (fun i => t.blocks.length - i)
    (fun i => i ≤ t.blocks.length) 0 [(2, 2), (16, 600)] (Weak.of (by rfl) ?_ ?_ (by rfl)) (by omega) ?_
  · simp (config := { maxSteps := 4000000 }) only [go_sem, simprocAttr, ↓dnA, Tryz.f60, encT, rows_length, boolRows_length, List.length_set, List.length_replicate, frW, wk2, wk1, wkL, wkB, hpW, List.mem_cons, Prod.mk.injEq, exists_eq_left, exists_eq_right, exists_eq]
    exact boolRows_rep _ _
  · simp (config := { maxSteps := 4000000 }) only [go_sem, simprocAttr, ↓dnA, Tryz.f60, encT, rows_length, boolRows_length, List.length_set, List.length_replicate, frW, wk2, wk1, wkL, wkB, hpW, List.mem_cons, Prod.mk.injEq, exists_eq_left, exists_eq_right, exists_eq]
  · rintro i hi
    have hl := headsTo_len t ce i
    by_cases h : i < t.blocks.length
    · have hw : IntKind.i64.wrap ((i : Int) + 1) = ((i + 1 : Nat) : Int) := wsucc h (by omega)
      have hst := headsTo_step t ce i
      generalize headsTo t ce i = l at hl hst
      obtain ⟨f1, f2, f3, f4, f5, f6⟩ := head_facts ht h ce hce
      rcases f6 with hc | ⟨c, hc, hcl⟩
      · rw [headStep_no hc] at hst
        simp (config := { maxSteps := 4000000 }) only [go_sem, simprocAttr, ↓dnA, Tryz.f60, encT, rows_length, boolRows_length, List.length_set, List.length_replicate, nlt h, h, nn0, nlt f1, f1, f2, decide_eq_true hc, hw]
        refine ⟨i + 1, [(2, 2), (600, 600)], by omega, by dsimp only; omega, Weak.of (by rfl) ?_ ?_ (by rfl)⟩
        · simp (config := { maxSteps := 4000000 }) only [go_sem, simprocAttr, ↓dnA, Tryz.f60, encT, rows_length, boolRows_length, List.length_set, List.length_replicate, hst, frW, wk2, wk1, wkL, wkB, hpW, List.mem_cons, Prod.mk.injEq, exists_eq_left, exists_eq_right, exists_eq]
        · simp (config := { maxSteps := 4000000 }) only [go_sem, simprocAttr, ↓dnA, Tryz.f60, encT, rows_length, boolRows_length, List.length_set, List.length_replicate, frW, wk2, wk1, wkL, wkB, hpW, List.mem_cons, Prod.mk.injEq, exists_eq_left, exists_eq_right, exists_eq]
      · have dc : decide ((c : Int) < 0) = false := by simp
        obtain ⟨c1, c2, c3, c4, c5, c6⟩ := head_facts ht hcl ce hce
        rcases c6 with hb | ⟨b, hb, hbl⟩
        · rw [headStep_no2 hc hb] at hst
          simp (config := { maxSteps := 4000000 }) only [go_sem, simprocAttr, ↓dnA, Tryz.f60, encT, rows_length, boolRows_length, List.length_set, List.length_replicate, nlt h, h, nn0, nlt f1, f1, f2, hc, dc, nlt c1, c1, c2, decide_eq_true hb, hw]
          refine ⟨i + 1, [(2, 2), (600, 600)], by omega, by dsimp only; omega, Weak.of (by rfl) ?_ ?_ (by rfl)⟩
          · simp (config := { maxSteps := 4000000 }) only [go_sem, simprocAttr, ↓dnA, Tryz.f60, encT, rows_length, boolRows_length, List.length_set, List.length_replicate, hst, frW, wk2, wk1, wkL, wkB, hpW, List.mem_cons, Prod.mk.injEq, exists_eq_left, exists_eq_right, exists_eq]
          · simp (config := { maxSteps := 4000000 }) only [go_sem, simprocAttr, ↓dnA, Tryz.f60, encT, rows_length, boolRows_length, List.length_set, List.length_replicate, frW, wk2, wk1, wkL, wkB, hpW, List.mem_cons, Prod.mk.injEq, exists_eq_left, exists_eq_right, exists_eq]
        · have db : decide ((b : Int) < 0) = false := by simp
          obtain ⟨b1, b2, b3, b4, b5, b6⟩ := head_facts ht hbl ce hce
          have w1 : IntKind.i64.wrap ((t.blk b).view + 1) = (t.blk b).view + 1 := wrap_small _ (by omega) (by omega)
          have w2 : IntKind.i64.wrap ((t.blk b).view + 2) = (t.blk b).view + 2 := wrap_small _ (by omega) (by omega)
          rw [headStep_yes hc hb] at hst
          have h3 : threeB t ce b c i = (ce.getD b false && (ce.getD c false && (ce.getD i false && (((t.blk c).view == (t.blk b).view + 1) && ((t.blk i).view == (t.blk b).view + 2))))) := by
            unfold threeB; rw [v2]
          rw [h3] at hst
          have no : ∀ q : Bool, q = false → (if q then l.set b true else l) = l := fun q e => by rw [e, if_neg Bool.false_ne_true]
          have yes : ∀ q : Bool, q = true → (if q then l.set b true else l) = l.set b true := fun q e => by rw [e, if_pos rfl]
          cases e1 : ce.getD b false with
          | false =>
            rw [no _ (by rw [e1]; rfl)] at hst
            simp (config := { maxSteps := 4000000 }) only [go_sem, simprocAttr, ↓dnA, Tryz.f60, encT, rows_length, boolRows_length, List.length_set, List.length_replicate, nlt h, h, nn0, nlt f1, f1, f2, hc, dc, nlt c1, c1, c2, hb, db, nlt hcl, hcl, nlt hbl, hbl, f3, c3, b3, f4, c4, b4, hce, encB1, encBk, w1, w2, e1, hw]
            refine ⟨i + 1, [(2, 2), (600, 600)], by omega, by dsimp only; omega, Weak.of (by rfl) ?_ ?_ (by rfl)⟩
            · simp (config := { maxSteps := 4000000 }) only [go_sem, simprocAttr, ↓dnA, Tryz.f60, encT, rows_length, boolRows_length, List.length_set, List.length_replicate, hst, frW, wk2, wk1, wkL, wkB, hpW, List.mem_cons, Prod.mk.injEq, exists_eq_left, exists_eq_right, exists_eq]
            · simp (config := { maxSteps := 4000000 }) only [go_sem, simprocAttr, ↓dnA, Tryz.f60, encT, rows_length, boolRows_length, List.length_set, List.length_replicate, frW, wk2, wk1, wkL, wkB, hpW, List.mem_cons, Prod.mk.injEq, exists_eq_left, exists_eq_right, exists_eq]
          | true =>
          cases e2 : ce.getD c false with
          | false =>
            rw [no _ (by rw [e1, e2]; rfl)] at hst
            simp (config := { maxSteps := 4000000 }) only [go_sem, simprocAttr, ↓dnA, Tryz.f60, encT, rows_length, boolRows_length, List.length_set, List.length_replicate, nlt h, h, nn0, nlt f1, f1, f2, hc, dc, nlt c1, c1, c2, hb, db, nlt hcl, hcl, nlt hbl, hbl, f3, c3, b3, f4, c4, b4, hce, encB1, encBk, w1, w2, e1, e2, hw]
            refine ⟨i + 1, [(2, 2), (600, 600)], by omega, by dsimp only; omega, Weak.of (by rfl) ?_ ?_ (by rfl)⟩
            · simp (config := { maxSteps := 4000000 }) only [go_sem, simprocAttr, ↓dnA, Tryz.f60, encT, rows_length, boolRows_length, List.length_set, List.length_replicate, hst, frW, wk2, wk1, wkL, wkB, hpW, List.mem_cons, Prod.mk.injEq, exists_eq_left, exists_eq_right, exists_eq]
            · simp (config := { maxSteps := 4000000 }) only [go_sem, simprocAttr, ↓dnA, Tryz.f60, encT, rows_length, boolRows_length, List.length_set, List.length_replicate, frW, wk2, wk1, wkL, wkB, hpW, List.mem_cons, Prod.mk.injEq, exists_eq_left, exists_eq_right, exists_eq]
          | true =>
          cases e3 : ce.getD i false with
          | false =>
            rw [no _ (by rw [e1, e2, e3]; rfl)] at hst
            simp (config := { maxSteps := 4000000 }) only [go_sem, simprocAttr, ↓dnA, Tryz.f60, encT, rows_length, boolRows_length, List.length_set, List.length_replicate, nlt h, h, nn0, nlt f1, f1, f2, hc, dc, nlt c1, c1, c2, hb, db, nlt hcl, hcl, nlt hbl, hbl, f3, c3, b3, f4, c4, b4, hce, encB1, encBk, w1, w2, e1, e2, e3, hw]
            refine ⟨i + 1, [(2, 2), (600, 600)], by omega, by dsimp only; omega, Weak.of (by rfl) ?_ ?_ (by rfl)⟩
            · simp (config := { maxSteps := 4000000 }) only [go_sem, simprocAttr, ↓dnA, Tryz.f60, encT, rows_length, boolRows_length, List.length_set, List.length_replicate, hst, frW, wk2, wk1, wkL, wkB, hpW, List.mem_cons, Prod.mk.injEq, exists_eq_left, exists_eq_right, exists_eq]
            · simp (config := { maxSteps := 4000000 }) only [go_sem, simprocAttr, ↓dnA, Tryz.f60, encT, rows_length, boolRows_length, List.length_set, List.length_replicate, frW, wk2, wk1, wkL, wkB, hpW, List.mem_cons, Prod.mk.injEq, exists_eq_left, exists_eq_right, exists_eq]
          | true =>
          cases e4 : ((t.blk c).view == (t.blk b).view + 1) with
          | false =>
            rw [no _ (by rw [e1, e2, e3, e4]; rfl)] at hst
            simp (config := { maxSteps := 4000000 }) only [go_sem, simprocAttr, ↓dnA, Tryz.f60, encT, rows_length, boolRows_length, List.length_set, List.length_replicate, nlt h, h, nn0, nlt f1, f1, f2, hc, dc, nlt c1, c1, c2, hb, db, nlt hcl, hcl, nlt hbl, hbl, f3, c3, b3, f4, c4, b4, hce, encB1, encBk, w1, w2, e1, e2, e3, e4, hw]
            refine ⟨i + 1, [(2, 2), (600, 600)], by omega, by dsimp only; omega, Weak.of (by rfl) ?_ ?_ (by rfl)⟩
            · simp (config := { maxSteps := 4000000 }) only [go_sem, simprocAttr, ↓dnA, Tryz.f60, encT, rows_length, boolRows_length, List.length_set, List.length_replicate, hst, frW, wk2, wk1, wkL, wkB, hpW, List.mem_cons, Prod.mk.injEq, exists_eq_left, exists_eq_right, exists_eq]
            · simp (config := { maxSteps := 4000000 }) only [go_sem, simprocAttr, ↓dnA, Tryz.f60, encT, rows_length, boolRows_length, List.length_set, List.length_replicate, frW, wk2, wk1, wkL, wkB, hpW, List.mem_cons, Prod.mk.injEq, exists_eq_left, exists_eq_right, exists_eq]
          | true =>
          cases e5 : ((t.blk i).view == (t.blk b).view + 2) with
          | false =>
            rw [no _ (by rw [e1, e2, e3, e4, e5]; rfl)] at hst
            simp (config := { maxSteps := 4000000 }) only [go_sem, simprocAttr, ↓dnA, Tryz.f60, encT, rows_length, boolRows_length, List.length_set, List.length_replicate, nlt h, h, nn0, nlt f1, f1, f2, hc, dc, nlt c1, c1, c2, hb, db, nlt hcl, hcl, nlt hbl, hbl, f3, c3, b3, f4, c4, b4, hce, encB1, encBk, w1, w2, e1, e2, e3, e4, e5, hw]
            refine ⟨i + 1, [(2, 2), (600, 600)], by omega, by dsimp only; omega, Weak.of (by rfl) ?_ ?_ (by rfl)⟩
            · simp (config := { maxSteps := 4000000 }) only [go_sem, simprocAttr, ↓dnA, Tryz.f60, encT, rows_length, boolRows_length, List.length_set, List.length_replicate, hst, frW, wk2, wk1, wkL, wkB, hpW, List.mem_cons, Prod.mk.injEq, exists_eq_left, exists_eq_right, exists_eq]
            · simp (config := { maxSteps := 4000000 }) only [go_sem, simprocAttr, ↓dnA, Tryz.f60, encT, rows_length, boolRows_length, List.length_set, List.length_replicate, frW, wk2, wk1, wkL, wkB, hpW, List.mem_cons, Prod.mk.injEq, exists_eq_left, exists_eq_right, exists_eq]
          | true =>
            rw [yes _ (by rw [e1, e2, e3, e4, e5]; rfl)] at hst
            simp (config := { maxSteps := 4000000 }) only [go_sem, simprocAttr, ↓dnA, Tryz.f60, encT, rows_length, boolRows_length, List.length_set, List.length_replicate, nlt h, h, nn0, nlt f1, f1, f2, hc, dc, nlt c1, c1, c2, hb, db, nlt hcl, hcl, nlt hbl, hbl, f3, c3, b3, f4, c4, b4, hce, encB1, encBk, w1, w2, e1, e2, e3, e4, e5, hl, boolRows_get l b (by omega), spliceL, hw]
            refine ⟨i + 1, [(2, 2), (600, 600)], by omega, by dsimp only; omega, Weak.of (by rfl) ?_ ?_ (by rfl)⟩
            · simp (config := { maxSteps := 4000000 }) only [go_sem, simprocAttr, ↓dnA, Tryz.f60, encT, rows_length, boolRows_length, List.length_set, List.length_replicate, hst, ← boolRows_set, frW, wk2, wk1, wkL, wkB, hpW, List.mem_cons, Prod.mk.injEq, exists_eq_left, exists_eq_right, exists_eq]
            · simp (config := { maxSteps := 4000000 }) only [go_sem, simprocAttr, ↓dnA, Tryz.f60, encT, rows_length, boolRows_length, List.length_set, List.length_replicate, frW, wk2, wk1, wkL, wkB, hpW, List.mem_cons, Prod.mk.injEq, exists_eq_left, exists_eq_right, exists_eq]
    · have hi' : i = t.blocks.length := by omega
      subst hi'
      unfold headsL headsB
      generalize headsTo t ce t.blocks.length = l at hl
      rw [← hl]
      simp (config := { maxSteps := 4000000 }) only [go_sem, simprocAttr, ↓dnA, Tryz.f60, encT, rows_length, boolRows_length, List.length_set, List.length_replicate, nlf h, hl]
      refine semL_nilA 10 10 1 true (by rfl) (by rfl) (by decide) (by decide) ?_
      refine semL_for tab_ok (fun p : Nat × List Int => ⟨105, [(10, .row 10 p.2.length), (91, .row 600 l.length), (92, .int .i64 l.length), (93, .int .i64 p.1)], [(600, .row true true 1 (boolRows l)), (10, .row true false 1 (rows encI p.2))]⟩) (fun p => l.length - p.1)
        (fun p => p.1 ≤ l.length ∧ p.2.length ≤ p.1 ∧ p.2 ++ fltF (fun k => l.getD k false) (l.length - p.1) p.1 = fltF (fun k => l.getD k false) l.length 0) (0, []) [(600, 600), (10, 10)] (Weak.of (by rfl) ?_ ?_ (by rfl)) ⟨by omega, by simp, rfl⟩ ?_
      · simp (config := { maxSteps := 4000000 }) only [go_sem, simprocAttr, ↓dnA, Tryz.f60, encT, rows_length, boolRows_length, List.length_set, List.length_replicate, hl, frW, wk2, wk1, wkL, wkB, hpW, List.mem_cons, Prod.mk.injEq, exists_eq_left, exists_eq_right, exists_eq]
        try rfl
      · simp (config := { maxSteps := 4000000 }) only [go_sem, simprocAttr, ↓dnA, Tryz.f60, encT, rows_length, boolRows_length, List.length_set, List.length_replicate, hl, frW, wk2, wk1, wkL, wkB, hpW, List.mem_cons, Prod.mk.injEq, exists_eq_left, exists_eq_right, exists_eq]
      · rintro ⟨i, acc⟩ ⟨hi, hac, hp⟩
        dsimp only at hi hac hp
        have htk := take_rows encI acc acc.length rfl
        by_cases h : i < l.length
        · have hw : IntKind.i64.wrap ((i : Int) + 1) = ((i + 1 : Nat) : Int) := wsucc h (by omega)
          have hg := boolRows_get l i h
          rw [fltF_step _ _ _ h] at hp
          cases e : l.getD i false with
          | false =>
            rw [e, if_neg Bool.false_ne_true, List.nil_append] at hp
            simp (config := { maxSteps := 4000000 }) only [go_sem, simprocAttr, ↓dnA, Tryz.f60, encT, rows_length, boolRows_length, List.length_set, List.length_replicate, nlt h, h, nn0, hg, e, hw]
            refine ⟨(i + 1, acc), [(600, 600), (10, 10)], ⟨by dsimp only; omega, by dsimp only; omega, hp⟩, by dsimp only; omega, Weak.of (by rfl) ?_ ?_ (by rfl)⟩
            · simp (config := { maxSteps := 4000000 }) only [go_sem, simprocAttr, ↓dnA, Tryz.f60, encT, rows_length, boolRows_length, List.length_set, List.length_replicate, frW, wk2, wk1, wkL, wkB, hpW, List.mem_cons, Prod.mk.injEq, exists_eq_left, exists_eq_right, exists_eq]
            · simp (config := { maxSteps := 4000000 }) only [go_sem, simprocAttr, ↓dnA, Tryz.f60, encT, rows_length, boolRows_length, List.length_set, List.length_replicate, frW, wk2, wk1, wkL, wkB, hpW, List.mem_cons, Prod.mk.injEq, exists_eq_left, exists_eq_right, exists_eq]
          | true =>
            rw [e, if_pos rfl] at hp
            simp (config := { maxSteps := 4000000 }) only [go_sem, simprocAttr, ↓dnA, Tryz.f60, encT, rows_length, boolRows_length, List.length_set, List.length_replicate, nlt h, h, nn0, hg, e, htk, hw]
            repeat refine And.intro (by first | omega | (simp; done) | (simp; omega) | assumption) ?_
            refine ⟨(i + 1, acc ++ [(i : Int)]), [(600, 600), (102, 10)], ⟨by dsimp only; omega, by simp; omega, by rw [← hp]; simp⟩, by dsimp only; omega, Weak.of (by rfl) ?_ ?_ (by rfl)⟩
            · simp (config := { maxSteps := 4000000 }) only [go_sem, simprocAttr, ↓dnA, Tryz.f60, encT, rows_length, boolRows_length, List.length_set, List.length_replicate, frW, wk2, wk1, wkL, wkB, hpW, List.mem_cons, Prod.mk.injEq, exists_eq_left, exists_eq_right, exists_eq]
              exact (rows_snoc encI _ _).symm
            · simp (config := { maxSteps := 4000000 }) only [go_sem, simprocAttr, ↓dnA, Tryz.f60, encT, rows_length, boolRows_length, List.length_set, List.length_replicate, List.length_append, frW, wk2, wk1, wkL, wkB, hpW, List.mem_cons, Prod.mk.injEq, exists_eq_left, exists_eq_right, exists_eq]
        · have hi' : i = l.length := by omega
          subst hi'
          rw [Nat.sub_self, show fltF (fun k => l.getD k false) 0 l.length = [] from rfl, List.append_nil] at hp
          simp (config := { maxSteps := 4000000 }) only [go_sem, simprocAttr, ↓dnA, Tryz.f60, encT, rows_length, boolRows_length, List.length_set, List.length_replicate, nlf h, hp]

theorem c_spec_l16Commits (n1 n2 n3 n4 : Option Bool) (t : Tree) (ce : List Bool) (hx : TreeSz t) (ht : TreeOk t) (hce : ce.length = t.blocks.length) :
    Det Tryz.prog 62 [.agg (encT n1 n2 n3 t), .sl n4 (boolRows ce)] (.osl true 1 (boolRows (headsTo t ce t.blocks.length))) := by
  refine fspec_det tab_ok Tryz.call62 Tryz.func62 rfl 94 Tryz.ntmps62 (of_decide_eq_true rfl) fun B => codeK_sound tab_ok _ _ _ ?_
  have hlen := ht.len
  simp (config := { maxSteps := 4000000 }) only [go_sem, simprocAttr, ↓dnA, Tryz.f62, encT, rows_length, boolRows_length, List.length_set, List.length_replicate]
  repeat refine And.intro (by first | omega | (simp; done) | (simp; omega) | assumption) ?_
  refine semL_for tab_ok (fun i : Nat => ⟨94, [(1, .sl n4 (boolRows ce)), (2, .loc 2 0), (5, .row 600 t.blocks.length), (6, .int .i64 i)],
      [(2, .var (encT n1 n2 n3 t)), (600, .row true true 1 (boolRows (headsTo t ce i)))]⟩) (fun i => t.blocks.length - i)
    (fun i => i ≤ t.blocks.length) 0 [(2, 2), (13, 600)] (Weak.of (by rfl) ?_ ?_ (by rfl)) (by omega) ?_
  · simp (config := { maxSteps := 4000000 }) only [go_sem, simprocAttr, ↓dnA, Tryz.f62, encT, rows_length, boolRows_length, List.length_set, List.length_replicate, frW, wk2, wk1, wkL, wkB, hpW, List.mem_cons, Prod.mk.injEq, exists_eq_left, exists_eq_right, exists_eq]
    exact boolRows_rep _ _
  · simp (config := { maxSteps := 4000000 }) only [go_sem, simprocAttr, ↓dnA, Tryz.f62, encT, rows_length, boolRows_length, List.length_set, List.length_replicate, frW, wk2, wk1, wkL, wkB, hpW, List.mem_cons, Prod.mk.injEq, exists_eq_left, exists_eq_right, exists_eq]
  · rintro i hi
    have hl := headsTo_len t ce i
    by_cases h : i < t.blocks.length
    · have hw : IntKind.i64.wrap ((i : Int) + 1) = ((i + 1 : Nat) : Int) := wsucc h (by omega)
      have hst := headsTo_step t ce i
      generalize headsTo t ce i = l at hl hst
      obtain ⟨f1, f2, f3, f4, f5, f6⟩ := head_facts ht h ce hce
      rcases f6 with hc | ⟨c, hc, hcl⟩
      · rw [headStep_no hc] at hst
        simp (config := { maxSteps := 4000000 }) only [go_sem, simprocAttr, ↓dnA, Tryz.f62, encT, rows_length, boolRows_length, List.length_set, List.length_replicate, nlt h, h, nn0, nlt f1, f1, f2, decide_eq_true hc, hw]
        refine ⟨i + 1, [(2, 2), (600, 600)], by omega, by dsimp only; omega, Weak.of (by rfl) ?_ ?_ (by rfl)⟩
        · simp (config := { maxSteps := 4000000 }) only [go_sem, simprocAttr, ↓dnA, Tryz.f62, encT, rows_length, boolRows_length, List.length_set, List.length_replicate, hst, frW, wk2, wk1, wkL, wkB, hpW, List.mem_cons, Prod.mk.injEq, exists_eq_left, exists_eq_right, exists_eq]
        · simp (config := { maxSteps := 4000000 }) only [go_sem, simprocAttr, ↓dnA, Tryz.f62, encT, rows_length, boolRows_length, List.length_set, List.length_replicate, frW, wk2, wk1, wkL, wkB, hpW, List.mem_cons, Prod.mk.injEq, exists_eq_left, exists_eq_right, exists_eq]
      · have dc : decide ((c : Int) < 0) = false := by simp
        obtain ⟨c1, c2, c3, c4, c5, c6⟩ := head_facts ht hcl ce hce
        rcases c6 with hb | ⟨b, hb, hbl⟩
        · rw [headStep_no2 hc hb] at hst
          simp (config := { maxSteps := 4000000 }) only [go_sem, simprocAttr, ↓dnA, Tryz.f62, encT, rows_length, boolRows_length, List.length_set, List.length_replicate, nlt h, h, nn0, nlt f1, f1, f2, hc, dc, nlt c1, c1, c2, decide_eq_true hb, hw]
          refine ⟨i + 1, [(2, 2), (600, 600)], by omega, by dsimp only; omega, Weak.of (by rfl) ?_ ?_ (by rfl)⟩
          · simp (config := { maxSteps := 4000000 }) only [go_sem, simprocAttr, ↓dnA, Tryz.f62, encT, rows_length, boolRows_length, List.length_set, List.length_replicate, hst, frW, wk2, wk1, wkL, wkB, hpW, List.mem_cons, Prod.mk.injEq, exists_eq_left, exists_eq_right, exists_eq]
          · simp (config := { maxSteps := 4000000 }) only [go_sem, simprocAttr, ↓dnA, Tryz.f62, encT, rows_length, boolRows_length, List.length_set, List.length_replicate, frW, wk2, wk1, wkL, wkB, hpW, List.mem_cons, Prod.mk.injEq, exists_eq_left, exists_eq_right, exists_eq]
        · have db : decide ((b : Int) < 0) = false := by simp
          obtain ⟨b1, b2, b3, b4, b5, b6⟩ := head_facts ht hbl ce hce
          have w1 : IntKind.i64.wrap ((t.blk b).view + 1) = (t.blk b).view + 1 := wrap_small _ (by omega) (by omega)
          have w2 : IntKind.i64.wrap ((t.blk c).view + 1) = (t.blk c).view + 1 := wrap_small _ (by omega) (by omega)
          rw [headStep_yes hc hb] at hst
          have no : ∀ q : Bool, q = false → (if q then l.set b true else l) = l := fun q e => by rw [e, if_neg Bool.false_ne_true]
          have yes : ∀ q : Bool, q = true → (if q then l.set b true else l) = l.set b true := fun q e => by rw [e, if_pos rfl]
          obtain ⟨q1, hq1⟩ : ∃ q, ((t.blk b).view + 1 == (t.blk c).view) = q := ⟨_, rfl⟩
          obtain ⟨q2, hq2⟩ : ∃ q, ((t.blk c).view + 1 == (t.blk i).view) = q := ⟨_, rfl⟩
          obtain ⟨q3, hq3⟩ : ∃ q, ce.getD b false = q := ⟨_, rfl⟩
          obtain ⟨q4, hq4⟩ : ∃ q, ce.getD c false = q := ⟨_, rfl⟩
          obtain ⟨q5, hq5⟩ : ∃ q, ce.getD i false = q := ⟨_, rfl⟩
          have h3 : threeB t ce b c i = (q3 && (q4 && (q5 && (q1 && q2)))) := by unfold threeB; rw [hq1, hq2, hq3, hq4, hq5]
          rw [h3] at hst
          simp (config := { maxSteps := 4000000 }) only [go_sem, simprocAttr, ↓dnA, Tryz.f62, encT, rows_length, boolRows_length, List.length_set, List.length_replicate, nlt h, h, nn0, nlt f1, f1, f2, hc, dc, nlt c1, c1, c2, hb, db]
          refine semL_draw tab_ok mixed_ rfl (ord := [(0, []), (1, []), (2, []), (3, []), (4, []), (5, []), (6, []), (7, []), (8, []), (9, []), (10, []), (11, []), (12, []), (13, []), (14, []), (15, []), (16, []), (17, []), (18, []), (19, []), (20, []), (21, []), (22, []), (23, []), (24, []), (25, []), (26, []), (27, []), (28, []), (29, []), (30, [])]) (by dsimp only; decide +kernel) ?_
          cases q1 with
          | false =>
            rw [no _ (by cases q3 <;> cases q4 <;> cases q5 <;> rfl)] at hst
            simp (config := { maxSteps := 4000000 }) only [go_sem, simprocAttr, ↓dnA, Tryz.f62, encT, rows_length, boolRows_length, List.length_set, List.length_replicate, nlt h, h, nn0, nlt f1, f1, f2, hc, dc, nlt c1, c1, c2, hb, db, nlt hcl, hcl, nlt hbl, hbl, f3, c3, b3, encB1, encBk, w1, w2, hq1]
            cases q3 with
            | false =>
              simp (config := { maxSteps := 4000000 }) only [go_sem, simprocAttr, ↓dnA, Tryz.f62, encT, rows_length, boolRows_length, List.length_set, List.length_replicate, nlt h, h, nn0, nlt hcl, hcl, nlt hbl, hbl, f4, c4, b4, hce, hq3, hw]
              refine ⟨i + 1, [(2, 2), (600, 600)], by omega, by dsimp only; omega, Weak.of (by rfl) ?_ ?_ (by rfl)⟩
              · simp (config := { maxSteps := 4000000 }) only [go_sem, simprocAttr, ↓dnA, Tryz.f62, encT, rows_length, boolRows_length, List.length_set, List.length_replicate, hst, frW, wk2, wk1, wkL, wkB, hpW, List.mem_cons, Prod.mk.injEq, exists_eq_left, exists_eq_right, exists_eq]
              · simp (config := { maxSteps := 4000000 }) only [go_sem, simprocAttr, ↓dnA, Tryz.f62, encT, rows_length, boolRows_length, List.length_set, List.length_replicate, frW, wk2, wk1, wkL, wkB, hpW, List.mem_cons, Prod.mk.injEq, exists_eq_left, exists_eq_right, exists_eq]
            | true =>
              cases q4 with
              | false =>
                simp (config := { maxSteps := 4000000 }) only [go_sem, simprocAttr, ↓dnA, Tryz.f62, encT, rows_length, boolRows_length, List.length_set, List.length_replicate, nlt h, h, nn0, nlt hcl, hcl, nlt hbl, hbl, f4, c4, b4, hce, hq3, hq4, hw]
                refine ⟨i + 1, [(2, 2), (600, 600)], by omega, by dsimp only; omega, Weak.of (by rfl) ?_ ?_ (by rfl)⟩
                · simp (config := { maxSteps := 4000000 }) only [go_sem, simprocAttr, ↓dnA, Tryz.f62, encT, rows_length, boolRows_length, List.length_set, List.length_replicate, hst, frW, wk2, wk1, wkL, wkB, hpW, List.mem_cons, Prod.mk.injEq, exists_eq_left, exists_eq_right, exists_eq]
                · simp (config := { maxSteps := 4000000 }) only [go_sem, simprocAttr, ↓dnA, Tryz.f62, encT, rows_length, boolRows_length, List.length_set, List.length_replicate, frW, wk2, wk1, wkL, wkB, hpW, List.mem_cons, Prod.mk.injEq, exists_eq_left, exists_eq_right, exists_eq]
              | true =>
                cases q5 with
                | false =>
                  simp (config := { maxSteps := 4000000 }) only [go_sem, simprocAttr, ↓dnA, Tryz.f62, encT, rows_length, boolRows_length, List.length_set, List.length_replicate, nlt h, h, nn0, nlt hcl, hcl, nlt hbl, hbl, f4, c4, b4, hce, hq3, hq4, hq5, hw]
                  refine ⟨i + 1, [(2, 2), (600, 600)], by omega, by dsimp only; omega, Weak.of (by rfl) ?_ ?_ (by rfl)⟩
                  · simp (config := { maxSteps := 4000000 }) only [go_sem, simprocAttr, ↓dnA, Tryz.f62, encT, rows_length, boolRows_length, List.length_set, List.length_replicate, hst, frW, wk2, wk1, wkL, wkB, hpW, List.mem_cons, Prod.mk.injEq, exists_eq_left, exists_eq_right, exists_eq]
                  · simp (config := { maxSteps := 4000000 }) only [go_sem, simprocAttr, ↓dnA, Tryz.f62, encT, rows_length, boolRows_length, List.length_set, List.length_replicate, frW, wk2, wk1, wkL, wkB, hpW, List.mem_cons, Prod.mk.injEq, exists_eq_left, exists_eq_right, exists_eq]
                | true =>
                  simp (config := { maxSteps := 4000000 }) only [go_sem, simprocAttr, ↓dnA, Tryz.f62, encT, rows_length, boolRows_length, List.length_set, List.length_replicate, nlt h, h, nn0, nlt hcl, hcl, nlt hbl, hbl, f4, c4, b4, hce, hq3, hq4, hq5, hw]
                  refine ⟨i + 1, [(2, 2), (600, 600)], by omega, by dsimp only; omega, Weak.of (by rfl) ?_ ?_ (by rfl)⟩
                  · simp (config := { maxSteps := 4000000 }) only [go_sem, simprocAttr, ↓dnA, Tryz.f62, encT, rows_length, boolRows_length, List.length_set, List.length_replicate, hst, frW, wk2, wk1, wkL, wkB, hpW, List.mem_cons, Prod.mk.injEq, exists_eq_left, exists_eq_right, exists_eq]
                  · simp (config := { maxSteps := 4000000 }) only [go_sem, simprocAttr, ↓dnA, Tryz.f62, encT, rows_length, boolRows_length, List.length_set, List.length_replicate, frW, wk2, wk1, wkL, wkB, hpW, List.mem_cons, Prod.mk.injEq, exists_eq_left, exists_eq_right, exists_eq]
          | true =>
            simp (config := { maxSteps := 4000000 }) only [go_sem, simprocAttr, ↓dnA, Tryz.f62, encT, rows_length, boolRows_length, List.length_set, List.length_replicate, nlt h, h, nn0, nlt f1, f1, f2, hc, dc, nlt c1, c1, c2, hb, db, nlt hcl, hcl, nlt hbl, hbl, f3, c3, b3, encB1, encBk, w1, w2, hq1, hq2]
            cases q3 with
            | false =>
              simp only [Bool.false_and, Bool.true_and, Bool.and_false, Bool.and_true, Bool.false_eq_true, if_false] at hst
              simp (config := { maxSteps := 4000000 }) only [go_sem, simprocAttr, ↓dnA, Tryz.f62, encT, rows_length, boolRows_length, List.length_set, List.length_replicate, nlt h, h, nn0, nlt hcl, hcl, nlt hbl, hbl, f4, c4, b4, hce, hq3, hw]
              refine ⟨i + 1, [(2, 2), (600, 600)], by omega, by dsimp only; omega, Weak.of (by rfl) ?_ ?_ (by rfl)⟩
              · simp (config := { maxSteps := 4000000 }) only [go_sem, simprocAttr, ↓dnA, Tryz.f62, encT, rows_length, boolRows_length, List.length_set, List.length_replicate, hst, frW, wk2, wk1, wkL, wkB, hpW, List.mem_cons, Prod.mk.injEq, exists_eq_left, exists_eq_right, exists_eq]
              · simp (config := { maxSteps := 4000000 }) only [go_sem, simprocAttr, ↓dnA, Tryz.f62, encT, rows_length, boolRows_length, List.length_set, List.length_replicate, frW, wk2, wk1, wkL, wkB, hpW, List.mem_cons, Prod.mk.injEq, exists_eq_left, exists_eq_right, exists_eq]
            | true =>
              cases q4 with
              | false =>
                simp only [Bool.false_and, Bool.true_and, Bool.and_false, Bool.and_true, Bool.false_eq_true, if_false] at hst
                simp (config := { maxSteps := 4000000 }) only [go_sem, simprocAttr, ↓dnA, Tryz.f62, encT, rows_length, boolRows_length, List.length_set, List.length_replicate, nlt h, h, nn0, nlt hcl, hcl, nlt hbl, hbl, f4, c4, b4, hce, hq3, hq4, hw]
                refine ⟨i + 1, [(2, 2), (600, 600)], by omega, by dsimp only; omega, Weak.of (by rfl) ?_ ?_ (by rfl)⟩
                · simp (config := { maxSteps := 4000000 }) only [go_sem, simprocAttr, ↓dnA, Tryz.f62, encT, rows_length, boolRows_length, List.length_set, List.length_replicate, hst, frW, wk2, wk1, wkL, wkB, hpW, List.mem_cons, Prod.mk.injEq, exists_eq_left, exists_eq_right, exists_eq]
                · simp (config := { maxSteps := 4000000 }) only [go_sem, simprocAttr, ↓dnA, Tryz.f62, encT, rows_length, boolRows_length, List.length_set, List.length_replicate, frW, wk2, wk1, wkL, wkB, hpW, List.mem_cons, Prod.mk.injEq, exists_eq_left, exists_eq_right, exists_eq]
              | true =>
                cases q5 with
                | false =>
                  simp only [Bool.false_and, Bool.true_and, Bool.and_false, Bool.and_true, Bool.false_eq_true, if_false] at hst
                  simp (config := { maxSteps := 4000000 }) only [go_sem, simprocAttr, ↓dnA, Tryz.f62, encT, rows_length, boolRows_length, List.length_set, List.length_replicate, nlt h, h, nn0, nlt hcl, hcl, nlt hbl, hbl, f4, c4, b4, hce, hq3, hq4, hq5, hw]
                  refine ⟨i + 1, [(2, 2), (600, 600)], by omega, by dsimp only; omega, Weak.of (by rfl) ?_ ?_ (by rfl)⟩
                  · simp (config := { maxSteps := 4000000 }) only [go_sem, simprocAttr, ↓dnA, Tryz.f62, encT, rows_length, boolRows_length, List.length_set, List.length_replicate, hst, frW, wk2, wk1, wkL, wkB, hpW, List.mem_cons, Prod.mk.injEq, exists_eq_left, exists_eq_right, exists_eq]
                  · simp (config := { maxSteps := 4000000 }) only [go_sem, simprocAttr, ↓dnA, Tryz.f62, encT, rows_length, boolRows_length, List.length_set, List.length_replicate, frW, wk2, wk1, wkL, wkB, hpW, List.mem_cons, Prod.mk.injEq, exists_eq_left, exists_eq_right, exists_eq]
                | true =>
                  cases q2 with
                  | false =>
                    simp only [Bool.false_and, Bool.true_and, Bool.and_false, Bool.and_true, Bool.false_eq_true, if_false] at hst
                    simp (config := { maxSteps := 4000000 }) only [go_sem, simprocAttr, ↓dnA, Tryz.f62, encT, rows_length, boolRows_length, List.length_set, List.length_replicate, nlt h, h, nn0, nlt hcl, hcl, nlt hbl, hbl, f4, c4, b4, hce, hq3, hq4, hq5, hw]
                    refine ⟨i + 1, [(2, 2), (600, 600)], by omega, by dsimp only; omega, Weak.of (by rfl) ?_ ?_ (by rfl)⟩
                    · simp (config := { maxSteps := 4000000 }) only [go_sem, simprocAttr, ↓dnA, Tryz.f62, encT, rows_length, boolRows_length, List.length_set, List.length_replicate, hst, frW, wk2, wk1, wkL, wkB, hpW, List.mem_cons, Prod.mk.injEq, exists_eq_left, exists_eq_right, exists_eq]
                    · simp (config := { maxSteps := 4000000 }) only [go_sem, simprocAttr, ↓dnA, Tryz.f62, encT, rows_length, boolRows_length, List.length_set, List.length_replicate, frW, wk2, wk1, wkL, wkB, hpW, List.mem_cons, Prod.mk.injEq, exists_eq_left, exists_eq_right, exists_eq]
                  | true =>
                    simp only [Bool.and_self, Bool.true_and, if_true] at hst
                    simp (config := { maxSteps := 4000000 }) only [go_sem, simprocAttr, ↓dnA, Tryz.f62, encT, rows_length, boolRows_length, List.length_set, List.length_replicate, nlt h, h, nn0, nlt hcl, hcl, nlt hbl, hbl, f4, c4, b4, hce, hq3, hq4, hq5, hl, boolRows_get l b (by omega), spliceL, hw]
                    refine ⟨i + 1, [(2, 2), (600, 600)], by omega, by dsimp only; omega, Weak.of (by rfl) ?_ ?_ (by rfl)⟩
                    · simp (config := { maxSteps := 4000000 }) only [go_sem, simprocAttr, ↓dnA, Tryz.f62, encT, rows_length, boolRows_length, List.length_set, List.length_replicate, hst, ← boolRows_set, frW, wk2, wk1, wkL, wkB, hpW, List.mem_cons, Prod.mk.injEq, exists_eq_left, exists_eq_right, exists_eq]
                    · simp (config := { maxSteps := 4000000 }) only [go_sem, simprocAttr, ↓dnA, Tryz.f62, encT, rows_length, boolRows_length, List.length_set, List.length_replicate, frW, wk2, wk1, wkL, wkB, hpW, List.mem_cons, Prod.mk.injEq, exists_eq_left, exists_eq_right, exists_eq]
    · have hi' : i = t.blocks.length := by omega
      subst hi'
      simp (config := { maxSteps := 4000000 }) only [go_sem, simprocAttr, ↓dnA, Tryz.f62, encT, rows_length, boolRows_length, List.length_set, List.length_replicate, nlf h, hl]

end Go.Proofs.YthcfafpjkbbaoaaGreat

/- Contracts: the blocks that are committed at once, as a list. -/
set_option linter.unusedSimpArgs false
set_option linter.unusedVariables false
set_option maxRecDepth 20000
set_option maxHeartbeats 4000000
namespace Go.Proofs.YthcfafpjkbbaoaaGreat
open Go Go.RowKit

theorem c_impl_CommitHeads (n1 n2 n3 n4 : Option Bool) (t : Tree) (cs : List Cert) (hx : TreeSz t) :
    Det Tryz.prog 15 [.agg (encT n1 n2 n3 t), .sl n4 (rows encC cs)] (.osl false 1 (rows encI (commitHeads t cs))) := by
  refine fspec_det tab_ok Tryz.call15 Tryz.func15 rfl 14 Tryz.ntmps15 (of_decide_eq_true rfl) fun B => codeK_sound tab_ok _ _ _ ?_
  unfold commitHeads
  simp (config := { maxSteps := 4000000 }) only [go_sem, simprocAttr, ↓dnA, Tryz.f15, encT, rows_length, boolRows_length, List.length_set, List.length_replicate]
  by_cases h : treeValid t = true ∧ cs.length ≤ 30
  · obtain ⟨e1, e2⟩ := certified_ne h.1 h.2
    have hl := certL_len t cs
    refine CallTo.det (c_impl_CertifiedBlocks_T n1 n2 n3 n4 t cs hx h.1 h.2) fun _ => ?_
    rw [if_neg e2, e1]
    generalize certL t cs = ce at hl
    simp (config := { maxSteps := 4000000 }) only [go_sem, simprocAttr, ↓dnA, Tryz.f15, encT, rows_length, boolRows_length, List.length_set, List.length_replicate]
    refine CallTo.det (c_impl_heads n1 n2 n3 _ t ce hx (treeOk_of h.1) hl) fun _ => ?_
    simp (config := { maxSteps := 4000000 }) only [go_sem, simprocAttr, ↓dnA, Tryz.f15, encT, rows_length, boolRows_length, List.length_set, List.length_replicate]
  · have e := certified_no h
    refine CallTo.det (c_impl_CertifiedBlocks_no n1 n2 n3 n4 t cs hx h) fun _ => ?_
    rw [if_pos e]
    simp (config := { maxSteps := 4000000 }) only [go_sem, simprocAttr, ↓dnA, Tryz.f15, encT, rows_length, boolRows_length, List.length_set, List.length_replicate, rows_nil]

theorem c_spec_CommitHeads (n1 n2 n3 n4 : Option Bool) (t : Tree) (cs : List Cert) (hx : TreeSz t) :
    Det Tryz.prog 17 [.agg (encT n1 n2 n3 t), .sl n4 (rows encC cs)] (.osl true 1 (rows encI (commitHeads t cs))) := by
  refine fspec_det tab_ok Tryz.call17 Tryz.func17 rfl 35 Tryz.ntmps17 (of_decide_eq_true rfl) fun B => codeK_sound tab_ok _ _ _ ?_
  unfold commitHeads
  simp (config := { maxSteps := 4000000 }) only [go_sem, simprocAttr, ↓dnA, Tryz.f17, encT, rows_length, boolRows_length, List.length_set, List.length_replicate]
  refine CallTo.det (c_spec_CertifiedBlocks n1 n2 n3 n4 t cs hx) fun _ => ?_
  by_cases h : treeValid t = true ∧ cs.length ≤ 30
  · obtain ⟨e1, e2⟩ := certified_ne h.1 h.2
    have hl := certL_len t cs
    have ht := treeOk_of h.1
    have hlen := ht.len
    rw [if_neg e2, e1]
    generalize certL t cs = ce at hl
    have hz : ((ce.length : Int) == 0) = false := by simp; intro e; rw [e] at hl; simp at hl; omega
    simp (config := { maxSteps := 4000000 }) only [go_sem, simprocAttr, ↓dnA, Tryz.f17, encT, rows_length, boolRows_length, List.length_set, List.length_replicate, hz]
    refine CallTo.det (c_spec_l16Commits n1 n2 n3 _ t ce hx ht hl) fun _ => ?_
    have hl2 := headsTo_len t ce t.blocks.length
    unfold headsL headsB
    generalize headsTo t ce t.blocks.length = l at hl2
    rw [← hl2]
    simp (config := { maxSteps := 4000000 }) only [go_sem, simprocAttr, ↓dnA, Tryz.f17, encT, rows_length, boolRows_length, List.length_set, List.length_replicate, hz]
    refine semL_for tab_ok (fun p : Nat × List Int => ⟨35, [(5, .row 601 p.2.length), (7, .row 600 l.length), (8, .int .i64 p.1)], [(600, .row true true 1 (boolRows l)), (601, .row true true 1 (rows encI p.2))]⟩) (fun p => l.length - p.1)
      (fun p => p.1 ≤ l.length ∧ p.2.length ≤ p.1 ∧ p.2 ++ fltF (fun k => l.getD k false) (l.length - p.1) p.1 = fltF (fun k => l.getD k false) l.length 0) (0, []) [(20000, 600), (9, 601)] (Weak.of (by rfl) ?_ ?_ (by rfl)) ⟨by omega, by simp, rfl⟩ ?_
    · simp (config := { maxSteps := 4000000 }) only [go_sem, simprocAttr, ↓dnA, Tryz.f17, encT, rows_length, boolRows_length, List.length_set, List.length_replicate, frW, wk2, wk1, wkL, wkB, hpW, List.mem_cons, Prod.mk.injEq, exists_eq_left, exists_eq_right, exists_eq]
      try rfl
    · simp (config := { maxSteps := 4000000 }) only [go_sem, simprocAttr, ↓dnA, Tryz.f17, encT, rows_length, boolRows_length, List.length_set, List.length_replicate, frW, wk2, wk1, wkL, wkB, hpW, List.mem_cons, Prod.mk.injEq, exists_eq_left, exists_eq_right, exists_eq]
    · rintro ⟨i, acc⟩ ⟨hi, hac, hp⟩
      dsimp only at hi hac hp
      have htk := take_rows encI acc acc.length rfl
      by_cases h : i < l.length
      · have hw : IntKind.i64.wrap ((i : Int) + 1) = ((i + 1 : Nat) : Int) := wsucc h (by omega)
        have hg := boolRows_get l i h
        rw [fltF_step _ _ _ h] at hp
        cases e : l.getD i false with
        | false =>
          rw [e, if_neg Bool.false_ne_true, List.nil_append] at hp
          simp (config := { maxSteps := 4000000 }) only [go_sem, simprocAttr, ↓dnA, Tryz.f17, encT, rows_length, boolRows_length, List.length_set, List.length_replicate, nlt h, h, nn0, hg, e, hw]
          refine ⟨(i + 1, acc), [(600, 600), (601, 601)], ⟨by dsimp only; omega, by dsimp only; omega, hp⟩, by dsimp only; omega, Weak.of (by rfl) ?_ ?_ (by rfl)⟩
          · simp (config := { maxSteps := 4000000 }) only [go_sem, simprocAttr, ↓dnA, Tryz.f17, encT, rows_length, boolRows_length, List.length_set, List.length_replicate, frW, wk2, wk1, wkL, wkB, hpW, List.mem_cons, Prod.mk.injEq, exists_eq_left, exists_eq_right, exists_eq]
          · simp (config := { maxSteps := 4000000 }) only [go_sem, simprocAttr, ↓dnA, Tryz.f17, encT, rows_length, boolRows_length, List.length_set, List.length_replicate, frW, wk2, wk1, wkL, wkB, hpW, List.mem_cons, Prod.mk.injEq, exists_eq_left, exists_eq_right, exists_eq]
        | true =>
          rw [e, if_pos rfl] at hp
          simp (config := { maxSteps := 4000000 }) only [go_sem, simprocAttr, ↓dnA, Tryz.f17, encT, rows_length, boolRows_length, List.length_set, List.length_replicate, nlt h, h, nn0, hg, e, htk, hw]
          repeat refine And.intro (by first | omega | (simp; done) | (simp; omega) | assumption) ?_
          refine ⟨(i + 1, acc ++ [(i : Int)]), [(600, 600), (33, 601)], ⟨by dsimp only; omega, by simp; omega, by rw [← hp]; simp⟩, by dsimp only; omega, Weak.of (by rfl) ?_ ?_ (by rfl)⟩
          · simp (config := { maxSteps := 4000000 }) only [go_sem, simprocAttr, ↓dnA, Tryz.f17, encT, rows_length, boolRows_length, List.length_set, List.length_replicate, frW, wk2, wk1, wkL, wkB, hpW, List.mem_cons, Prod.mk.injEq, exists_eq_left, exists_eq_right, exists_eq]
            exact (rows_snoc encI _ _).symm
          · simp (config := { maxSteps := 4000000 }) only [go_sem, simprocAttr, ↓dnA, Tryz.f17, encT, rows_length, boolRows_length, List.length_set, List.length_replicate, List.length_append, frW, wk2, wk1, wkL, wkB, hpW, List.mem_cons, Prod.mk.injEq, exists_eq_left, exists_eq_right, exists_eq]
      · have hi' : i = l.length := by omega
        subst hi'
        rw [Nat.sub_self, show fltF (fun k => l.getD k false) 0 l.length = [] from rfl, List.append_nil] at hp
        simp (config := { maxSteps := 4000000 }) only [go_sem, simprocAttr, ↓dnA, Tryz.f17, encT, rows_length, boolRows_length, List.length_set, List.length_replicate, nlf h, hp]
  · have e := certified_no h
    rw [if_pos e, e]
    simp (config := { maxSteps := 4000000 }) only [go_sem, simprocAttr, ↓dnA, Tryz.f17, encT, rows_length, boolRows_length, List.length_set, List.length_replicate, rows_nil, boolRows, List.map_nil, List.length_nil]

end Go.Proofs.YthcfafpjkbbaoaaGreat

/- Contracts: up to where everything is committed; whether commits agree. -/
set_option linter.unusedSimpArgs false
set_option linter.unusedVariables false
set_option maxRecDepth 20000
set_option maxHeartbeats 4000000
namespace Go.Proofs.YthcfafpjkbbaoaaGreat
open Go Go.RowKit

theorem commitHeads_yes {t : Tree} {cs : List Cert} (h : treeValid t = true ∧ cs.length ≤ 30) : commitHeads t cs = headsL t (certL t cs) := by
  obtain ⟨e1, e2⟩ := certified_ne h.1 h.2
  unfold commitHeads; rw [if_neg e2, e1]
end Go.Proofs.YthcfafpjkbbaoaaGreat

/- Contracts: certificates and heads of worlds. -/
set_option linter.unusedSimpArgs false
set_option linter.unusedVariables false
set_option maxRecDepth 20000
set_option maxHeartbeats 4000000
namespace Go.Proofs.YthcfafpjkbbaoaaGreat
open Go Go.RowKit

end Go.Proofs.YthcfafpjkbbaoaaGreat

/- Bounds of sums; next blocks are valid; trees that grow stay valid: plain lemmas. -/
set_option linter.unusedSimpArgs false
set_option linter.unusedVariables false
set_option maxRecDepth 20000
set_option maxHeartbeats 4000000
namespace Go.Proofs.YthcfafpjkbbaoaaGreat
open Go Go.RowKit

theorem sumI_bd : ∀ (l : List Int) (s : Int), 0 ≤ s ∧ s ≤ 1000002 → 0 ≤ sumI s l ∧ sumI s l ≤ 1000002
  | [], s, h => h
  | x :: l, s, _ => sumI_bd l (moreI s x) (by have := moreI_bd s x; omega)

theorem blockSum_in {b : Block} (h : blockValid b = true) : 0 ≤ blockSum b ∧ blockSum b ≤ 1000002 := by
  unfold blockSum
  rw [if_pos h]
  exact sumI_bd _ _ (by decide)

theorem sumOf_bd {tag : Int} {l : List Int} (ht : 0 ≤ tag ∧ tag ≤ 9) (h : ∀ x, x ∈ l → 0 ≤ x ∧ x ≤ 2000000) : 0 ≤ sumOf tag l ∧ sumOf tag l ≤ 1000002 := by
  unfold sumOf
  have h1 : (decide (0 ≤ tag) && decide (tag ≤ 9)) = true := by simp [ht]
  have h2 : l.all isSummedB = true := List.all_eq_true.2 fun x hx => by simpa [isSummedB] using h x hx
  rw [h1, h2, Bool.and_self, if_pos rfl]
  exact sumI_bd _ _ (by omega)

/-- Effects of actions: keys and values in their bounds. -/
structure EffV (e : Effect) : Prop where
  reads : WritesOk e.reads
  writes : WritesOk e.writes
  rlen : e.reads.length ≤ 1000

theorem runE_effV {a : Action} {v : List Int} (ha : ActOk a) (hv : ValsOk v) : EffV (runE a v) := by
  refine ⟨fun w hw => ?_, runE_writesOk ha hv, by have := runE_rlen a v; omega⟩
  have hw : w ∈ (readsA a).map fun k => ⟨k, valK v k⟩ := hw
  obtain ⟨k, hk, rfl⟩ := List.mem_map.1 hw
  have hfr := ha.fr
  have hto := ha.to
  exact ⟨by dsimp only; rcases mem_reads hk with e | e <;> rw [e] <;> omega, hv.at k⟩

theorem runAllE_effV {v : List Int} {l : List Action} (hl : ∀ a, a ∈ l → ActOk a) (hv : ValsOk v) : ∀ i, i ≤ l.length → ∀ e, e ∈ (runAllE v (l.take i)).2 → EffV e
  | 0, _ => fun e he => by simp [runAllE] at he
  | i + 1, hi => by
    have ih := runAllE_effV hl hv i (by omega)
    have hO := runAllE_ok hl hv i (by omega)
    rw [runAllE_take _ _ _ (by omega)]
    intro e he
    unfold stepR at he
    rcases List.mem_append.1 he with he | he
    · exact ih e he
    · rw [List.mem_singleton.1 he]
      exact runE_effV (hl _ (List.getElem_mem _)) hO.1

theorem runSerial_effV {s : List Entry} {l : List Action} : ∀ e, e ∈ (runSerial s l).2 → EffV e := by
  unfold runSerial
  split
  · rename_i h
    rw [Bool.and_eq_true] at h
    have := runAllE_effV (actionsValid_ok h.2).1 (valuesL_ok h.1) l.length (Nat.le_refl _)
    rw [List.take_length] at this
    exact this
  · intro e he; cases he

theorem flatE_mem {x : Int} {es : List Entry} (h : x ∈ flatE es) : ∃ e, e ∈ es ∧ (x = e.key ∨ x = e.value) := by
  unfold flatE at h
  rw [List.mem_flatMap] at h
  obtain ⟨e, he, hx⟩ := h
  exact ⟨e, he, by simpa using hx⟩

theorem effectSum_bd {e : Effect} (h : EffV e) : 0 ≤ effectSum e ∧ effectSum e ≤ 1000002 := by
  have h1 := h.rlen
  refine sumOf_bd (by omega) fun x hx => ?_
  unfold effectL at hx
  rcases List.mem_append.1 hx with hx | hx
  · simp only [List.mem_cons, List.not_mem_nil, or_false] at hx
    rcases hx with rfl | rfl
    · split <;> omega
    · omega
  · obtain ⟨w, hw, hx⟩ := flatE_mem hx
    have hb : (0 ≤ w.key ∧ w.key ≤ 31) ∧ 0 ≤ w.value ∧ w.value ≤ 1000000 := by
      rcases List.mem_append.1 hw with hw | hw
      · exact h.reads w hw
      · exact h.writes w hw
    rcases hx with rfl | rfl <;> omega

theorem effectsSum_bd {es : List Effect} (hl : es.length ≤ 10) (h : ∀ e, e ∈ es → EffV e) : 0 ≤ effectsSum es ∧ effectsSum es ≤ 1000002 := by
  unfold effectsSum
  rw [if_neg (by omega)]
  refine sumOf_bd (by omega) fun x hx => ?_
  obtain ⟨e, he, rfl⟩ := List.mem_map.1 hx
  have := effectSum_bd (h e he)
  omega

/-- A next block that there is. -/
theorem nextBlock_is {b : Block} {s : List Entry} {v : Int} {l : List Action} (h : (nextBlock b s v l).2 = true) :
    (nextBlock b s v l).1 = ⟨blockSum b, b.height + 1, v, l, rootOf (runSerial s l).1, effectsSum (runSerial s l).2⟩ ∧ blockValid b = true ∧ b.height ≠ 100 ∧ storeValid s = true ∧ (b.view + 1 ≤ v ∧ v ≤ 1000) ∧ actionsValid l = true := by
  unfold nextBlock at h ⊢
  split at h
  · rename_i hh
    rw [if_pos hh]
    simp only [Bool.and_eq_true, bne_iff_ne, ne_eq] at hh
    obtain ⟨⟨⟨⟨h1, h2⟩, h3⟩, h4⟩, h5⟩ := hh
    exact ⟨rfl, h1, h2, h3, inB_iff.1 h4, h5⟩
  · cases h

theorem nextBlock_valid {b : Block} {s : List Entry} {v : Int} {l : List Action} (h : (nextBlock b s v l).2 = true) : blockValid (nextBlock b s v l).1 = true := by
  obtain ⟨e, h1, h2, h3, h4, h5⟩ := nextBlock_is h
  obtain ⟨b1, b2, _⟩ := blockValid_bd h1
  obtain ⟨r1, r2, _⟩ := runSerial_ok h3 h5
  have hr := rootOf_bd r1
  have hs := blockSum_in h1
  have he := effectsSum_bd (es := (runSerial s l).2) (by rw [r2]; exact (actionsValid_ok h5).2) runSerial_effV
  rw [e]
  unfold blockValid
  simp only [Bool.and_eq_true]
  exact ⟨⟨⟨⟨⟨inB_iff.2 hs, inB_iff.2 hr⟩, inB_iff.2 he⟩, inB_iff.2 (by omega)⟩, inB_iff.2 (by omega)⟩, h5⟩

/-- A block is right over a store. -/
def blockRight (b : Block) (s : List Entry) : Bool := blockValid b && storeValid s && (b.root == rootOf (runSerial s b.list).1) && (b.effects == effectsSum (runSerial s b.list).2)

theorem nextBlock_right {b : Block} {s : List Entry} {v : Int} {l : List Action} (h : (nextBlock b s v l).2 = true) : blockRight (nextBlock b s v l).1 s = true := by
  have h0 := nextBlock_valid h
  obtain ⟨e, h1, h2, h3, h4, h5⟩ := nextBlock_is h
  unfold blockRight
  rw [h0, h3, e]
  simp

/-- A put block is the last one. -/
theorem putBlock_is {t : Tree} {b : Block} (h : (putBlock t b).2 = true) : TreeOk t ∧ TreeOk (putT t b) ∧ (putBlock t b).1 = putT t b := by
  unfold putBlock at h ⊢
  split at h
  · rename_i h1
    rw [if_pos h1]
    split at h
    · rename_i h2
      rw [if_pos h2]
      exact ⟨treeOk_of h1, treeOk_of h2, rfl⟩
    · cases h
  · cases h

theorem putBlock_no {t : Tree} {b : Block} (h : (putBlock t b).2 = false) : ((putBlock t b).1 = ⟨[], [], []⟩) ∨ (putBlock t b).1 = t := by
  unfold putBlock at h ⊢
  split at h
  · rename_i h1
    rw [if_pos h1]
    split at h
    · cases h
    · rename_i h2
      rw [if_neg h2]
      exact .inr rfl
  · rename_i h1
    rw [if_neg h1]
    exact .inl rfl

theorem putT_len (t : Tree) (b : Block) : (putT t b).blocks.length = t.blocks.length + 1 := by simp [putT]
theorem putT_old {t : Tree} {b : Block} {k : Nat} (h : k < t.blocks.length) : (putT t b).blk k = t.blk k := by
  show (t.blocks ++ [b]).getD k default = t.blocks.getD k default
  rw [List.getD_eq_getElem?_getD, List.getD_eq_getElem?_getD, List.getElem?_append_left h]
theorem putT_new (t : Tree) (b : Block) : (putT t b).blk t.blocks.length = b := by
  show (t.blocks ++ [b]).getD t.blocks.length default = b
  rw [List.getD_eq_getElem?_getD, List.getElem?_append_right (Nat.le_refl _)]
  simp
theorem putT_bef {t : Tree} (ht : TreeOk t) (b : Block) : (putT t b).bef t.blocks.length = findB t.blocks b.before := by
  show (t.before ++ [findB t.blocks b.before]).getD t.blocks.length 0 = _
  rw [List.getD_eq_getElem?_getD, List.getElem?_append_right (by rw [ht.bef]; exact Nat.le_refl _), ht.bef]
  simp
theorem putT_befOld {t : Tree} (ht : TreeOk t) {b : Block} {k : Nat} (h : k < t.blocks.length) : (putT t b).bef k = t.bef k := by
  show (t.before ++ [findB t.blocks b.before]).getD k 0 = t.before.getD k 0
  rw [List.getD_eq_getElem?_getD, List.getD_eq_getElem?_getD, List.getElem?_append_left (by rw [ht.bef]; exact h)]

end Go.Proofs.YthcfafpjkbbaoaaGreat

/- Plain laws of certificates and worlds. -/
set_option linter.unusedSimpArgs false
set_option linter.unusedVariables false
set_option maxRecDepth 20000
set_option maxHeartbeats 4000000
namespace Go.Proofs.YthcfafpjkbbaoaaGreat
open Go Go.RowKit

/-- What one list marks the other marks too. -/
structure LeB (l m : List Bool) : Prop where
  len : l.length = m.length
  le : ∀ k, l.getD k false = true → m.getD k false = true
theorem LeB.refl (l : List Bool) : LeB l l := ⟨rfl, fun _ h => h⟩
theorem LeB.trans {a b c : List Bool} (h : LeB a b) (g : LeB b c) : LeB a c := ⟨h.len.trans g.len, fun k hk => g.le k (h.le k hk)⟩
theorem getD_set_true (l : List Bool) (i k : Nat) (h : l.getD k false = true) : (l.set i true).getD k false = true := by
  rw [List.getD_eq_getElem?_getD] at h ⊢
  rw [List.getElem?_set]
  split
  · rename_i e
    subst e
    split
    · rfl
    · rename_i e2
      rw [List.getElem?_eq_none (by omega)] at h
      cases h
  · exact h
end Go.Proofs.YthcfafpjkbbaoaaGreat

/- Members that keep to the rules: what is committed stays on one way: plain. -/
set_option linter.unusedSimpArgs false
set_option linter.unusedVariables false
set_option maxRecDepth 20000
set_option maxHeartbeats 4000000
namespace Go.Proofs.YthcfafpjkbbaoaaGreat
open Go Go.RowKit

def vt (w : Wld) (k : Nat) : Int := w.votes.getD k 0
def cw (w : Wld) (k : Nat) : Bool := k == 0 || decide (many (vt w k) ≥ 3)
/-- What is certified stays certified. -/
structure Later (w w' : Wld) : Prop where
  tree : w'.tree = w.tree
  cert : ∀ k, cw w k = true → cw w' k = true
  bits : ∀ k q, q < 4 → hasB (vt w k) q = true → hasB (vt w' k) q = true
theorem Later.refl (w : Wld) : Later w w := ⟨rfl, fun _ h => h, fun _ _ _ h => h⟩
theorem Later.trans {a b c : Wld} (h : Later a b) (g : Later b c) : Later a c := ⟨g.tree.trans h.tree, fun k hk => g.cert k (h.cert k hk), fun k q hq hk => g.bits k q hq (h.bits k q hq hk)⟩
/-! What the certificates of a world certify. -/
/-! Heads. -/
theorem fltF_mem (p : Nat → Bool) : ∀ (f i : Nat) (x : Int), x ∈ fltF p f i ↔ ∃ k : Nat, i ≤ k ∧ k < i + f ∧ p k = true ∧ x = (k : Int)
  | 0, i, x => by
    simp only [fltF, List.not_mem_nil, false_iff]
    rintro ⟨k, h1, h2, _⟩; omega
  | f + 1, i, x => by
    unfold fltF
    have ih := fltF_mem p f (i + 1) x
    split
    · rename_i hp
      rw [List.mem_cons, ih]
      constructor
      · rintro (rfl | ⟨k, h1, h2, h3, h4⟩)
        · exact ⟨i, Nat.le_refl _, by omega, hp, rfl⟩
        · exact ⟨k, by omega, by omega, h3, h4⟩
      · rintro ⟨k, h1, h2, h3, h4⟩
        by_cases e : k = i
        · left; rw [h4, e]
        · right; exact ⟨k, by omega, by omega, h3, h4⟩
    · rename_i hp
      rw [ih]
      constructor
      · rintro ⟨k, h1, h2, h3, h4⟩; exact ⟨k, by omega, by omega, h3, h4⟩
      · rintro ⟨k, h1, h2, h3, h4⟩
        by_cases e : k = i
        · subst e; exact absurd h3 hp
        · exact ⟨k, by omega, by omega, h3, h4⟩

theorem headsTo_mem (t : Tree) (ce : List Bool) (b : Nat) : ∀ i, (headsTo t ce i).getD b false = true → ∃ d c : Nat, d < i ∧ t.bef d = (c : Int) ∧ t.bef c = (b : Int) ∧ threeB t ce b c d = true
  | 0, h => by
    unfold headsTo at h
    rw [List.getD_eq_getElem?_getD, List.getElem?_replicate] at h
    split at h <;> cases h
  | i + 1, h => by
    unfold headsTo headStep at h
    split at h
    · obtain ⟨d, c, h1, h2⟩ := headsTo_mem t ce b i h
      exact ⟨d, c, by omega, h2⟩
    · rename_i g1
      split at h
      · obtain ⟨d, c, h1, h2⟩ := headsTo_mem t ce b i h
        exact ⟨d, c, by omega, h2⟩
      · rename_i g2
        split at h
        · rename_i g3
          by_cases e : (t.bef (t.bef i).toNat).toNat = b
          · rw [e] at g3
            exact ⟨i, (t.bef i).toNat, by omega, by omega, by omega, g3⟩
          · rw [List.getD_eq_getElem?_getD, List.getElem?_set_ne e, ← List.getD_eq_getElem?_getD] at h
            obtain ⟨d, c, h1, h2⟩ := headsTo_mem t ce b i h
            exact ⟨d, c, by omega, h2⟩
        · obtain ⟨d, c, h1, h2⟩ := headsTo_mem t ce b i h
          exact ⟨d, c, by omega, h2⟩

theorem headsTo_mono (t : Tree) (ce : List Bool) (b : Nat) (i : Nat) : ∀ k, (headsTo t ce i).getD b false = true → (headsTo t ce (i + k)).getD b false = true
  | 0, h => h
  | k + 1, h => by
    have ih := headsTo_mono t ce b i k h
    show (headStep t ce (headsTo t ce (i + k)) (i + k)).getD b false = true
    unfold headStep
    split
    · exact ih
    · split
      · exact ih
      · split
        · exact getD_set_true _ _ _ ih
        · exact ih
theorem headsTo_has {t : Tree} (ht : TreeOk t) {ce : List Bool} {b c d : Nat} (hd : d < t.blocks.length) (h1 : t.bef d = (c : Int)) (h2 : t.bef c = (b : Int)) (h3 : threeB t ce b c d = true) : (headsTo t ce t.blocks.length).getD b false = true := by
  have e : t.blocks.length = d + 1 + (t.blocks.length - (d + 1)) := by omega
  rw [e]
  refine headsTo_mono t ce b (d + 1) _ ?_
  show (headStep t ce (headsTo t ce d) d).getD b false = true
  have hd0 : d ≠ 0 := fun x => by rw [x, ht.bef0] at h1; omega
  have hcd : c < d := by have := (ht.link d (by omega) hd).hi; rw [h1] at this; omega
  have hc0 : c ≠ 0 := fun x => by rw [x, ht.bef0] at h2; omega
  have hbc : b < c := by have := (ht.link c (by omega) (by omega)).hi; rw [h2] at this; omega
  unfold headStep
  rw [h1, Int.toNat_natCast, h2, Int.toNat_natCast, if_neg (by omega), if_neg (by omega), if_pos h3, List.getD_eq_getElem?_getD, List.getElem?_set_self (by rw [headsTo_len]; omega)]
  rfl

theorem heads_iff {t : Tree} (ht : TreeOk t) (ce : List Bool) (x : Int) : x ∈ headsL t ce ↔ ∃ b c d : Nat, x = (b : Int) ∧ d < t.blocks.length ∧ t.bef d = (c : Int) ∧ t.bef c = (b : Int) ∧ threeB t ce b c d = true := by
  unfold headsL
  rw [fltF_mem]
  constructor
  · rintro ⟨b, _, _, h3, rfl⟩
    obtain ⟨d, c, h4, h5, h6, h7⟩ := headsTo_mem t ce b _ h3
    exact ⟨b, c, d, rfl, h4, h5, h6, h7⟩
  · rintro ⟨b, c, d, rfl, h4, h5, h6, h7⟩
    have hd0 : d ≠ 0 := fun x => by rw [x, ht.bef0] at h5; omega
    have hcd : c < d := by have := (ht.link d (by omega) h4).hi; rw [h5] at this; omega
    have hc0 : c ≠ 0 := fun x => by rw [x, ht.bef0] at h6; omega
    have hbc : b < c := by have := (ht.link c (by omega) (by omega)).hi; rw [h6] at this; omega
    exact ⟨b, by omega, by omega, headsTo_has ht h4 h5 h6 h7, rfl⟩

theorem threeB_iff (t : Tree) (ce : List Bool) (b c d : Nat) : threeB t ce b c d = true ↔ ce.getD b false = true ∧ ce.getD c false = true ∧ ce.getD d false = true ∧ (t.blk b).view + 1 = (t.blk c).view ∧ (t.blk c).view + 1 = (t.blk d).view := by
  unfold threeB
  simp only [Bool.and_eq_true, beq_iff_eq]

end Go.Proofs.YthcfafpjkbbaoaaGreat

/- FnCommittedTo. -/
set_option linter.unusedSimpArgs false
set_option linter.unusedVariables false
set_option maxRecDepth 20000
set_option maxHeartbeats 4000000
namespace Go.Proofs.YthcfafpjkbbaoaaGreat
open Go Go.RowKit

end Go.Proofs.YthcfafpjkbbaoaaGreat

/- Contracts: worlds that grow. -/
set_option linter.unusedSimpArgs false
set_option linter.unusedVariables false
set_option maxRecDepth 20000
set_option maxHeartbeats 4000000
namespace Go.Proofs.YthcfafpjkbbaoaaGreat
open Go Go.RowKit

end Go.Proofs.YthcfafpjkbbaoaaGreat

/- New worlds, grown worlds: what is committed in them: plain. -/
set_option linter.unusedSimpArgs false
set_option linter.unusedVariables false
set_option maxRecDepth 20000
set_option maxHeartbeats 4000000
namespace Go.Proofs.YthcfafpjkbbaoaaGreat
open Go Go.RowKit

theorem growTree_is {t : Tree} {n v : Int} {l : List Action} (h : (growTree t n v l).2 = true) :
    TreeOk t ∧ (0 ≤ n ∧ n < t.blocks.length) ∧ ∃ b, (nextBlock (t.blk n.toNat) (storeOf t n) v l) = (b, true) ∧ TreeOk (putT t b) ∧ (growTree t n v l).1 = putT t b := by
  unfold growTree at h ⊢
  split at h
  · rename_i g1
    rw [if_pos g1]
    split at h
    · rename_i g2
      rw [if_pos g2]
      split at h
      · rename_i g3
        rw [if_pos g3]
        obtain ⟨k1, k2, k3⟩ := putBlock_is h
        have hn := inB_iff.1 g2
        refine ⟨k1, by omega, (nextBlock (t.blk n.toNat) (storeOf t n) v l).1, ?_, k2, k3⟩
        rw [← g3]
      · cases h
    · cases h
  · cases h

end Go.Proofs.YthcfafpjkbbaoaaGreat

/- Contracts: stores that are the same. -/
set_option linter.unusedSimpArgs false
set_option linter.unusedVariables false
set_option maxRecDepth 20000
set_option maxHeartbeats 4000000
namespace Go.Proofs.YthcfafpjkbbaoaaGreat
open Go Go.RowKit

theorem c_laws_sameStore (n1 n2 : Option Bool) (xs : List Entry) (hx : xs.length < 2 ^ 62) : Det Tryz.prog 50 [.sl n1 (rows encE xs), .sl n2 (rows encE xs)] (.bool true) := by
  refine fspec_det tab_ok Tryz.call50 Tryz.func50 rfl 26 Tryz.ntmps50 (of_decide_eq_true rfl) fun B => codeK_sound tab_ok _ _ _ ?_
  have hne : ((xs.length : Int) != (xs.length : Int)) = false := by simp
  simp (config := { maxSteps := 4000000 }) only [go_sem, simprocAttr, ↓dnA, Tryz.f50, rows_length, hne]
  refine semL_for tab_ok (fun i : Nat => ⟨26, [(0, .sl n1 (rows encE xs)), (1, .sl n2 (rows encE xs)), (5, .int .i64 i)], []⟩) (fun i => xs.length - i)
    (fun i => i ≤ xs.length) 0 [] (Weak.of (by rfl) ?_ ?_ (by rfl)) (by omega) ?_
  · trivial
  · simp (config := { maxSteps := 4000000 }) only [go_sem, simprocAttr, ↓dnA, Tryz.f50, rows_length, frW, wk2, wk1, wkL, wkB, hpW, List.mem_cons, Prod.mk.injEq, exists_eq_left, exists_eq_right, exists_eq]
    try rfl
  · rintro i hi
    by_cases h : i < xs.length
    · have hw : IntKind.i64.wrap ((i : Int) + 1) = ((i + 1 : Nat) : Int) := wsucc h (by omega)
      simp (config := { maxSteps := 4000000 }) only [go_sem, simprocAttr, ↓dnA, Tryz.f50, rows_length, nlt h, h, rows_get _ _ _ h, encE, nn0, hw]
      refine semL_draw tab_ok mixed_ rfl (ord := [(0, []), (1, []), (2, []), (3, []), (4, []), (5, []), (6, []), (7, []), (8, [])]) (by dsimp only; decide +kernel) ?_
      simp (config := { maxSteps := 4000000 }) only [go_sem, simprocAttr, ↓dnA, Tryz.f50, rows_length, nlt h, h, rows_get _ _ _ h, encE, nn0, hw]
      simp only [eqCellsK, BEq.rfl, Bool.and_true, Bool.not_true, Bool.false_eq_true, false_implies, true_implies, true_and, forall_const]
      refine ⟨i + 1, [], by omega, by dsimp only; omega, Weak.of (by rfl) ?_ ?_ (by rfl)⟩
      · trivial
      · simp (config := { maxSteps := 4000000 }) only [go_sem, simprocAttr, ↓dnA, Tryz.f50, rows_length, frW, wk2, wk1, wkL, wkB, hpW, List.mem_cons, Prod.mk.injEq, exists_eq_left, exists_eq_right, exists_eq]
    · have hi' : i = xs.length := by omega
      subst hi'
      simp (config := { maxSteps := 4000000 }) only [go_sem, simprocAttr, ↓dnA, Tryz.f50, rows_length, nlf h]

end Go.Proofs.YthcfafpjkbbaoaaGreat

/- Contracts: blocks that are found. -/
set_option linter.unusedSimpArgs false
set_option linter.unusedVariables false
set_option maxRecDepth 20000
set_option maxHeartbeats 4000000
namespace Go.Proofs.YthcfafpjkbbaoaaGreat
open Go Go.RowKit

end Go.Proofs.YthcfafpjkbbaoaaGreat

/- Contracts: what the laws call the same; FindBlock, BlockRight. -/
set_option linter.unusedSimpArgs false
set_option linter.unusedVariables false
set_option maxRecDepth 20000
set_option maxHeartbeats 4000000
namespace Go.Proofs.YthcfafpjkbbaoaaGreat
open Go Go.RowKit

theorem c_laws_sameInts (n1 n2 : Option Bool) (xs : List Int) (hx : xs.length < 2 ^ 62) : Det Tryz.prog 16 [.sl n1 (rows encI xs), .sl n2 (rows encI xs)] (.bool true) := by
  refine fspec_det tab_ok Tryz.call16 Tryz.func16 rfl 26 Tryz.ntmps16 (of_decide_eq_true rfl) fun B => codeK_sound tab_ok _ _ _ ?_
  have hne : ((xs.length : Int) != (xs.length : Int)) = false := by simp
  simp (config := { maxSteps := 4000000 }) only [go_sem, simprocAttr, ↓dnA, Tryz.f16, rows_length, hne]
  refine semL_for tab_ok (fun i : Nat => ⟨26, [(0, .sl n1 (rows encI xs)), (1, .sl n2 (rows encI xs)), (5, .int .i64 i)], []⟩) (fun i => xs.length - i)
    (fun i => i ≤ xs.length) 0 [] (Weak.of (by rfl) ?_ ?_ (by rfl)) (by omega) ?_
  · trivial
  · simp (config := { maxSteps := 4000000 }) only [go_sem, simprocAttr, ↓dnA, Tryz.f16, rows_length, frW, wk2, wk1, wkL, wkB, hpW, List.mem_cons, Prod.mk.injEq, exists_eq_left, exists_eq_right, exists_eq]
    try rfl
  · rintro i hi
    by_cases h : i < xs.length
    · have hw : IntKind.i64.wrap ((i : Int) + 1) = ((i + 1 : Nat) : Int) := wsucc h (by omega)
      have hxx : (xs[i] != xs[i]) = false := by simp
      simp (config := { maxSteps := 4000000 }) only [go_sem, simprocAttr, ↓dnA, Tryz.f16, rows_length, nlt h, h, rows_get _ _ _ h, encI, nn0, hw, hxx]
      refine semL_draw tab_ok mixed_ rfl (ord := [(0, []), (1, []), (2, []), (3, []), (4, []), (5, []), (6, []), (7, []), (8, [])]) (by dsimp only; decide +kernel) ?_
      simp (config := { maxSteps := 4000000 }) only [go_sem, simprocAttr, ↓dnA, Tryz.f16, rows_length, nlt h, h, rows_get _ _ _ h, encI, nn0, hw, hxx]
      refine ⟨i + 1, [], by omega, by dsimp only; omega, Weak.of (by rfl) ?_ ?_ (by rfl)⟩
      · trivial
      · simp (config := { maxSteps := 4000000 }) only [go_sem, simprocAttr, ↓dnA, Tryz.f16, rows_length, frW, wk2, wk1, wkL, wkB, hpW, List.mem_cons, Prod.mk.injEq, exists_eq_left, exists_eq_right, exists_eq]
    · have hi' : i = xs.length := by omega
      subst hi'
      simp (config := { maxSteps := 4000000 }) only [go_sem, simprocAttr, ↓dnA, Tryz.f16, rows_length, nlf h]

theorem c_laws_sameBlock (n1 n2 : Option Bool) (b : Block) (hx : b.list.length < 2 ^ 62) : Det Tryz.prog 94 [.agg (encBk n1 b), .agg (encBk n2 b)] (.bool true) := by
  refine fspec_det tab_ok Tryz.call94 Tryz.func94 rfl 66 Tryz.ntmps94 (of_decide_eq_true rfl) fun B => codeK_sound tab_ok _ _ _ ?_
  obtain ⟨be, he, vi, xs, ro, ef⟩ := b
  dsimp only at hx
  have hne : ((xs.length : Int) != (xs.length : Int)) = false := by simp
  have h1 : (be != be) = false := by simp
  have h2 : (he != he) = false := by simp
  have h3 : (vi != vi) = false := by simp
  have h4 : (ro != ro) = false := by simp
  have h5 : (ef != ef) = false := by simp
  simp (config := { maxSteps := 4000000 }) only [go_sem, simprocAttr, ↓dnA, Tryz.f94, rows_length, hne, encBk, h1, h2, h3, h4, h5]
  refine semL_for tab_ok (fun i : Nat => ⟨66, [(2, .loc 2 0), (3, .loc 3 0), (5, .int .i64 i)], [(2, .var (encBk n1 ⟨be, he, vi, xs, ro, ef⟩)), (3, .var (encBk n2 ⟨be, he, vi, xs, ro, ef⟩))]⟩) (fun i => xs.length - i)
    (fun i => i ≤ xs.length) 0 [(2, 2), (3, 3)] (Weak.of (by rfl) ?_ ?_ (by rfl)) (by omega) ?_
  · simp (config := { maxSteps := 4000000 }) only [go_sem, simprocAttr, ↓dnA, Tryz.f94, rows_length, encBk, frW, wk2, wk1, wkL, wkB, hpW, List.mem_cons, Prod.mk.injEq, exists_eq_left, exists_eq_right, exists_eq]
    try rfl
  · simp (config := { maxSteps := 4000000 }) only [go_sem, simprocAttr, ↓dnA, Tryz.f94, rows_length, encBk, frW, wk2, wk1, wkL, wkB, hpW, List.mem_cons, Prod.mk.injEq, exists_eq_left, exists_eq_right, exists_eq]
    try rfl
  · rintro i hi
    by_cases h : i < xs.length
    · have hw : IntKind.i64.wrap ((i : Int) + 1) = ((i + 1 : Nat) : Int) := wsucc h (by omega)
      simp (config := { maxSteps := 4000000 }) only [go_sem, simprocAttr, ↓dnA, Tryz.f94, rows_length, encBk, nlt h, h, rows_get _ _ _ h, encA, nn0, hw]
      refine semL_draw tab_ok mixed_ rfl (ord := [(0, []), (1, []), (2, []), (3, []), (4, []), (5, []), (6, []), (7, []), (8, []), (9, []), (10, [])]) (by dsimp only; decide +kernel) ?_
      simp (config := { maxSteps := 4000000 }) only [go_sem, simprocAttr, ↓dnA, Tryz.f94, rows_length, encBk, nlt h, h, rows_get _ _ _ h, encA, nn0, hw]
      simp only [eqCellsK, BEq.rfl, Bool.and_true, Bool.not_true, Bool.false_eq_true, false_implies, true_implies, true_and, forall_const]
      refine ⟨i + 1, [(2, 2), (3, 3)], by omega, by dsimp only; omega, Weak.of (by rfl) ?_ ?_ (by rfl)⟩
      · simp (config := { maxSteps := 4000000 }) only [go_sem, simprocAttr, ↓dnA, Tryz.f94, rows_length, encBk, frW, wk2, wk1, wkL, wkB, hpW, List.mem_cons, Prod.mk.injEq, exists_eq_left, exists_eq_right, exists_eq]
        try rfl
      · simp (config := { maxSteps := 4000000 }) only [go_sem, simprocAttr, ↓dnA, Tryz.f94, rows_length, encBk, frW, wk2, wk1, wkL, wkB, hpW, List.mem_cons, Prod.mk.injEq, exists_eq_left, exists_eq_right, exists_eq]
        try rfl
    · have hi' : i = xs.length := by omega
      subst hi'
      simp (config := { maxSteps := 4000000 }) only [go_sem, simprocAttr, ↓dnA, Tryz.f94, rows_length, encBk, nlf h]

theorem c_laws_sameTree (n1 n2 n3 m1 m2 m3 : Option Bool) (t : Tree) (hx : TreeSz t) : Det Tryz.prog 31 [.agg (encT n1 n2 n3 t), .agg (encT m1 m2 m3 t)] (.bool true) := by
  refine fspec_det tab_ok Tryz.call31 Tryz.func31 rfl 48 Tryz.ntmps31 (of_decide_eq_true rfl) fun B => codeK_sound tab_ok _ _ _ ?_
  have hx1 := hx.base
  have hx2 := hx.blocks
  have hx3 := hx.before
  have hne : ((t.blocks.length : Int) != (t.blocks.length : Int)) = false := by simp
  simp (config := { maxSteps := 4000000 }) only [go_sem, simprocAttr, ↓dnA, Tryz.f31, rows_length, encT]
  refine CallTo.det (c_laws_sameStore n1 m1 t.base hx1) fun _ => ?_
  simp (config := { maxSteps := 4000000 }) only [go_sem, simprocAttr, ↓dnA, Tryz.f31, rows_length, encT]
  refine CallTo.det (c_laws_sameInts n3 m3 t.before hx3) fun _ => ?_
  simp (config := { maxSteps := 4000000 }) only [go_sem, simprocAttr, ↓dnA, Tryz.f31, rows_length, encT, hne]
  refine semL_for tab_ok (fun i : Nat => ⟨48, [(2, .loc 2 0), (3, .loc 3 0), (5, .int .i64 i)], [(2, .var (encT n1 n2 n3 t)), (3, .var (encT m1 m2 m3 t))]⟩) (fun i => t.blocks.length - i)
    (fun i => i ≤ t.blocks.length) 0 [(2, 2), (3, 3)] (Weak.of (by rfl) ?_ ?_ (by rfl)) (by omega) ?_
  · simp (config := { maxSteps := 4000000 }) only [go_sem, simprocAttr, ↓dnA, Tryz.f31, rows_length, encT, frW, wk2, wk1, wkL, wkB, hpW, List.mem_cons, Prod.mk.injEq, exists_eq_left, exists_eq_right, exists_eq]
    try rfl
  · simp (config := { maxSteps := 4000000 }) only [go_sem, simprocAttr, ↓dnA, Tryz.f31, rows_length, encT, frW, wk2, wk1, wkL, wkB, hpW, List.mem_cons, Prod.mk.injEq, exists_eq_left, exists_eq_right, exists_eq]
    try rfl
  · rintro i hi
    by_cases h : i < t.blocks.length
    · have hw : IntKind.i64.wrap ((i : Int) + 1) = ((i + 1 : Nat) : Int) := wsucc h (by omega)
      simp (config := { maxSteps := 4000000 }) only [go_sem, simprocAttr, ↓dnA, Tryz.f31, rows_length, encT, nlt h, h, rows_get _ _ _ h, encB1, encBk, nn0, hw]
      refine semL_draw tab_ok mixed_ rfl (ord := [(0, []), (1, []), (2, []), (3, []), (4, []), (5, []), (6, []), (7, []), (8, []), (9, []), (10, []), (11, [])]) (by dsimp only; decide +kernel) ?_
      simp (config := { maxSteps := 4000000 }) only [go_sem, simprocAttr, ↓dnA, Tryz.f31, rows_length, encT, nlt h, h, rows_get _ _ _ h, encB1, encBk, nn0, hw]
      refine CallTo.det (c_laws_sameBlock none none t.blocks[i] (hx.list _ (List.getElem_mem h))) fun _ => ?_
      simp (config := { maxSteps := 4000000 }) only [go_sem, simprocAttr, ↓dnA, Tryz.f31, rows_length, encT, nlt h, h, rows_get _ _ _ h, encB1, encBk, nn0, hw]
      refine ⟨i + 1, [(2, 2), (3, 3)], by omega, by dsimp only; omega, Weak.of (by rfl) ?_ ?_ (by rfl)⟩
      · simp (config := { maxSteps := 4000000 }) only [go_sem, simprocAttr, ↓dnA, Tryz.f31, rows_length, encT, frW, wk2, wk1, wkL, wkB, hpW, List.mem_cons, Prod.mk.injEq, exists_eq_left, exists_eq_right, exists_eq]
        try rfl
      · simp (config := { maxSteps := 4000000 }) only [go_sem, simprocAttr, ↓dnA, Tryz.f31, rows_length, encT, frW, wk2, wk1, wkL, wkB, hpW, List.mem_cons, Prod.mk.injEq, exists_eq_left, exists_eq_right, exists_eq]
        try rfl
    · have hi' : i = t.blocks.length := by omega
      subst hi'
      simp (config := { maxSteps := 4000000 }) only [go_sem, simprocAttr, ↓dnA, Tryz.f31, rows_length, encT, nlf h]

theorem c_impl_BlockRight (n n1 : Option Bool) (b : Block) (s : List Entry) (hb : b.list.length < 2 ^ 32) (hs : s.length < 2 ^ 32) :
    Det Tryz.prog 95 [.agg (encBk n b), .sl n1 (rows encE s)] (.bool (blockRight b s)) := by
  refine fspec_det tab_ok Tryz.call95 Tryz.func95 rfl 34 Tryz.ntmps95 (of_decide_eq_true rfl) fun B => codeK_sound tab_ok _ _ _ ?_
  unfold blockRight
  simp (config := { maxSteps := 4000000 }) only [go_sem, simprocAttr, ↓dnA, Tryz.f95, rows_length, encBk]
  refine CallTo.det (c_impl_BlockValid n b (by omega)) fun _ => ?_
  cases h1 : blockValid b with
  | false => simp (config := { maxSteps := 4000000 }) only [go_sem, simprocAttr, ↓dnA, Tryz.f95, rows_length, encBk, h1]
  | true =>
    obtain ⟨b1, b2, b3⟩ := blockValid_bd h1
    have h5 : actionsValid b.list = true := by
      unfold blockValid at h1
      simp only [Bool.and_eq_true] at h1
      exact h1.2
    simp (config := { maxSteps := 4000000 }) only [go_sem, simprocAttr, ↓dnA, Tryz.f95, rows_length, encBk, h1]
    refine CallTo.det (c_impl_StoreValid n1 s (by omega)) fun _ => ?_
    cases h3 : storeValid s with
    | false => simp (config := { maxSteps := 4000000 }) only [go_sem, simprocAttr, ↓dnA, Tryz.f95, rows_length, encBk, h1, h3]
    | true =>
      obtain ⟨r1, r2, r3⟩ := runSerial_ok h3 h5
      obtain ⟨_, h10⟩ := actionsValid_ok h5
      have r4 := store_len r1
      simp (config := { maxSteps := 4000000 }) only [go_sem, simprocAttr, ↓dnA, Tryz.f95, rows_length, encBk, h1, h3]
      refine CallTo.det (c_impl_RunSerial n1 n s b.list hs hb) fun _ => ?_
      generalize runSerial s b.list = p at r1 r2 r3 r4
      obtain ⟨s', es⟩ := p
      dsimp only at r1 r2 r3 r4 ⊢
      obtain ⟨z6, h6⟩ : ∃ z, (b.root == rootOf s') = z := ⟨_, rfl⟩
      obtain ⟨z7, h7⟩ : ∃ z, (b.effects == effectsSum es) = z := ⟨_, rfl⟩
      simp (config := { maxSteps := 4000000 }) only [go_sem, simprocAttr, ↓dnA, Tryz.f95, rows_length, encBk, h1, h3]
      refine semL_draw tab_ok mixed_ rfl (ord := [(0, []), (1, []), (2, []), (3, [0, 1]), (4, []), (5, []), (6, []), (7, []), (8, []), (9, [6, 7]), (10, []), (11, []), (12, [])]) (by dsimp only; decide +kernel) ?_
      simp (config := { maxSteps := 4000000 }) only [go_sem, simprocAttr, ↓dnA, Tryz.f95, rows_length, encBk, h1, h3]
      refine CallTo.det (c_impl_RootOf none s' (by omega)) fun _ => ?_
      cases z6 with
      | false => simp (config := { maxSteps := 4000000 }) only [go_sem, simprocAttr, ↓dnA, Tryz.f95, rows_length, encBk, h1, h3, h6]
      | true =>
        simp (config := { maxSteps := 4000000 }) only [go_sem, simprocAttr, ↓dnA, Tryz.f95, rows_length, encBk, h1, h3, h6]
        refine CallTo.det (c_impl_EffectsSum none es (by omega) r3) fun _ => ?_
        simp (config := { maxSteps := 4000000 }) only [go_sem, simprocAttr, ↓dnA, Tryz.f95, rows_length, encBk, h1, h3, h6, h7]

end Go.Proofs.YthcfafpjkbbaoaaGreat

/- Contracts: worlds that are the same. -/
set_option linter.unusedSimpArgs false
set_option linter.unusedVariables false
set_option maxRecDepth 20000
set_option maxHeartbeats 4000000
namespace Go.Proofs.YthcfafpjkbbaoaaGreat
open Go Go.RowKit

end Go.Proofs.YthcfafpjkbbaoaaGreat

/- Contracts: what is committed in a world: its actions, its store. -/
set_option linter.unusedSimpArgs false
set_option linter.unusedVariables false
set_option maxRecDepth 20000
set_option maxHeartbeats 4000000
namespace Go.Proofs.YthcfafpjkbbaoaaGreat
open Go Go.RowKit

end Go.Proofs.YthcfafpjkbbaoaaGreat

/- Contracts: the store that is committed in a world. -/
set_option linter.unusedSimpArgs false
set_option linter.unusedVariables false
set_option maxRecDepth 20000
set_option maxHeartbeats 4000000
namespace Go.Proofs.YthcfafpjkbbaoaaGreat
open Go Go.RowKit

end Go.Proofs.YthcfafpjkbbaoaaGreat

