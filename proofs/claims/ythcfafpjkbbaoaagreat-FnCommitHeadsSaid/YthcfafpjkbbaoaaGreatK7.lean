/- Shared texts K (part 7): W122, W123, W132, W133, W134, W135, W136, W138, Ty1, Ty4, Ty5, Ty6 -/
import Derived.Test.YthcfafpjkbbaoaaGreatK6

set_option linter.unusedSimpArgs false
set_option linter.unusedVariables false

/- Blocks that are right over their stores; the store behind a way: plain. -/
set_option linter.unusedSimpArgs false
set_option linter.unusedVariables false
set_option maxRecDepth 20000
set_option maxHeartbeats 4000000
namespace Go.Proofs.YthcfafpjkbbaoaaGreat
open Go Go.RowKit

/-- The values ahead of a block. -/
def aheadV (t : Tree) (k : Nat) : List Int := if k = 0 then valuesL t.base else afterV t (t.bef k)
def rightStep (t : Tree) (l : List Bool) (k : Nat) : List Bool := l ++ [blockRight (t.blk k) (storeL (aheadV t k)) && (k == 0 || l.getD (t.bef k).toNat false)]
/-- Which of the first k blocks are right, with all before them. -/
def rightsTo (t : Tree) : Nat → List Bool
  | 0 => []
  | k + 1 => rightStep t (rightsTo t k) k
noncomputable def rights (t : Tree) : List Bool := if treeValid t then rightsTo t t.blocks.length else []

theorem rightsTo_len (t : Tree) : ∀ k, (rightsTo t k).length = k
  | 0 => rfl
  | k + 1 => by unfold rightsTo rightStep; rw [List.length_append, rightsTo_len t k]; rfl
theorem rightsTo_le (t : Tree) (k : Nat) : ∀ (m i : Nat), i < k → (rightsTo t (k + m)).getD i false = (rightsTo t k).getD i false
  | 0, i, _ => rfl
  | m + 1, i, hi => by
    show (rightStep t (rightsTo t (k + m)) (k + m)).getD i false = _
    unfold rightStep
    rw [List.getD_eq_getElem?_getD, List.getElem?_append_left (by rw [rightsTo_len]; omega), ← List.getD_eq_getElem?_getD]
    exact rightsTo_le t k m i hi
theorem rightsTo_at (t : Tree) {k n : Nat} (h : k < n) : (rightsTo t n).getD k false = (blockRight (t.blk k) (storeL (aheadV t k)) && (k == 0 || (rightsTo t k).getD (t.bef k).toNat false)) := by
  have e : n = (k + 1) + (n - (k + 1)) := by omega
  rw [e, rightsTo_le t (k + 1) _ k (by omega)]
  show (rightStep t (rightsTo t k) k).getD k false = _
  unfold rightStep
  rw [List.getD_eq_getElem?_getD, List.getElem?_append_right (by rw [rightsTo_len]; omega), rightsTo_len, Nat.sub_self]
  rfl

/-! The store behind a block. -/
theorem aheadV_ok {t : Tree} (ht : TreeOk t) {k : Nat} (hk : k < t.blocks.length) : ValsOk (aheadV t k) := by
  unfold aheadV
  split
  · exact valuesL_ok ht.store
  · rename_i h0
    have := (ht.link k (by omega) hk).hi
    exact afterV_ok ht (by omega)
theorem storeOf_in {t : Tree} (ht : TreeOk t) {k : Nat} (hk : k < t.blocks.length) : storeOf t (k : Int) = storeL (afterV t (k : Int)) := by
  unfold storeOf
  rw [treeValid_true ht, inB_iff.2 (by omega)]
  rfl
/-! A tree with a further block. -/
theorem putT_back {t : Tree} (ht : TreeOk t) {b : Block} (ht' : TreeOk (putT t b)) : ∀ (m k : Nat), k < m → k < t.blocks.length → back (putT t b) (k : Int) = back t (k : Int)
  | 0, k, h, _ => by omega
  | m + 1, k, h, hk => by
    have hlen := putT_len t b
    obtain ⟨h1, h2, h3⟩ := back_cons ht k hk
    obtain ⟨g1, _, _⟩ := back_cons ht' k (by omega)
    rw [g1, h1, putT_befOld ht hk]
    rcases h3 with h3 | h3
    · rw [h3, back_neg _ _ (by omega), back_neg _ _ (by omega)]
    · obtain ⟨j, hj⟩ : ∃ j : Nat, t.bef k = (j : Int) := ⟨(t.bef k).toNat, by omega⟩
      rw [hj, putT_back ht ht' m j (by omega) (by omega)]
theorem wayV_congr {t u : Tree} (m : Nat) (h : ∀ k, k < m → t.blk k = u.blk k) : ∀ (p : List Int) (v : List Int), (∀ x, x ∈ p → 0 ≤ x ∧ x < (m : Int)) → wayV t v p = wayV u v p
  | [], v, _ => rfl
  | x :: r, v, hp => by
    have hx := hp x (List.mem_cons_self ..)
    show wayV t (runAllE v (t.blk x.toNat).list).1 r = wayV u (runAllE v (u.blk x.toNat).list).1 r
    rw [h x.toNat (by omega)]
    exact wayV_congr m h r _ (fun y hy => hp y (List.mem_cons_of_mem _ hy))
theorem putT_after {t : Tree} (ht : TreeOk t) {b : Block} (ht' : TreeOk (putT t b)) {k : Nat} (hk : k < t.blocks.length) : afterV (putT t b) (k : Int) = afterV t (k : Int) := by
  unfold afterV
  have e : pathL (putT t b) (k : Int) = pathL t (k : Int) := by unfold pathL; rw [putT_back ht ht' (k + 1) k (by omega) hk]
  rw [e]
  exact wayV_congr t.blocks.length (fun j hj => putT_old hj) _ _ (fun x hx => by have := pathL_bd ht (n := (k : Int)) (by omega) x hx; omega)

/-- A grown tree: the new block is right if the one before it is. -/
theorem growTree_right {t : Tree} {n v : Int} {l : List Action} (h : (growTree t n v l).2 = true) :
    TreeOk (growTree t n v l).1 ∧ (growTree t n v l).1.blocks.length = t.blocks.length + 1 ∧ (growTree t n v l).1.bef t.blocks.length = n ∧
    (rightsTo (growTree t n v l).1 (t.blocks.length + 1)).getD t.blocks.length false = (rightsTo (growTree t n v l).1 (t.blocks.length + 1)).getD n.toNat false := by
  obtain ⟨ht, hn, b, hnb, ht', e⟩ := growTree_is h
  rw [e]
  have hlen := putT_len t b
  have h2 : (nextBlock (t.blk n.toNat) (storeOf t n) v l).2 = true := by rw [hnb]
  have his := nextBlock_is h2
  have hri := nextBlock_right h2
  rw [hnb] at his hri
  dsimp only at his hri
  obtain ⟨k, rfl⟩ : ∃ k : Nat, n = (k : Int) := ⟨n.toNat, by omega⟩
  rw [Int.toNat_natCast] at his
  have hk : k < t.blocks.length := by omega
  have hb : b.before = blockSum (t.blk k) := by rw [his.1]
  have hbef : (putT t b).bef t.blocks.length = (k : Int) := by rw [putT_bef ht, hb]; exact (findB_self t k hk).2 fun i hi => ht.dist i k hi hk
  refine ⟨ht', hlen, hbef, ?_⟩
  have h0 : t.blocks.length ≠ 0 := by omega
  rw [rightsTo_at (putT t b) (show t.blocks.length < t.blocks.length + 1 by omega), putT_new, Int.toNat_natCast]
  have ha : storeL (aheadV (putT t b) t.blocks.length) = storeOf t (k : Int) := by
    unfold aheadV
    rw [if_neg h0, hbef, putT_after ht ht' hk, storeOf_in ht hk]
  rw [ha, hri, hbef, Int.toNat_natCast, beq_eq_false_iff_ne.2 h0, Bool.true_and, Bool.false_or]
  exact (rightsTo_le (putT t b) t.blocks.length 1 k hk).symm

/-! All actions on a way, one after the other. -/
end Go.Proofs.YthcfafpjkbbaoaaGreat

/- Votes and runs of votes: plain. -/
set_option linter.unusedSimpArgs false
set_option linter.unusedVariables false
set_option maxRecDepth 20000
set_option maxHeartbeats 4000000
namespace Go.Proofs.YthcfafpjkbbaoaaGreat
open Go Go.RowKit

theorem ScOk.take {sc : List Int} (h : ScOk sc) (k : Nat) : ScOk (sc.take k) := by
  refine ⟨by rw [List.length_take]; have := h.1; omega, List.all_eq_true.2 fun x hx => ?_⟩
  exact List.all_eq_true.1 h.2 x (List.mem_of_mem_take hx)
theorem ScOk.drop {sc : List Int} (h : ScOk sc) (k : Nat) : ScOk (sc.drop k) := by
  refine ⟨by rw [List.length_drop]; have := h.1; omega, List.all_eq_true.2 fun x hx => ?_⟩
  exact List.all_eq_true.1 h.2 x (List.mem_of_mem_drop hx)

end Go.Proofs.YthcfafpjkbbaoaaGreat

/- Contracts: the way to a block, an action's effect, a store with what an effect writes (the program's). -/
set_option linter.unusedSimpArgs false
set_option linter.unusedVariables false
set_option maxRecDepth 20000
set_option maxHeartbeats 4000000
namespace Go.Proofs.YthcfafpjkbbaoaaGreat
open Go Go.RowKit

end Go.Proofs.YthcfafpjkbbaoaaGreat

/- Contracts: the values ahead of a block; which blocks are right (the program's). -/
set_option linter.unusedSimpArgs false
set_option linter.unusedVariables false
set_option maxRecDepth 20000
set_option maxHeartbeats 4000000
namespace Go.Proofs.YthcfafpjkbbaoaaGreat
open Go Go.RowKit

theorem boolRows_nil : boolRows [] = [] := rfl
theorem boolRows_snoc (l : List Bool) (b : Bool) : boolRows l ++ [[.bool b]] = boolRows (l ++ [b]) := by simp [boolRows]

theorem c_impl_ahead (n1 n2 n3 : Option Bool) (t : Tree) (k : Nat) (ht : TreeOk t) (hx : TreeSz t) (hk : k < t.blocks.length) :
    Det Tryz.prog 96 [.agg (encT n1 n2 n3 t), .int .i64 k] (.agg (cellsI (aheadV t k))) := by
  refine fspec_det tab_ok Tryz.call96 Tryz.func96 rfl 17 Tryz.ntmps96 (of_decide_eq_true rfl) fun B => codeK_sound tab_ok _ _ _ ?_
  have hO := aheadV_ok ht hk
  have cl : (cellsI (aheadV t k)).length = 32 := by rw [cellsI_length, hO.1]
  have hcv : (cellsI (aheadV t k)).take 32 = cellsI (aheadV t k) := cellsI_take _ 32 hO.1
  by_cases h0 : k = 0
  · have z : ((k : Int) == 0) = true := by simp; omega
    obtain ⟨h3, h4⟩ := entOk_spec 1 t.base (-1) ht.store
    have e : aheadV t k = valuesL t.base := by unfold aheadV; rw [if_pos h0]
    rw [e] at cl hcv ⊢
    simp (config := { maxSteps := 4000000 }) only [go_sem, simprocAttr, ↓dnA, Tryz.f96, boolRows_length, rows_length, encT, z]
    refine CallTo.det (c_impl_valuesOf n1 t.base hx.base (fun e he => by have := h3 e he; omega)) fun _ => ?_
    simp (config := { maxSteps := 4000000 }) only [go_sem, simprocAttr, ↓dnA, Tryz.f96, boolRows_length, rows_length, encT, z, cl, hcv, cellsI_impL, cellsI_impLB, cellsI_one, cellsI_exp, cellsI_rw]
    try trivial
  · have z : ((k : Int) == 0) = false := by simp; omega
    have hkb : k < t.before.length := by rw [ht.bef]; exact hk
    have hl := ht.link k (by omega) hk
    have h2 := hl.hi
    have e : aheadV t k = afterV t (t.bef k) := by unfold aheadV; rw [if_neg h0]
    have g1 : (rows encI t.before).getD k [] = [.int .i64 (t.bef k)] := by rw [rows_get _ _ k hkb, t.bef_get k hkb]; rfl
    rw [e] at cl hcv ⊢
    simp (config := { maxSteps := 4000000 }) only [go_sem, simprocAttr, ↓dnA, Tryz.f96, boolRows_length, rows_length, encT, z]
    refine semL_draw tab_ok mixed_ rfl (ord := [(0, []), (1, []), (2, []), (3, []), (4, []), (5, []), (6, []), (7, [])]) (by dsimp only; decide +kernel) ?_
    simp (config := { maxSteps := 4000000 }) only [go_sem, simprocAttr, ↓dnA, Tryz.f96, boolRows_length, rows_length, encT, z, nn0, nlt hkb, hkb, g1]
    refine CallTo.det (c_impl_after n1 n2 n3 t (t.bef k) ht hx (by omega)) fun _ => ?_
    simp (config := { maxSteps := 4000000 }) only [go_sem, simprocAttr, ↓dnA, Tryz.f96, boolRows_length, rows_length, encT, z, cl, hcv, cellsI_impL, cellsI_impLB, cellsI_one, cellsI_exp, cellsI_rw]
    try trivial

theorem c_impl_RightBlocks (n1 n2 n3 : Option Bool) (t : Tree) (hx : TreeSz t) :
    Det Tryz.prog 32 [.agg (encT n1 n2 n3 t)] (.osl false 1 (boolRows (rights t))) := by
  refine fspec_det tab_ok Tryz.call32 Tryz.func32 rfl 44 Tryz.ntmps32 (of_decide_eq_true rfl) fun B => codeK_sound tab_ok _ _ _ ?_
  simp (config := { maxSteps := 4000000 }) only [go_sem, simprocAttr, ↓dnA, Tryz.f32, boolRows_length, rows_length, encT]
  refine CallTo.det (c_impl_BlockTreeValid n1 n2 n3 t hx) fun _ => ?_
  cases h0 : treeValid t with
  | false =>
    have e : rights t = [] := by unfold rights; rw [h0]; rfl
    simp (config := { maxSteps := 4000000 }) only [go_sem, simprocAttr, ↓dnA, Tryz.f32, boolRows_length, rows_length, encT, h0, e, boolRows_nil]
  | true =>
    have ht := treeOk_of h0
    have hlen := ht.len
    have e : rights t = rightsTo t t.blocks.length := by unfold rights; rw [h0]; rfl
    rw [e]
    simp (config := { maxSteps := 4000000 }) only [go_sem, simprocAttr, ↓dnA, Tryz.f32, boolRows_length, rows_length, encT, h0]
    refine semL_nilA 3 600 1 true (by rfl) (by rfl) (by decide) (by decide) ?_
    refine semL_for tab_ok (fun i : Nat => ⟨44, [(1, .loc 1 0), (3, .row 600 i), (11, .sl n2 (rows encB1 t.blocks)), (12, .int .i64 t.blocks.length), (13, .int .i64 i)],
        [(1, .var (encT n1 n2 n3 t)), (600, .row true false 1 (boolRows (rightsTo t i)))]⟩) (fun i => t.blocks.length - i)
      (fun i => i ≤ t.blocks.length) 0 [(1, 1), (600, 600)] (Weak.of (by rfl) ?_ ?_ (by rfl)) (by omega) ?_
    · simp (config := { maxSteps := 4000000 }) only [go_sem, simprocAttr, ↓dnA, Tryz.f32, boolRows_length, rows_length, encT, frW, wk2, wk1, wkL, wkB, hpW, List.mem_cons, Prod.mk.injEq, exists_eq_left, exists_eq_right, exists_eq]
      try rfl
    · simp (config := { maxSteps := 4000000 }) only [go_sem, simprocAttr, ↓dnA, Tryz.f32, boolRows_length, rows_length, encT, frW, wk2, wk1, wkL, wkB, hpW, List.mem_cons, Prod.mk.injEq, exists_eq_left, exists_eq_right, exists_eq]
      try rfl
    · rintro i hi
      have hl := rightsTo_len t i
      by_cases h : i < t.blocks.length
      · have hw : IntKind.i64.wrap ((i : Int) + 1) = ((i + 1 : Nat) : Int) := wsucc h (by omega)
        have hst : rightsTo t (i + 1) = rightsTo t i ++ [blockRight (t.blk i) (storeL (aheadV t i)) && (i == 0 || (rightsTo t i).getD (t.bef i).toNat false)] := rfl
        have hbk : (rows encB1 t.blocks).getD i [] = encB1 (t.blk i) := rows_gd encB1 t.blocks i h
        have hb10 := tb_list (ht.valid i h)
        have hA := c_impl_ahead n1 n2 n3 t i ht hx h
        have hV := aheadV_ok ht h
        generalize aheadV t i = v at hA hV hst
        have cl : (cellsI v).length = 32 := by rw [cellsI_length, hV.1]
        have hcv : (cellsI v).take 32 = cellsI v := cellsI_take _ 32 hV.1
        have hsl := store_len (storeL_valid hV)
        have hS := c_impl_store v hV
        have hB := c_impl_BlockRight none none (t.blk i) (storeL v) (by omega) (by omega)
        generalize storeL v = s at hS hB hst hsl
        generalize blockRight (t.blk i) s = br at hB hst
        generalize rightsTo t i = l at hl hst
        have htk : (boolRows l).take i = boolRows l := by rw [List.take_of_length_le]; rw [boolRows_length]; omega
        have hll : ∀ b : Bool, (l ++ [b]).length = i + 1 := fun b => by simp [hl]
        simp (config := { maxSteps := 4000000 }) only [go_sem, simprocAttr, ↓dnA, Tryz.f32, boolRows_length, rows_length, encT, nlt h, h, nn0, hbk, encB1, encBk]
        refine semL_draw tab_ok mixed_ rfl (ord := [(0, []), (1, []), (2, []), (3, [0]), (4, [0]), (5, []), (6, [])]) (by dsimp only; decide +kernel) ?_
        simp (config := { maxSteps := 4000000 }) only [go_sem, simprocAttr, ↓dnA, Tryz.f32, boolRows_length, rows_length, encT, nlt h, h, nn0, hbk, encB1, encBk]
        refine CallTo.det hA fun _ => ?_
        simp (config := { maxSteps := 4000000 }) only [go_sem, simprocAttr, ↓dnA, Tryz.f32, boolRows_length, rows_length, encT, nlt h, h, nn0, hbk, encB1, encBk, cl, hcv, cellsI_impL, cellsI_impLB, cellsI_noT, cellsI_argL]
        refine CallTo.det hS fun _ => ?_
        simp (config := { maxSteps := 4000000 }) only [go_sem, simprocAttr, ↓dnA, Tryz.f32, boolRows_length, rows_length, encT, nlt h, h, nn0, hbk, encB1, encBk, cellsI_impL, cellsI_impLB]
        refine CallTo.det hB fun _ => ?_
        cases br with
        | false =>
          rw [Bool.false_and] at hst
          simp (config := { maxSteps := 4000000 }) only [go_sem, simprocAttr, ↓dnA, Tryz.f32, boolRows_length, rows_length, encT, cellsI_impL, cellsI_impLB, nlt h, h, nn0, hl, htk, hw, boolRows_snoc]
          repeat refine And.intro (by first | omega | (simp; done) | (simp; omega) | assumption) ?_
          refine ⟨i + 1, [(1, 1), (41, 600)], by omega, by dsimp only; omega, Weak.of (by rfl) ?_ ?_ (by rfl)⟩
          · simp (config := { maxSteps := 4000000 }) only [go_sem, simprocAttr, ↓dnA, Tryz.f32, boolRows_length, rows_length, encT, hst, frW, wk2, wk1, wkL, wkB, hpW, List.mem_cons, Prod.mk.injEq, exists_eq_left, exists_eq_right, exists_eq]
            try rfl
          · simp (config := { maxSteps := 4000000 }) only [go_sem, simprocAttr, ↓dnA, Tryz.f32, boolRows_length, rows_length, encT, hll, frW, wk2, wk1, wkL, wkB, hpW, List.mem_cons, Prod.mk.injEq, exists_eq_left, exists_eq_right, exists_eq]
            try rfl
        | true =>
          rw [Bool.true_and] at hst
          by_cases h0 : i = 0
          · have z : ((i : Int) == 0) = true := by simp; omega
            have z2 : (i == 0) = true := by simp; omega
            rw [z2, Bool.true_or] at hst
            simp (config := { maxSteps := 4000000 }) only [go_sem, simprocAttr, ↓dnA, Tryz.f32, boolRows_length, rows_length, encT, cellsI_impL, cellsI_impLB, nlt h, h, nn0, hl, htk, hw, z, boolRows_snoc]
            repeat refine And.intro (by first | omega | (simp; done) | (simp; omega) | assumption) ?_
            refine ⟨i + 1, [(1, 1), (41, 600)], by omega, by dsimp only; omega, Weak.of (by rfl) ?_ ?_ (by rfl)⟩
            · simp (config := { maxSteps := 4000000 }) only [go_sem, simprocAttr, ↓dnA, Tryz.f32, boolRows_length, rows_length, encT, hst, frW, wk2, wk1, wkL, wkB, hpW, List.mem_cons, Prod.mk.injEq, exists_eq_left, exists_eq_right, exists_eq]
              try rfl
            · simp (config := { maxSteps := 4000000 }) only [go_sem, simprocAttr, ↓dnA, Tryz.f32, boolRows_length, rows_length, encT, hll, frW, wk2, wk1, wkL, wkB, hpW, List.mem_cons, Prod.mk.injEq, exists_eq_left, exists_eq_right, exists_eq]
              try rfl
          · have z : ((i : Int) == 0) = false := by simp; omega
            have z2 : (i == 0) = false := by simp; omega
            rw [z2, Bool.false_or] at hst
            have hib : i < t.before.length := by rw [ht.bef]; exact h
            have hlk := ht.link i (by omega) h
            have k1 := hlk.lo
            have k2 := hlk.hi
            obtain ⟨j, hj⟩ : ∃ j : Nat, t.bef i = (j : Int) := ⟨(t.bef i).toNat, by omega⟩
            have hjl : j < l.length := by omega
            have hji : j < i := by omega
            have g1 : (rows encI t.before).getD i [] = [.int .i64 (j : Nat)] := by rw [rows_get _ _ i hib, t.bef_get i hib, hj]; rfl
            rw [hj, Int.toNat_natCast] at hst
            have hgj := boolRows_get l j hjl
            generalize l.getD j false = bj at hst hgj
            simp (config := { maxSteps := 4000000 }) only [go_sem, simprocAttr, ↓dnA, Tryz.f32, boolRows_length, rows_length, encT, cellsI_impL, cellsI_impLB, nlt h, h, nn0, hl, htk, hw, z, g1, nlt hib, hib, nlt hji, hji, hgj, boolRows_snoc]
            repeat refine And.intro (by first | omega | (simp; done) | (simp; omega) | assumption) ?_
            refine ⟨i + 1, [(1, 1), (41, 600)], by omega, by dsimp only; omega, Weak.of (by rfl) ?_ ?_ (by rfl)⟩
            · simp (config := { maxSteps := 4000000 }) only [go_sem, simprocAttr, ↓dnA, Tryz.f32, boolRows_length, rows_length, encT, hst, frW, wk2, wk1, wkL, wkB, hpW, List.mem_cons, Prod.mk.injEq, exists_eq_left, exists_eq_right, exists_eq]
              try rfl
            · simp (config := { maxSteps := 4000000 }) only [go_sem, simprocAttr, ↓dnA, Tryz.f32, boolRows_length, rows_length, encT, hll, frW, wk2, wk1, wkL, wkB, hpW, List.mem_cons, Prod.mk.injEq, exists_eq_left, exists_eq_right, exists_eq]
              try rfl
      · have hi' : i = t.blocks.length := by omega
        subst hi'
        simp (config := { maxSteps := 4000000 }) only [go_sem, simprocAttr, ↓dnA, Tryz.f32, boolRows_length, rows_length, encT, nlf h, hl]

end Go.Proofs.YthcfafpjkbbaoaaGreat

/- Heads: where they stand in the list of blocks; marks of a view: plain. -/
namespace Go.Proofs.YthcfafpjkbbaoaaGreat
open Go Go.RowKit

theorem fltF_asc (p : Nat → Bool) : ∀ (f i : Nat), (fltF p f i).Pairwise (· < ·)
  | 0, _ => List.Pairwise.nil
  | f + 1, i => by
    have ih := fltF_asc p f (i + 1)
    unfold fltF
    split
    · refine List.Pairwise.cons (fun x hx => ?_) ih
      have := fltF_bd p f (i + 1) x hx; omega
    · exact ih

theorem headsL_asc (t : Tree) (ce : List Bool) {i j : Nat} (hij : i < j) (hj : j < (headsL t ce).length) : (headsL t ce).getD i 0 < (headsL t ce).getD j 0 := by
  have h := List.pairwise_iff_getElem.1 (fltF_asc (headsB t ce) t.blocks.length 0) i j (by show i < (headsL t ce).length; omega) hj hij
  rw [List.getD_eq_getElem?_getD, List.getD_eq_getElem?_getD, List.getElem?_eq_getElem (show i < (headsL t ce).length by omega), List.getElem?_eq_getElem hj]
  exact h

/-- Whether the block d is the second one behind the block x, all certified, with the next two views. -/
def behindB (t : Tree) (ce : List Bool) (x d : Nat) : Bool :=
  decide (t.bef d > 0) && (t.bef (t.bef d).toNat == (x : Int)) && (ce.getD d false && (ce.getD (t.bef d).toNat false && (ce.getD x false && (((t.blk (t.bef d).toNat).view == (t.blk x).view + 1) && ((t.blk d).view == (t.blk x).view + 2)))))

theorem head_behind {t : Tree} (ht : TreeOk t) {ce : List Bool} {x : Int} (h : x ∈ headsL t ce) : ∃ b d : Nat, x = (b : Int) ∧ b < t.blocks.length ∧ 1 ≤ d ∧ d < t.blocks.length ∧ behindB t ce b d = true := by
  obtain ⟨b, c, d, h1, h2, h3, h4, h5⟩ := (heads_iff ht ce x).1 h
  obtain ⟨k1, k2, k3, k4, k5⟩ := (threeB_iff t ce b c d).1 h5
  have hd0 : d ≠ 0 := fun e => by rw [e, ht.bef0] at h3; omega
  have hc0 : c ≠ 0 := fun e => by rw [e, ht.bef0] at h4; omega
  have hcd := (ht.link d (by omega) h2).hi
  have hbc := (ht.link c (by omega) (by omega)).hi
  refine ⟨b, d, h1, by omega, by omega, h2, ?_⟩
  unfold behindB
  rw [h3, Int.toNat_natCast, h4, k1, k2, k3]
  simp only [beq_self_eq_true, Bool.and_true, Bool.true_and, Bool.and_eq_true, decide_eq_true_eq, beq_iff_eq]
  omega

end Go.Proofs.YthcfafpjkbbaoaaGreat

/- The committed store: the serial run of what is committed: plain. -/
namespace Go.Proofs.YthcfafpjkbbaoaaGreat
open Go Go.RowKit

end Go.Proofs.YthcfafpjkbbaoaaGreat

/- Results of several parts that are owned, taken as read only. -/
namespace Go.Proofs.YthcfafpjkbbaoaaGreat
open Go Go.RowKit

end Go.Proofs.YthcfafpjkbbaoaaGreat

/- Drawn runs of votes. -/
set_option linter.unusedSimpArgs false
set_option linter.unusedVariables false
set_option maxRecDepth 20000
set_option maxHeartbeats 4000000
namespace Go.Proofs.YthcfafpjkbbaoaaGreat
open Go Go.RowKit

end Go.Proofs.YthcfafpjkbbaoaaGreat

/- Arguments of the laws, by their types. -/
set_option linter.unusedSimpArgs false
namespace Go.Proofs.YthcfafpjkbbaoaaGreat
open Go Go.ChangeShapes Go.WideShapes Go.ChangeAt Go.RowKit

theorem own_ : ownKnob Tryz.prog.godebug = none := by kernel_rfl
theorem laidOut_ : laidOutB Tryz.prog = true := by kernel_rfl

/-- The cells of one value read as the cells of a datum. -/
def Leqs (r c : List AV) : Prop := r.length = c.length ∧ ∀ (j : Nat) (_ : j < c.length), Leq (r.getD j .top) (c.getD j .top)
theorem Leqs.refl (c : List AV) : Leqs c c := ⟨rfl, fun _ _ => Leq.refl _⟩
theorem Leqs.agg {r c : List AV} (h : Leqs r c) : Leq (.agg r) (.agg c) := Leq.agg h.1 h.2

theorem Leqs.cons {a b : AV} {r c : List AV} (h : Leq a b) (h' : Leqs r c) : Leqs (a :: r) (b :: c) := by
  refine ⟨by simp [h'.1], fun j hj => ?_⟩
  cases j with
  | zero => exact h
  | succ j => exact h'.2 j (by simpa using hj)

theorem Leqs.one {r : List AV} {b : AV} (h : Leqs r [b]) : ∃ a, r = [a] ∧ Leq a b := by
  obtain ⟨h1, h2⟩ := h
  match r, h1 with
  | [a], _ => exact ⟨a, rfl, h2 0 (by simp)⟩

end Go.Proofs.YthcfafpjkbbaoaaGreat

/- Arguments of the laws, by their types: slices of entries, of actions. -/
set_option linter.unusedSimpArgs false
namespace Go.Proofs.YthcfafpjkbbaoaaGreat
open Go Go.RowKit

end Go.Proofs.YthcfafpjkbbaoaaGreat

/- Arguments of the laws, by their types: blocks. -/
set_option linter.unusedSimpArgs false
namespace Go.Proofs.YthcfafpjkbbaoaaGreat
open Go Go.RowKit

end Go.Proofs.YthcfafpjkbbaoaaGreat

/- Arguments of the laws, by their types: codes. -/
set_option linter.unusedSimpArgs false
namespace Go.Proofs.YthcfafpjkbbaoaaGreat
open Go Go.RowKit

/-- A slice of elements that read as data. -/
theorem ty_rowsC {α : Type} (e : α → List AV) {et : TypeId} {es : List (List AV)} (h : ∀ (j : Nat) (_ : j < es.length), Ty tab et (es.getD j [])) (hx : ∀ r, Ty tab et r → ∃ x, r.length = (e x).length ∧ ∀ (j : Nat) (_ : j < (e x).length), Leq (r.getD j .top) ((e x).getD j .top)) :
    ∃ xs : List α, es.length = xs.length ∧ ∀ nn, Leq (.sl nn es) (.sl nn (rows e xs)) := by
  have key : ∃ xs : List α, es.length = xs.length ∧ ∀ (i : Nat) (hi : i < xs.length), (es.getD i []).length = (e (xs[i]'hi)).length ∧ ∀ (j : Nat) (_ : j < (e (xs[i]'hi)).length), Leq ((es.getD i []).getD j .top) ((e (xs[i]'hi)).getD j .top) := by
    induction es with
    | nil => exact ⟨[], rfl, fun i hi => absurd hi (by simp)⟩
    | cons r rs ih =>
      obtain ⟨x, hx1, hx2⟩ := hx r (h 0 (by simp))
      obtain ⟨xs, h1, h2⟩ := ih (fun j hj => h (j + 1) (by simpa using hj))
      refine ⟨x :: xs, by simp [h1], fun i hi => ?_⟩
      cases i with
      | zero => exact ⟨hx1, hx2⟩
      | succ i => exact h2 i (by simpa using hi)
  obtain ⟨xs, h1, h2⟩ := key
  refine ⟨xs, h1, fun nn => Leq.sl (by rw [rows_length, h1]) (fun i hi => ?_) (fun i j hi hj => ?_)⟩
  · rw [rows_length] at hi
    rw [rows_get _ _ _ hi]
    exact (h2 i hi).1
  · rw [rows_length] at hi
    rw [rows_get _ _ _ hi] at hj ⊢
    exact (h2 i hi).2 j hj

theorem ty_code {a : AV} (h : TyArg tab 22 a) : ∃ nb bs, Leq a (.sl nb (rows encB bs)) ∧ ∀ b, b ∈ bs → 0 ≤ b ∧ b ≤ 255 := by
  obtain ⟨nn, es, e1, _, _, he⟩ := (h.one_inv tabAt_22 rfl).slice_inv tabAt_22 rfl
  have hx : ∀ r, Ty tab 5 r → ∃ x : { n : Int // 0 ≤ n ∧ n ≤ 255 }, r.length = (encB x.1).length ∧ ∀ (j : Nat) (_ : j < (encB x.1).length), Leq (r.getD j .top) ((encB x.1).getD j .top) := by
    intro r hr
    obtain ⟨n, e, hn⟩ := hr.int_inv tabAt_5 rfl
    have hn' : 0 ≤ n ∧ n ≤ 255 := hn
    exact ⟨⟨n, hn'⟩, by rw [e]; rfl, fun j _ => by rw [e]; exact Leq.refl _⟩
  obtain ⟨xs, h1, h2⟩ := ty_rowsC (fun x : { n : Int // 0 ≤ n ∧ n ≤ 255 } => encB x.1) he hx
  have ea : a = .sl (some nn) es := by simpa using e1
  refine ⟨some nn, xs.map (·.1), ?_, fun b hb => ?_⟩
  · rw [ea]
    have := h2 (some nn)
    have e3 : rows (fun x : { n : Int // 0 ≤ n ∧ n ≤ 255 } => encB x.1) xs = rows encB (xs.map (·.1)) := by simp [rows]
    rwa [e3] at this
  · obtain ⟨x, _, rfl⟩ := List.mem_map.1 hb
    exact x.2

/-- A law of a code. -/
theorem law_code {k : FuncId} (h : ∀ nb bs, (∀ b, b ∈ bs → 0 ≤ b ∧ b ≤ 255) → Det Tryz.prog k [.sl nb (rows encB bs)] (.bool true)) {cs : List AV} (hc : TyArgs tab [22] cs) : Det Tryz.prog k cs (.bool true) := by
  match cs, hc with
  | [a], hc =>
    obtain ⟨nb, bs, h1, h2⟩ := ty_code hc.1
    refine FSpec.args (h nb bs h2) rfl fun i hi => ?_
    have : i = 0 := by simp at hi; exact hi
    subst this
    exact h1

end Go.Proofs.YthcfafpjkbbaoaaGreat

