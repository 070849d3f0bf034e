/- Shared texts K (part 5): W37, W38, W35, W39, W66, W68, W34, W42, W95, W46, W47, W48, W49, W50, W51, W52, W53, W58, W97, W54, W55, W56, W59, W63 -/
import Derived.Maps.Views
import Derived.Lib.AppendZerosOnto
import Derived.Lib.SliceRun
import Derived.Lib.Walk
import Derived.Test.YthcfafpjkbbaoaaGreatK4

set_option linter.unusedSimpArgs false
set_option linter.unusedVariables false

/- Contracts: the way to a block. -/
set_option linter.unusedSimpArgs false
set_option linter.unusedVariables false
set_option maxRecDepth 20000
set_option maxHeartbeats 4000000
namespace Go.Proofs.YthcfafpjkbbaoaaGreat
open Go Go.RowKit

/-- The numbers of the blocks from one back to the first, at most f of them. -/
def backF (t : Tree) : Nat → Int → List Int
  | 0, _ => []
  | f + 1, n => if n < 0 then [] else n :: backF t f (t.bef n.toNat)
def back (t : Tree) (n : Int) : List Int := backF t (n.toNat + 1) n
def pathL (t : Tree) (n : Int) : List Int := (back t n).reverse

theorem backF_eq {t : Tree} (ht : TreeOk t) : ∀ (f : Nat) (n : Int), n < t.blocks.length → n + 1 ≤ f → backF t f n = back t n
  | 0, n, _, hf => by
    unfold back
    rw [show backF t 0 n = [] from rfl]
    unfold backF
    rw [if_pos (by omega)]
  | f + 1, n, hn, hf => by
    unfold back
    by_cases h : n < 0
    · unfold backF; rw [if_pos h, if_pos h]
    · unfold backF
      rw [if_neg h, if_neg h]
      obtain ⟨k, rfl⟩ : ∃ k : Nat, n = (k : Int) := ⟨n.toNat, by omega⟩
      rw [Int.toNat_natCast]
      have hb : t.bef k < k := by
        by_cases hk : k = 0
        · subst hk; rw [ht.bef0]; omega
        · exact (ht.link k (by omega) (by omega)).hi
      congr 1
      by_cases h2 : t.bef k < 0
      · have h0 : ∀ g, backF t g (t.bef k) = [] := fun g => by
          cases g with
          | zero => rfl
          | succ g => unfold backF; rw [if_pos h2]
        rw [h0, h0]
      · rw [backF_eq ht f (t.bef k) (by omega) (by omega), backF_eq ht k (t.bef k) (by omega) (by omega)]
termination_by f => f

theorem back_neg (t : Tree) (n : Int) (h : n < 0) : back t n = [] := by unfold back backF; rw [if_pos h]
theorem back_cons {t : Tree} (ht : TreeOk t) (k : Nat) (h : k < t.blocks.length) : back t (k : Int) = (k : Int) :: back t (t.bef k) ∧ t.bef k < k ∧ (t.bef k = -1 ∨ 0 ≤ t.bef k) := by
  have hb : t.bef k < k ∧ (t.bef k = -1 ∨ 0 ≤ t.bef k) := by
    by_cases hk : k = 0
    · subst hk; rw [ht.bef0]; omega
    · have := ht.link k (by omega) h
      exact ⟨this.hi, .inr this.lo⟩
  refine ⟨?_, hb⟩
  conv => lhs; unfold back backF
  rw [if_neg (by omega), Int.toNat_natCast]
  congr 1
  by_cases h2 : t.bef k < 0
  · rw [back_neg _ _ h2]
    cases k with
    | zero => rfl
    | succ k => unfold backF; rw [if_pos h2]
  · exact backF_eq ht k _ (by omega) (by omega)

theorem back_len {t : Tree} (ht : TreeOk t) : ∀ (m : Nat) (n : Int), n < m → n < t.blocks.length → ((back t n).length : Int) ≤ n + 1 ∨ n < 0
  | 0, n, h, _ => .inr (by omega)
  | m + 1, n, h, hn => by
    by_cases h0 : n < 0
    · exact .inr h0
    · obtain ⟨k, rfl⟩ : ∃ k : Nat, n = (k : Int) := ⟨n.toNat, by omega⟩
      obtain ⟨h1, h2, h3⟩ := back_cons ht k (by omega)
      rw [h1, List.length_cons]
      rcases back_len ht m (t.bef k) (by omega) (by omega) with h4 | h4
      · exact .inl (by omega)
      · rw [back_neg _ _ h4]; exact .inl (by simp; omega)

theorem pathL_len {t : Tree} (ht : TreeOk t) {n : Int} (hn : n < t.blocks.length) : (pathL t n).length ≤ 14 := by
  have h1 := back_len ht (n.toNat + 1) n (by omega) hn
  have h2 := ht.len
  unfold pathL
  rw [List.length_reverse]
  rcases h1 with h1 | h1
  · omega
  · rw [back_neg _ _ h1]; simp

theorem back_bd {t : Tree} (ht : TreeOk t) : ∀ (m : Nat) (n : Int), n < m → n < t.blocks.length → ∀ x, x ∈ back t n → 0 ≤ x ∧ x ≤ n
  | 0, n, h, _, x, hx => by rw [back_neg _ _ (by omega)] at hx; cases hx
  | m + 1, n, h, hn, x, hx => by
    by_cases h0 : n < 0
    · rw [back_neg _ _ h0] at hx; cases hx
    · obtain ⟨k, rfl⟩ : ∃ k : Nat, n = (k : Int) := ⟨n.toNat, by omega⟩
      obtain ⟨h1, h2, h3⟩ := back_cons ht k (by omega)
      rw [h1] at hx
      rcases List.mem_cons.1 hx with e | e
      · omega
      · have := back_bd ht m (t.bef k) (by omega) (by omega) x e
        omega
theorem pathL_bd {t : Tree} (ht : TreeOk t) {n : Int} (hn : n < t.blocks.length) : ∀ x, x ∈ pathL t n → 0 ≤ x ∧ x ≤ n := by
  intro x hx
  unfold pathL at hx
  rw [List.mem_reverse] at hx
  exact back_bd ht (n.toNat + 1) n (by omega) hn x hx

theorem c_impl_path (n1 n2 n3 : Option Bool) (t : Tree) (n : Int) (ht : TreeOk t) (hx : TreeSz t) (hn : n < t.blocks.length) :
    Det Tryz.prog 113 [.agg (encT n1 n2 n3 t), .int .i64 n] (.osl false 1 (rows encI (pathL t n))) := by
  refine fspec_det tab_ok Tryz.call113 Tryz.func113 rfl 20 Tryz.ntmps113 (of_decide_eq_true rfl) fun B => codeK_sound tab_ok _ _ _ ?_
  have hlen := ht.len
  simp (config := { maxSteps := 4000000 }) only [go_sem, simprocAttr, ↓dnA, Tryz.f113, encT]
  refine semL_nilA 5 5 1 true (by rfl) (by rfl) (by decide) (by decide) ?_
  refine semL_for tab_ok (fun p : Int × List Int => ⟨20, [(1, .int .i64 p.1), (2, .loc 2 0), (5, .row 5 p.2.length)], [(2, .var (encT n1 n2 n3 t)), (5, .row true false 1 (rows encI p.2))]⟩) (fun p => (p.1 + 1).toNat)
    (fun p => p.1 < t.blocks.length ∧ p.2.length + (p.1 + 1).toNat ≤ 30 ∧ p.2 ++ back t p.1 = back t n) (n, []) [(2, 2), (5, 5)] (Weak.of (by rfl) ?_ ?_ (by rfl)) ⟨hn, by simp; omega, rfl⟩ ?_
  · simp (config := { maxSteps := 4000000 }) only [go_sem, simprocAttr, ↓dnA, Tryz.f113, encT, frW, wk2, wk1, wkL, wkB, hpW, List.mem_cons, Prod.mk.injEq, exists_eq_left, exists_eq_right, exists_eq]
    rfl
  · simp (config := { maxSteps := 4000000 }) only [go_sem, simprocAttr, ↓dnA, Tryz.f113, frW, wk2, wk1, wkL, wkB, hpW, List.mem_cons, Prod.mk.injEq, exists_eq_left, exists_eq_right, exists_eq]
  · rintro ⟨m, acc⟩ ⟨hm, hac, hp⟩
    dsimp only at hm hac hp
    have htk := take_rows encI acc acc.length rfl
    by_cases h : m < 0
    · have hd : decide (m ≥ 0) = false := by simp; omega
      rw [back_neg _ _ h, List.append_nil] at hp
      subst hp
      simp (config := { maxSteps := 4000000 }) only [go_sem, simprocAttr, ↓dnA, Tryz.f113, hd, rows_length, List.nodup_cons]
      refine CallMTo.of (c_slices_Reverse_int false (back t n) (by omega)) ?_
      rintro r ls' ⟨rfl, rfl⟩
      simp (config := { maxSteps := 4000000 }) only [go_sem, simprocAttr, ↓dnA, Tryz.f113, rows_length, List.length_reverse, pathL]
    · have hd : decide (m ≥ 0) = true := by simp; omega
      obtain ⟨k, rfl⟩ : ∃ k : Nat, m = (k : Int) := ⟨m.toNat, by omega⟩
      have hk : k < t.blocks.length := by omega
      have hkb : k < t.before.length := by rw [ht.bef]; exact hk
      obtain ⟨h1, h2, h3⟩ := back_cons ht k hk
      have g1 : (rows encI t.before).getD k [] = encI (t.bef k) := by rw [rows_get _ _ k hkb, t.bef_get k hkb]
      simp (config := { maxSteps := 4000000 }) only [go_sem, simprocAttr, ↓dnA, Tryz.f113, encT, hd, rows_length, htk, nn0, nlt hkb, g1, encI]
      repeat refine And.intro (by first | omega | (simp; done) | (simp; omega) | assumption) ?_
      refine ⟨(t.bef k, acc ++ [(k : Int)]), [(2, 2), (16, 5)], ⟨by dsimp only; omega, by simp; omega, by rw [← hp, h1]; simp⟩, by dsimp only; omega, Weak.of (by rfl) ?_ ?_ (by rfl)⟩
      · simp (config := { maxSteps := 4000000 }) only [go_sem, simprocAttr, ↓dnA, Tryz.f113, encT, frW, wk2, wk1, wkL, wkB, hpW, List.mem_cons, Prod.mk.injEq, exists_eq_left, exists_eq_right, exists_eq]
        exact (rows_snoc encI _ _).symm
      · simp (config := { maxSteps := 4000000 }) only [go_sem, simprocAttr, ↓dnA, Tryz.f113, List.length_append, frW, wk2, wk1, wkL, wkB, hpW, List.mem_cons, Prod.mk.injEq, exists_eq_left, exists_eq_right, exists_eq]

theorem flatI (xs : List Int) : ((rows encI xs).all fun r => r.all AV.flat) = true := by
  simp [rows, encI, AV.flat]
theorem oneI (xs : List Int) : ((rows encI xs).all fun r => r.all AV.one) = true := by
  simp [rows, encI, AV.one]
theorem sz0I (xs : List Int) : xs.length = 0 ∨ ((rows encI xs).getD 0 []).length = 1 := by
  cases xs with
  | nil => exact .inl rfl
  | cons x r => exact .inr rfl

open Classical in
/-- The way to a block of a valid tree. -/
noncomputable def pathTo (t : Tree) (n : Int) : List Int := if treeValid t = true ∧ 0 ≤ n ∧ n < t.blocks.length then pathL t n else []

theorem pathTo_in {t : Tree} (h : treeValid t = true) {n : Int} (h1 : 0 ≤ n) (h2 : n < t.blocks.length) : pathTo t n = pathL t n := by
  unfold pathTo; rw [if_pos ⟨h, h1, h2⟩]

theorem c_spec_PathTo (n1 n2 n3 : Option Bool) (t : Tree) (n : Int) (hx : TreeSz t) :
    Det Tryz.prog 114 [.agg (encT n1 n2 n3 t), .int .i64 n] (.osl true 1 (rows encI (pathTo t n))) := by
  refine fspec_det tab_ok Tryz.call114 Tryz.func114 rfl 27 Tryz.ntmps114 (of_decide_eq_true rfl) fun B => codeK_sound tab_ok _ _ _ ?_
  have hb := hx.blocks
  have hw : IntKind.i64.wrap ((t.blocks.length : Int) - 1) = (t.blocks.length : Int) - 1 := wrap_small _ (by omega) (by omega)
  simp (config := { maxSteps := 4000000 }) only [go_sem, simprocAttr, ↓dnA, Tryz.f114, encT]
  by_cases hok : treeValid t = true ∧ 0 ≤ n ∧ n < t.blocks.length
  · obtain ⟨h0, hn0, hn⟩ := hok
    have ht := treeOk_of h0
    have hlen := ht.len
    have hp0 : pathTo t n = pathL t n := by unfold pathTo; rw [if_pos ⟨h0, hn0, hn⟩]
    rw [hp0]
    refine semL_for tab_ok (fun p : Int × List Int => ⟨27, [(1, .int .i64 p.1), (2, .loc 2 0), (5, .row 6 p.2.length)], [(2, .var (encT n1 n2 n3 t)), (6, .row true true 1 (rows encI p.2))]⟩) (fun p => (p.1 + 1).toNat)
      (fun p => p.1 < t.blocks.length ∧ (p.1 = -1 ∨ 0 ≤ p.1) ∧ p.2.length + (p.1 + 1).toNat ≤ 30 ∧ (back t p.1).reverse ++ p.2 = pathL t n) (n, []) [(2, 2), (6, 6)] (Weak.of (by rfl) ?_ ?_ (by rfl)) ⟨hn, .inr hn0, by simp; omega, by simp [pathL]⟩ ?_
    · simp (config := { maxSteps := 4000000 }) only [go_sem, simprocAttr, ↓dnA, Tryz.f114, encT, frW, wk2, wk1, wkL, wkB, hpW, List.mem_cons, Prod.mk.injEq, exists_eq_left, exists_eq_right, exists_eq]
      rfl
    · simp (config := { maxSteps := 4000000 }) only [go_sem, simprocAttr, ↓dnA, Tryz.f114, frW, wk2, wk1, wkL, wkB, hpW, List.mem_cons, Prod.mk.injEq, exists_eq_left, exists_eq_right, exists_eq]
    · rintro ⟨m, acc⟩ ⟨hm, hm1, hac, hp⟩
      dsimp only at hm hm1 hac hp
      have htk := take_rows encI acc acc.length rfl
      simp (config := { maxSteps := 4000000 }) only [go_sem, simprocAttr, ↓dnA, Tryz.f114, encT]
      refine CallTo.det (c_spec_BlockTreeValid n1 n2 n3 t hx) fun _ => ?_
      simp (config := { maxSteps := 4000000 }) only [go_sem, simprocAttr, ↓dnA, Tryz.f114, encT, h0, rows_length, hw]
      refine CallTo.det (c_l1In _ _ _) fun _ => ?_
      rcases hm1 with rfl | hm1
      · have hd : inB (-1) 0 ((t.blocks.length : Int) - 1) = false := by simp [inB]
        rw [back_neg _ _ (by omega), List.reverse_nil, List.nil_append] at hp
        simp (config := { maxSteps := 4000000 }) only [go_sem, simprocAttr, ↓dnA, Tryz.f114, encT, h0, rows_length, hw, hd, hp]
      · have hd : inB m 0 ((t.blocks.length : Int) - 1) = true := inB_iff.2 (by omega)
        obtain ⟨k, rfl⟩ : ∃ k : Nat, m = (k : Int) := ⟨m.toNat, by omega⟩
        have hk : k < t.blocks.length := by omega
        have hkb : k < t.before.length := by rw [ht.bef]; exact hk
        obtain ⟨h1, h2, h3⟩ := back_cons ht k hk
        have g1 : (rows encI t.before).getD k [] = encI (t.bef k) := by rw [rows_get _ _ k hkb, t.bef_get k hkb]
        have hfl := flatI acc
        have hon := oneI acc
        have hsz := sz0I acc
        simp (config := { maxSteps := 4000000 }) only [go_sem, simprocAttr, ↓dnA, Tryz.f114, encT, h0, rows_length, hw, hd, htk, nn0, nlt hkb, g1, encI]
        repeat refine And.intro (by first | omega | (simp; done) | (simp; omega) | assumption) ?_
        refine ⟨(t.bef k, (k : Int) :: acc), [(2, 2), (20, 6)], ⟨by dsimp only; omega, h3, by simp; omega, by rw [← hp, h1]; simp⟩, by dsimp only; omega, Weak.of (by rfl) ?_ ?_ (by rfl)⟩
        · simp (config := { maxSteps := 4000000 }) only [go_sem, simprocAttr, ↓dnA, Tryz.f114, encT, frW, wk2, wk1, wkL, wkB, hpW, List.mem_cons, Prod.mk.injEq, exists_eq_left, exists_eq_right, exists_eq]
          try rfl
        · simp (config := { maxSteps := 4000000 }) only [go_sem, simprocAttr, ↓dnA, Tryz.f114, List.length_cons, frW, wk2, wk1, wkL, wkB, hpW, List.mem_cons, Prod.mk.injEq, exists_eq_left, exists_eq_right, exists_eq]
          rw [Nat.add_comm]
  · have hp0 : pathTo t n = [] := by unfold pathTo; rw [if_neg hok]
    rw [hp0]
    refine semL_for tab_ok (fun _ : Nat => ⟨27, [(1, .int .i64 n), (2, .loc 2 0), (5, .row 6 0)], [(2, .var (encT n1 n2 n3 t)), (6, .row true true 1 (rows encI []))]⟩) (fun i => i) (fun _ => True) 0 [(2, 2), (6, 6)] (Weak.of (by rfl) ?_ ?_ (by rfl)) trivial ?_
    · simp (config := { maxSteps := 4000000 }) only [go_sem, simprocAttr, ↓dnA, Tryz.f114, encT, frW, wk2, wk1, wkL, wkB, hpW, List.mem_cons, Prod.mk.injEq, exists_eq_left, exists_eq_right, exists_eq]
      rfl
    · simp (config := { maxSteps := 4000000 }) only [go_sem, simprocAttr, ↓dnA, Tryz.f114, frW, wk2, wk1, wkL, wkB, hpW, List.mem_cons, Prod.mk.injEq, exists_eq_left, exists_eq_right, exists_eq]
    · rintro i -
      simp (config := { maxSteps := 4000000 }) only [go_sem, simprocAttr, ↓dnA, Tryz.f114, encT]
      refine CallTo.det (c_spec_BlockTreeValid n1 n2 n3 t hx) fun _ => ?_
      cases h0 : treeValid t with
      | false => simp (config := { maxSteps := 4000000 }) only [go_sem, simprocAttr, ↓dnA, Tryz.f114, encT, h0, rows_length, List.length_nil]
      | true =>
        simp (config := { maxSteps := 4000000 }) only [go_sem, simprocAttr, ↓dnA, Tryz.f114, encT, h0, rows_length, hw]
        refine CallTo.det (c_l1In _ _ _) fun _ => ?_
        have hd : inB n 0 ((t.blocks.length : Int) - 1) = false := by
          cases e : inB n 0 ((t.blocks.length : Int) - 1) with
          | false => rfl
          | true =>
            have := inB_iff.1 e
            exact absurd ⟨h0, by omega, by omega⟩ hok
        simp (config := { maxSteps := 4000000 }) only [go_sem, simprocAttr, ↓dnA, Tryz.f114, encT, h0, rows_length, hw, hd, List.length_nil]

theorem pathTo_len (t : Tree) (n : Int) : (pathTo t n).length ≤ 14 := by
  unfold pathTo
  split
  · rename_i h
    exact pathL_len (treeOk_of h.1) h.2.2
  · simp

end Go.Proofs.YthcfafpjkbbaoaaGreat

/- Contracts: leaves, and the blocks that are kept. -/
set_option linter.unusedSimpArgs false
set_option linter.unusedVariables false
set_option maxRecDepth 20000
set_option maxHeartbeats 4000000
namespace Go.Proofs.YthcfafpjkbbaoaaGreat
open Go Go.RowKit

/-- The numbers from i on, f of them, for which p holds. -/
def fltF (p : Nat → Bool) : Nat → Nat → List Int
  | 0, _ => []
  | f + 1, i => if p i then (i : Int) :: fltF p f (i + 1) else fltF p f (i + 1)

theorem fltF_len (p : Nat → Bool) : ∀ (f i : Nat), (fltF p f i).length ≤ f
  | 0, _ => by simp [fltF]
  | f + 1, i => by
    have := fltF_len p f (i + 1)
    unfold fltF
    split
    · simp; omega
    · omega

theorem fltF_step (p : Nat → Bool) (n i : Nat) (h : i < n) : fltF p (n - i) i = (if p i then [(i : Int)] else []) ++ fltF p (n - (i + 1)) (i + 1) := by
  rw [show n - i = (n - (i + 1)) + 1 by omega]
  conv => lhs; unfold fltF
  split <;> simp

end Go.Proofs.YthcfafpjkbbaoaaGreat

/- Contracts: the laws' marks of blocks and trees. -/
set_option linter.unusedSimpArgs false
set_option linter.unusedVariables false
set_option maxRecDepth 20000
set_option maxHeartbeats 4000000
namespace Go.Proofs.YthcfafpjkbbaoaaGreat
open Go Go.RowKit

end Go.Proofs.YthcfafpjkbbaoaaGreat

/- Contracts: FnExactLeavesOf. -/
set_option linter.unusedSimpArgs false
set_option linter.unusedVariables false
set_option maxRecDepth 20000
set_option maxHeartbeats 4000000
namespace Go.Proofs.YthcfafpjkbbaoaaGreat
open Go Go.RowKit

end Go.Proofs.YthcfafpjkbbaoaaGreat

/- Blocks that are certified, blocks that are committed: plain. -/
set_option linter.unusedSimpArgs false
set_option linter.unusedVariables false
set_option maxRecDepth 20000
set_option maxHeartbeats 4000000
namespace Go.Proofs.YthcfafpjkbbaoaaGreat
open Go Go.RowKit

def certStep (t : Tree) (l : List Bool) (c : Cert) : List Bool := if certBlock t c < 0 then l else l.set (certBlock t c).toNat true
/-- Which blocks certificates count for, besides those of a list. -/
def certF (t : Tree) (cs : List Cert) (l : List Bool) : List Bool := cs.foldl (certStep t) l
def certs0 (n : Nat) : List Bool := (List.replicate n false).set 0 true
def certL (t : Tree) (cs : List Cert) : List Bool := certF t cs (certs0 t.blocks.length)
open Classical in
noncomputable def certified (t : Tree) (cs : List Cert) : List Bool := if treeValid t = true ∧ cs.length ≤ 30 then certL t cs else []

theorem certBlock_cases (t : Tree) (c : Cert) : certBlock t c = -1 ∨ ∃ i : Nat, i < t.blocks.length ∧ certBlock t c = (i : Int) := by
  unfold certBlock
  split
  · rcases findB_cases t c.sum with ⟨hf, _⟩ | ⟨i, hi, hf, _⟩
    · rw [hf]; exact .inl rfl
    · rw [hf, if_neg (by omega)]
      split
      · exact .inr ⟨i, hi, rfl⟩
      · exact .inl rfl
  · exact .inl rfl

theorem certStep_len (t : Tree) (l : List Bool) (c : Cert) : (certStep t l c).length = l.length := by
  unfold certStep; split
  · rfl
  · simp
theorem certF_len (t : Tree) : ∀ (cs : List Cert) (l : List Bool), (certF t cs l).length = l.length
  | [], l => rfl
  | c :: cs, l => by
    show (certF t cs (certStep t l c)).length = _
    rw [certF_len t cs, certStep_len]
theorem certL_len (t : Tree) (cs : List Cert) : (certL t cs).length = t.blocks.length := by
  unfold certL; rw [certF_len]; simp [certs0]
theorem boolRows_rep (n : Nat) (b : Bool) : boolRows (List.replicate n b) = List.replicate n [.bool b] := by
  simp [boolRows]

theorem view_bd {b : Block} (h : blockValid b = true) : 0 ≤ b.view ∧ b.view ≤ 1000 := by
  unfold blockValid at h
  simp only [Bool.and_eq_true] at h
  obtain ⟨⟨⟨⟨⟨_, _⟩, _⟩, _⟩, h5⟩, _⟩ := h
  exact inB_iff.1 h5
/-- The block d, with those before it, commits. -/
def threeB (t : Tree) (ce : List Bool) (b c d : Nat) : Bool :=
  ce.getD b false && (ce.getD c false && (ce.getD d false && (((t.blk b).view + 1 == (t.blk c).view) && ((t.blk c).view + 1 == (t.blk d).view))))
def headStep (t : Tree) (ce : List Bool) (l : List Bool) (d : Nat) : List Bool :=
  if t.bef d < 0 then l else if t.bef (t.bef d).toNat < 0 then l else
  if threeB t ce (t.bef (t.bef d).toNat).toNat (t.bef d).toNat d then l.set (t.bef (t.bef d).toNat).toNat true else l
/-- The blocks that are committed by the first d blocks. -/
def headsTo (t : Tree) (ce : List Bool) : Nat → List Bool
  | 0 => List.replicate t.blocks.length false
  | d + 1 => headStep t ce (headsTo t ce d) d
def headsB (t : Tree) (ce : List Bool) (i : Nat) : Bool := (headsTo t ce t.blocks.length).getD i false
/-- The numbers of the blocks that are committed at once. -/
def headsL (t : Tree) (ce : List Bool) : List Int := fltF (headsB t ce) t.blocks.length 0
noncomputable def commitHeads (t : Tree) (cs : List Cert) : List Int := if certified t cs = [] then [] else headsL t (certified t cs)

theorem headStep_len (t : Tree) (ce l : List Bool) (d : Nat) : (headStep t ce l d).length = l.length := by
  unfold headStep; split
  · rfl
  · split
    · rfl
    · split
      · simp
      · rfl
theorem headsTo_len (t : Tree) (ce : List Bool) : ∀ d, (headsTo t ce d).length = t.blocks.length
  | 0 => by simp [headsTo]
  | d + 1 => by unfold headsTo; rw [headStep_len, headsTo_len t ce d]

theorem fltF_bd (p : Nat → Bool) : ∀ (f i : Nat), ∀ x, x ∈ fltF p f i → (i : Int) ≤ x ∧ x < ((i + f : Nat) : Int)
  | 0, i, x, h => by simp [fltF] at h
  | f + 1, i, x, h => by
    unfold fltF at h
    split at h
    · rcases List.mem_cons.1 h with rfl | h
      · omega
      · have := fltF_bd p f (i + 1) x h; omega
    · have := fltF_bd p f (i + 1) x h; omega

theorem headsL_bd (t : Tree) (ce : List Bool) : ∀ x, x ∈ headsL t ce → 0 ≤ x ∧ x < t.blocks.length := fun x h => by
  have := fltF_bd _ _ _ x h; omega

theorem certified_ne {t : Tree} {cs : List Cert} (ht : treeValid t = true) (h : cs.length ≤ 30) : certified t cs = certL t cs ∧ certified t cs ≠ [] := by
  have e : certified t cs = certL t cs := by unfold certified; rw [if_pos ⟨ht, h⟩]
  refine ⟨e, fun h0 => ?_⟩
  have h1 := certL_len t cs
  rw [← e, h0] at h1
  have := (treeOk_of ht).len
  simp at h1; omega

end Go.Proofs.YthcfafpjkbbaoaaGreat

/- How much a tree is: plain. -/
set_option linter.unusedSimpArgs false
set_option linter.unusedVariables false
set_option maxRecDepth 20000
set_option maxHeartbeats 4000000
namespace Go.Proofs.YthcfafpjkbbaoaaGreat
open Go Go.RowKit

theorem tsz_sz {t : Tree} {m : Nat} (h : tsz t ≤ m) (hm : m < 2 ^ 62) : TreeSz t :=
  ⟨by unfold tsz at h; omega, by unfold tsz at h; omega, by unfold tsz at h; omega, fun b hb => by have := lsum_mem t.blocks b hb; unfold tsz at h; omega⟩
theorem lsum_snoc : ∀ (bs : List Block) (b : Block), lsum (bs ++ [b]) = lsum bs + b.list.length
  | [], b => by simp [lsum]
  | c :: r, b => by
    simp only [List.cons_append, lsum, lsum_snoc r b]
    omega

end Go.Proofs.YthcfafpjkbbaoaaGreat

/- Contracts: FnExactCertBlock. -/
set_option linter.unusedSimpArgs false
set_option linter.unusedVariables false
set_option maxRecDepth 20000
set_option maxHeartbeats 4000000
namespace Go.Proofs.YthcfafpjkbbaoaaGreat
open Go Go.RowKit

theorem c_spec_CertBlock (n1 n2 n3 : Option Bool) (t : Tree) (c : Cert) (hx : TreeSz t) : Det Tryz.prog 125 [.agg (encT n1 n2 n3 t), .agg (encC c)] (.int .i64 (if treeValid t then certBlock t c else -1)) := by
  refine fspec_det tab_ok Tryz.call125 Tryz.func125 rfl 32 Tryz.ntmps125 (of_decide_eq_true rfl) fun B => codeK_sound tab_ok _ _ _ ?_
  unfold certBlock encT
  simp (config := { maxSteps := 4000000 }) only [go_sem, simprocAttr, ↓dnA, Tryz.f125, encC]
  refine CallTo.det (c_spec_BlockTreeValid n1 n2 n3 t hx) fun _ => ?_
  cases h0 : treeValid t with
  | false => simp (config := { maxSteps := 4000000 }) only [go_sem, simprocAttr, ↓dnA, Tryz.f125, h0]
  | true =>
  simp (config := { maxSteps := 4000000 }) only [go_sem, simprocAttr, ↓dnA, Tryz.f125, h0]
  refine CallTo.det (c_spec_CertCounts c) fun _ => ?_
  cases h1 : certCounts c with
  | false => simp (config := { maxSteps := 4000000 }) only [go_sem, simprocAttr, ↓dnA, Tryz.f125, h0, h1]
  | true =>
    simp (config := { maxSteps := 4000000 }) only [go_sem, simprocAttr, ↓dnA, Tryz.f125, h0, h1]
    refine CallTo.det (c_spec_find n1 n2 n3 t c.sum hx) fun _ => ?_
    simp (config := { maxSteps := 4000000 }) only [go_sem, simprocAttr, ↓dnA, Tryz.f125, h0, h1]
    refine semL_draw tab_ok mixed_ rfl (ord := [(0, []), (1, []), (2, []), (3, []), (4, []), (5, []), (6, []), (7, []), (8, []), (9, []), (10, []), (11, []), (12, [])]) (by dsimp only; decide +kernel) ?_
    rcases findB_cases t c.sum with ⟨hf, _⟩ | ⟨i, hi, hf, _⟩
    · simp (config := { maxSteps := 4000000 }) only [go_sem, simprocAttr, ↓dnA, Tryz.f125, h0, h1, hf]
    · have hd : decide ((i : Int) < 0) = false := by simp
      have hn : ((i : Int) < 0) = False := by simp
      by_cases h2 : (t.blk i).view = c.view
      · have h2' : ((t.blk i).view != c.view) = false := by simp [h2]
        unfold Tree.blk at h2 h2'
        simp (config := { maxSteps := 4000000 }) only [go_sem, simprocAttr, ↓dnA, Tryz.f125, h0, h1, hf, hd, nn0, nlt hi, rows_length, rows_gd _ _ i hi, Tree.blk, encB1, encBk, hn, h2, h2']
      · have h2' : ((t.blk i).view != c.view) = true := by simp [h2]
        unfold Tree.blk at h2 h2'
        simp (config := { maxSteps := 4000000 }) only [go_sem, simprocAttr, ↓dnA, Tryz.f125, h0, h1, hf, hd, nn0, nlt hi, rows_length, rows_gd _ _ i hi, Tree.blk, encB1, encBk, hn, h2, h2']

end Go.Proofs.YthcfafpjkbbaoaaGreat

/- Contracts: engines, and their copies. -/
set_option linter.unusedSimpArgs false
set_option linter.unusedVariables false
set_option maxRecDepth 20000
set_option maxHeartbeats 4000000
namespace Go.Proofs.YthcfafpjkbbaoaaGreat
open Go Go.RowKit

theorem semL_nilVA {P : Program} {B : Base} {c : Code} {s : AState} {Kx : Exit → AState → Prop} (vid j id sz : Nat) (own : Bool) {cs : List AV} (h0 : s.blk vid = .var cs) (hj : j < cs.length) (h1 : cs.getD j .top = .sl (some false) []) (h2 : s.blk id = .none) (h3 : nF id) (h4 : 0 < sz)
    (h : @SemL P B c { s with hp := (vid, .var (cs.set j (.row id 0))) :: (id, .row own false sz []) :: s.hp } ⟨Kx⟩) : @SemL P B c s ⟨Kx⟩ := @semL_nilV _ _ _ _ ⟨Kx⟩ vid j id sz own _ h0 hj h1 h2 h3 h4 h

structure Effect where
  done : Bool
  reads : List Entry
  writes : List Entry
deriving DecidableEq, Inhabited
def encF (n1 n2 : Option Bool) (e : Effect) : List AV := [.bool e.done, .sl n1 (rows encE e.reads), .sl n2 (rows encE e.writes)]

section
variable {α : Type} (e : α → List AV)
theorem all_rows (p : AV → Bool) (h : ∀ x, (e x).all p = true) (xs : List α) : ((rows e xs).all fun r => r.all p) = true := by
  rw [List.all_eq_true]
  intro r hr
  obtain ⟨x, _, rfl⟩ := List.mem_map.1 hr
  exact h x
theorem sz0_rows (n : Nat) (h : ∀ x, (e x).length = n) (xs : List α) : xs.length = 0 ∨ ((rows e xs).getD 0 []).length = n := by
  cases xs with
  | nil => exact .inl rfl
  | cons x r => exact .inr (h x)
end

theorem c_impl_cloneEntries (n1 : Option Bool) (xs : List Entry) (hx : xs.length < 2 ^ 32) : Det Tryz.prog 133 [.sl n1 (rows encE xs)] (.osl false 2 (rows encE xs)) := by
  refine fspec_det tab_ok Tryz.call133 Tryz.func133 rfl 5 Tryz.ntmps133 (of_decide_eq_true rfl) fun B => codeK_sound tab_ok _ _ _ ?_
  have h1 := all_rows encE AV.flat (fun _ => rfl) xs
  have h2 := all_rows encE AV.one (fun _ => rfl) xs
  have h3 := sz0_rows encE 2 (fun _ => rfl) xs
  simp (config := { maxSteps := 4000000 }) only [go_sem, simprocAttr, ↓dnA, Tryz.f133, rows_length]
  repeat refine And.intro (by first | omega | (simp; done) | (simp; omega) | assumption) ?_
  omega

end Go.Proofs.YthcfafpjkbbaoaaGreat

/- Contracts: copies of blocks and trees. -/
set_option linter.unusedSimpArgs false
set_option linter.unusedVariables false
set_option maxRecDepth 20000
set_option maxHeartbeats 4000000
namespace Go.Proofs.YthcfafpjkbbaoaaGreat
open Go Go.RowKit

def encBkF (b : Block) : List AV := [.int .i64 b.before, .int .i64 b.height, .int .i64 b.view, .osl false 4 (rows encA b.list), .int .i64 b.root, .int .i64 b.effects]

def encTF (t : Tree) : List AV := [.osl false 2 (rows encE t.base), .osl false 6 (rows encB1 t.blocks), .osl false 1 (rows encI t.before)]

theorem c_impl_Block_clone (n : Option Bool) (b : Block) (hl : b.list.length < 2 ^ 32) : Det Tryz.prog 134 [.agg (encBk n b)] (.agg (encBkF b)) := by
  refine fspec_det tab_ok Tryz.call134 Tryz.func134 rfl 8 Tryz.ntmps134 (of_decide_eq_true rfl) fun B => codeK_sound tab_ok _ _ _ ?_
  have a1 := all_rows encA AV.flat (fun _ => rfl) b.list
  have a2 := all_rows encA AV.one (fun _ => rfl) b.list
  have a3 := sz0_rows encA 4 (fun _ => rfl) b.list
  simp (config := { maxSteps := 4000000 }) only [go_sem, simprocAttr, ↓dnA, Tryz.f134, rows_length, encBk, encBkF]
  repeat refine And.intro (by first | omega | (simp; done) | (simp; omega) | assumption) ?_
  omega

theorem c_impl_Tree_clone (n1 n2 n3 : Option Bool) (t : Tree) (hx : TreeS32 t) : Det Tryz.prog 67 [.agg (encT n1 n2 n3 t)] (.agg (encTF t)) := by
  refine fspec_det tab_ok Tryz.call67 Tryz.func67 rfl 29 Tryz.ntmps67 (of_decide_eq_true rfl) fun B => codeK_sound tab_ok _ _ _ ?_
  have q1 := hx.base
  have q2 := hx.blocks
  have q3 := hx.before
  have a1 := all_rows encI AV.flat (fun _ => rfl) t.before
  have a2 := all_rows encI AV.one (fun _ => rfl) t.before
  have a3 := sz0_rows encI 1 (fun _ => rfl) t.before
  simp (config := { maxSteps := 4000000 }) only [go_sem, simprocAttr, ↓dnA, Tryz.f67, rows_length, encT]
  refine semL_draw tab_ok mixed_ rfl (ord := [(0, []), (1, []), (3, []), (4, []), (2, [3, 4]), (5, []), (6, []), (7, [0, 1, 3, 4, 6]), (8, [])]) (by dsimp only; decide +kernel) ?_
  simp (config := { maxSteps := 4000000 }) only [go_sem, simprocAttr, ↓dnA, Tryz.f67, rows_length, encT]
  refine CallTo.det (c_impl_cloneEntries n1 t.base q1) fun _ => ?_
  simp (config := { maxSteps := 4000000 }) only [go_sem, simprocAttr, ↓dnA, Tryz.f67, rows_length, encT]
  repeat refine And.intro (by first | omega | (simp; done) | (simp; omega) | assumption) ?_
  refine semL_nilVA 3 1 600 6 true (by rfl) (by simp) (by rfl) (by rfl) (by decide) (by decide) ?_
  refine semL_for tab_ok (fun i : Nat => ⟨29, [(2, .loc 2 0), (3, .loc 3 0), (14, .sl n2 (rows encB1 t.blocks)), (15, .int .i64 t.blocks.length), (16, .int .i64 i)],
      [(2, .var [.sl (some false) [], .sl (some false) [], .sl (some false) []]), (3, .var [.row 9000 t.base.length, .row 600 i, .row 11 t.before.length]),
        (11, .row true false 1 (rows encI t.before)), (9000, .row true false 2 (rows encE t.base)), (600, .row true false 6 (rows encB1 (t.blocks.take i)))]⟩) (fun i => t.blocks.length - i)
    (fun i => i ≤ t.blocks.length) 0 [(2, 2), (3, 3), (11, 11), (9000, 9000), (600, 600)] (Weak.of (by rfl) ?_ ?_ (by rfl)) (by omega) ?_
  · simp (config := { maxSteps := 4000000 }) only [go_sem, simprocAttr, ↓dnA, Tryz.f67, rows_length, frW, wk2, wk1, wkL, wkB, hpW, List.mem_cons, Prod.mk.injEq, exists_eq_left, exists_eq_right, exists_eq]
    try rfl
  · simp (config := { maxSteps := 4000000 }) only [go_sem, simprocAttr, ↓dnA, Tryz.f67, rows_length, frW, wk2, wk1, wkL, wkB, hpW, List.mem_cons, Prod.mk.injEq, exists_eq_left, exists_eq_right, exists_eq]
  · rintro i hi
    by_cases h : i < t.blocks.length
    · have hb := hx.list _ (List.getElem_mem h)
      have htk : (rows encB1 (t.blocks.take i)).take i = rows encB1 (t.blocks.take i) := by
        rw [List.take_of_length_le]; rw [rows_length, List.length_take]; omega
      have hl : min i t.blocks.length = i := by omega
      have hw : IntKind.i64.wrap ((i : Int) + 1) = ((i + 1 : Nat) : Int) := wsucc h (by omega)
      simp (config := { maxSteps := 4000000 }) only [go_sem, simprocAttr, ↓dnA, Tryz.f67, rows_length, nlt h, h, rows_get _ _ _ h, encB1, encBk, nn0]
      refine semL_draw tab_ok mixed_ rfl (ord := [(0, []), (1, []), (2, []), (3, [0, 1]), (4, [0, 1]), (5, []), (6, []), (7, [])]) (by dsimp only; decide +kernel) ?_
      simp (config := { maxSteps := 4000000 }) only [go_sem, simprocAttr, ↓dnA, Tryz.f67, rows_length, encBk]
      refine CallTo.det (c_impl_Block_clone none t.blocks[i] hb) fun _ => ?_
      simp (config := { maxSteps := 4000000 }) only [go_sem, simprocAttr, ↓dnA, Tryz.f67, rows_length, List.length_take, hl, htk, hw, encBkF]
      repeat refine And.intro (by first | omega | (simp; done) | (simp; omega) | assumption) ?_
      refine ⟨i + 1, [(2, 2), (3, 3), (11, 11), (9000, 9000), (25, 600)], by omega, by dsimp only; omega, Weak.of (by rfl) ?_ ?_ (by rfl)⟩
      · simp (config := { maxSteps := 4000000 }) only [go_sem, simprocAttr, ↓dnA, Tryz.f67, rows_length, frW, wk2, wk1, wkL, wkB, hpW, List.mem_cons, Prod.mk.injEq, exists_eq_left, exists_eq_right, exists_eq]
        rw [take_snoc _ _ h, ← rows_snoc]
        rfl
      · simp (config := { maxSteps := 4000000 }) only [go_sem, simprocAttr, ↓dnA, Tryz.f67, rows_length, frW, wk2, wk1, wkL, wkB, hpW, List.mem_cons, Prod.mk.injEq, exists_eq_left, exists_eq_right, exists_eq]
    · have hi' : i = t.blocks.length := by omega
      subst hi'
      simp (config := { maxSteps := 4000000 }) only [go_sem, simprocAttr, ↓dnA, Tryz.f67, rows_length, nlf h, encTF, List.take_length]

theorem c_spec_l13Copy (n1 n2 n3 : Option Bool) (t : Tree) (hx : TreeS32 t) : Det Tryz.prog 68 [.agg (encT n1 n2 n3 t)] (.agg (encTF t)) := by
  refine fspec_det tab_ok Tryz.call68 Tryz.func68 rfl 39 Tryz.ntmps68 (of_decide_eq_true rfl) fun B => codeK_sound tab_ok _ _ _ ?_
  have q1 := hx.base
  have q2 := hx.blocks
  have q3 := hx.before
  have a1 := all_rows encI AV.flat (fun _ => rfl) t.before
  have a2 := all_rows encI AV.one (fun _ => rfl) t.before
  have a3 := sz0_rows encI 1 (fun _ => rfl) t.before
  have b1 := all_rows encE AV.flat (fun _ => rfl) t.base
  have b2 := all_rows encE AV.one (fun _ => rfl) t.base
  have b3 := sz0_rows encE 2 (fun _ => rfl) t.base
  simp (config := { maxSteps := 4000000 }) only [go_sem, simprocAttr, ↓dnA, Tryz.f68, rows_length, encT]
  refine semL_draw tab_ok mixed_ rfl (ord := [(1, []), (2, []), (5, []), (6, []), (0, [1, 2, 5, 6]), (3, [5, 6]), (4, [1, 2, 5, 6]), (7, []), (8, []), (9, [1, 2, 5, 6, 8]), (10, [])]) (by dsimp only; decide +kernel) ?_
  simp (config := { maxSteps := 4000000 }) only [go_sem, simprocAttr, ↓dnA, Tryz.f68, rows_length, encT]
  repeat refine And.intro (by first | omega | (simp; done) | (simp; omega) | assumption) ?_
  refine semL_nilVA 3 1 600 6 true (by rfl) (by simp) (by rfl) (by rfl) (by decide) (by decide) ?_
  refine semL_for tab_ok (fun i : Nat => ⟨39, [(1, .loc 1 0), (2, .loc 2 0), (3, .loc 3 0), (4, .int .i64 i)],
      [(1, .var (encT n1 n2 n3 t)), (2, .var [.sl (some false) [], .sl (some false) [], .sl (some false) []]), (3, .var [.row 9 t.base.length, .row 600 i, .row 13 t.before.length]),
        (13, .row true true 1 (rows encI t.before)), (9, .row true true 2 (rows encE t.base)), (600, .row true false 6 (rows encB1 (t.blocks.take i)))]⟩) (fun i => t.blocks.length - i)
    (fun i => i ≤ t.blocks.length) 0 [(1, 1), (2, 2), (3, 3), (9, 9), (13, 13), (600, 600)] (Weak.of (by rfl) ?_ ?_ (by rfl)) (by omega) ?_
  · simp (config := { maxSteps := 4000000 }) only [go_sem, simprocAttr, ↓dnA, Tryz.f68, rows_length, encT, frW, wk2, wk1, wkL, wkB, hpW, List.mem_cons, Prod.mk.injEq, exists_eq_left, exists_eq_right, exists_eq]
    try rfl
  · simp (config := { maxSteps := 4000000 }) only [go_sem, simprocAttr, ↓dnA, Tryz.f68, rows_length, frW, wk2, wk1, wkL, wkB, hpW, List.mem_cons, Prod.mk.injEq, exists_eq_left, exists_eq_right, exists_eq]
  · rintro i hi
    by_cases h : i < t.blocks.length
    · have hb := hx.list _ (List.getElem_mem h)
      have htk : (rows encB1 (t.blocks.take i)).take i = rows encB1 (t.blocks.take i) := by
        rw [List.take_of_length_le]; rw [rows_length, List.length_take]; omega
      have hl : min i t.blocks.length = i := by omega
      have hw : IntKind.i64.wrap ((i : Int) + 1) = ((i + 1 : Nat) : Int) := wsucc h (by omega)
      have c1 := all_rows encA AV.flat (fun _ => rfl) t.blocks[i].list
      have c2 := all_rows encA AV.one (fun _ => rfl) t.blocks[i].list
      have c3 := sz0_rows encA 4 (fun _ => rfl) t.blocks[i].list
      simp (config := { maxSteps := 4000000 }) only [go_sem, simprocAttr, ↓dnA, Tryz.f68, rows_length, encT, nlt h, h, rows_get _ _ _ h, encB1, encBk, nn0, List.length_take, hl, htk, hw]
      repeat refine And.intro (by first | omega | (simp; done) | (simp; omega) | assumption) ?_
      refine ⟨i + 1, [(1, 1), (2, 2), (3, 3), (13, 13), (9, 9), (36, 600)], by omega, by dsimp only; omega, Weak.of (by rfl) ?_ ?_ (by rfl)⟩
      · simp (config := { maxSteps := 4000000 }) only [go_sem, simprocAttr, ↓dnA, Tryz.f68, rows_length, encT, frW, wk2, wk1, wkL, wkB, hpW, List.mem_cons, Prod.mk.injEq, exists_eq_left, exists_eq_right, exists_eq]
        rw [take_snoc _ _ h, ← rows_snoc]
        rfl
      · simp (config := { maxSteps := 4000000 }) only [go_sem, simprocAttr, ↓dnA, Tryz.f68, rows_length, frW, wk2, wk1, wkL, wkB, hpW, List.mem_cons, Prod.mk.injEq, exists_eq_left, exists_eq_right, exists_eq]
    · have hi' : i = t.blocks.length := by omega
      subst hi'
      simp (config := { maxSteps := 4000000 }) only [go_sem, simprocAttr, ↓dnA, Tryz.f68, rows_length, encT, nlf h, encTF, List.take_length]

end Go.Proofs.YthcfafpjkbbaoaaGreat

/- Contracts: what actions read, write and do. -/
set_option linter.unusedSimpArgs false
set_option linter.unusedVariables false
set_option maxRecDepth 20000
set_option maxHeartbeats 4000000
namespace Go.Proofs.YthcfafpjkbbaoaaGreat
open Go Go.RowKit

section
variable {P : Program} {T : Tab} {B : Base} {ops : Array Oper}

theorem guardAt_addDep (b a j : Nat) : guardAt (addDep ops b a).toList j = guardAt ops.toList j := by
  unfold guardAt
  rw [Array.getElem?_toList, Array.getElem?_toList, addDep_get]
  by_cases h : j = b
  · rw [if_pos h]; cases ops[j]? <;> rfl
  · rw [if_neg h]

theorem stillStep_addDep (b a : Nat) (o : Oper) (s : AState) (Φ : AState → Prop) : stillStep T (addDep ops b a).toList o s Φ = stillStep T ops.toList o s Φ := by
  unfold stillStep
  simp only [guardAt_addDep]
theorem stepK_addDep (b a : Nat) (o : Oper) (s : AState) (Φ : AState → Prop) : stepK P T (addDep ops b a).toList o s Φ = stepK P T ops.toList o s Φ := by
  unfold stepK
  simp only [guardAt_addDep]

theorem recheck_addDep (b a : Nat) (s : AState) : ∀ re : List Nat, recheck T (addDep ops b a).toList s re = recheck T ops.toList s re
  | [] => rfl
  | x :: r => by
    unfold recheck
    rw [recheck_addDep b a s r, Array.getElem?_toList, Array.getElem?_toList, addDep_get]
    simp only [stillStep_addDep]
    by_cases h : x = b
    · rw [if_pos h]; cases ops[x]? <;> rfl
    · rw [if_neg h]

theorem drawK_addDep (b a : Nat) (Φ : AState → Prop) : ∀ (ord : List (Nat × List Nat)) (s : AState), drawK P T (addDep ops b a).toList Φ ord s = drawK P T ops.toList Φ ord s
  | [], s => rfl
  | (i, re) :: rest, s => by
    unfold drawK
    simp only [recheck_addDep, drawK_addDep b a Φ rest, Array.getElem?_toList, addDep_get, stillStep_addDep, stepK_addDep]
    by_cases h : i = b
    · rw [if_pos h]; cases ops[i]? <;> rfl
    · rw [if_neg h]

/-- As 'semL_two', the region's own operations in sight. -/
theorem semL_two' (hT : TabOk P T) {Kx : Exit → AState → Prop} {s : AState} {id n : Nat} (a b : Nat) {ord1 ord2 : List (Nat × List Nat)} (hm : P.follows .mixedOrders = true) (hn : s.nt = n) (hab : a ≠ b)
    (hk1 : drawOkS (rkS (0, 0)) T (addDep ops b a) n ord1 = true) (hk2 : drawOkS (rkS (a, b)) T (addDep ops a b) n ord2 = true)
    (h : drawK P T ops.toList (Kx .normal) ord1 s ∧ drawK P T ops.toList (Kx .normal) ord2 s) : @SemL P B (.region id ops true) s ⟨Kx⟩ :=
  semL_two hT a b hm hn hab hk1 hk2 (by rw [drawK_addDep]; exact h.1) (by rw [drawK_addDep]; exact h.2)
end

/-- The value of a key. -/
def valK (v : List Int) (k : Int) : Int := v.getD k.toNat 0

theorem cellsI_at (v : List Int) (k : Int) (h0 : 0 ≤ k) (h : k.toNat < v.length) (o n : Nat) (ho : o = k.toNat) (hn : n = 1) : (((cellsI v).drop o).take n).getD 0 .top = .int .i64 (valK v k) := by
  subst ho; subst hn
  have : ((cellsI v).drop k.toNat).take 1 = [(cellsI v).getD k.toNat .top] := by
    rw [List.getD_eq_getElem?_getD, List.getElem?_eq_getElem (by rw [cellsI_length]; exact h), List.drop_eq_getElem_cons (by rw [cellsI_length]; exact h)]
    rfl
  rw [this, cellsI_get _ _ _ h]
  rfl

def readsA (a : Action) : List Int := if a.kind = 1 then [] else if a.kind = 3 ∨ a.kind = 6 ∨ a.fr = a.to then [a.fr] else [a.fr, a.to]
def writesA (a : Action) : List Int := if a.kind = 1 ∨ a.kind = 6 then [a.fr] else if a.kind = 3 ∨ a.kind = 5 ∨ a.fr = a.to then [a.to] else [min a.fr a.to, max a.fr a.to]

theorem c_impl_reads (a : Action) : Det Tryz.prog 160 [.agg (encA a)] (.osl false 1 (rows encI (readsA a))) := by
  refine fspec_det tab_ok Tryz.call160 Tryz.func160 rfl 31 Tryz.ntmps160 (of_decide_eq_true rfl) fun B => codeK_sound tab_ok _ _ _ ?_
  unfold encA readsA
  by_cases h1 : a.kind = 1
  · have e1 : (a.kind == 1) = true := by simp [h1]
    simp (config := { maxSteps := 4000000 }) only [go_sem, simprocAttr, ↓dnA, Tryz.f160, e1, h1, rows_nil]
  · have e1 : (a.kind == 1) = false := by simp [h1]
    by_cases h3 : a.kind = 3
    · have e3 : (a.kind == 3) = true := by simp [h3]
      simp (config := { maxSteps := 4000000 }) only [go_sem, simprocAttr, ↓dnA, Tryz.f160, e1, h1, e3, h3, rows, encI]
    · have e3 : (a.kind == 3) = false := by simp [h3]
      by_cases h6 : a.kind = 6
      · have e6 : (a.kind == 6) = true := by simp [h6]
        simp (config := { maxSteps := 4000000 }) only [go_sem, simprocAttr, ↓dnA, Tryz.f160, e1, h1, e3, h3, e6, h6, rows, encI]
      · have e6 : (a.kind == 6) = false := by simp [h6]
        by_cases hf : a.fr = a.to
        · have ef : (a.fr == a.to) = true := by simp [hf]
          simp (config := { maxSteps := 4000000 }) only [go_sem, simprocAttr, ↓dnA, Tryz.f160, e1, h1, e3, h3, e6, h6, ef, hf, rows, encI]
        · have ef : (a.fr == a.to) = false := by simp [hf]
          simp (config := { maxSteps := 4000000 }) only [go_sem, simprocAttr, ↓dnA, Tryz.f160, e1, h1, e3, h3, e6, h6, ef, hf, rows, encI]

theorem min_if (a b : Int) : (if b < a then b else a) = min a b := by
  rw [Int.min_def]; split <;> split <;> omega
theorem max_if2 (a b : Int) : (if b > a then b else a) = max a b := by
  rw [Int.max_def]; split <;> split <;> omega

theorem c_impl_writes (a : Action) : Det Tryz.prog 162 [.agg (encA a)] (.osl false 1 (rows encI (writesA a))) := by
  refine fspec_det tab_ok Tryz.call162 Tryz.func162 rfl 45 Tryz.ntmps162 (of_decide_eq_true rfl) fun B => codeK_sound tab_ok _ _ _ ?_
  unfold encA writesA
  by_cases h1 : a.kind = 1
  · have e1 : (a.kind == 1) = true := by simp [h1]
    simp (config := { maxSteps := 4000000 }) only [go_sem, simprocAttr, ↓dnA, Tryz.f162, e1, h1, rows, encI]
  · have e1 : (a.kind == 1) = false := by simp [h1]
    by_cases h6 : a.kind = 6
    · have e6 : (a.kind == 6) = true := by simp [h6]
      simp (config := { maxSteps := 4000000 }) only [go_sem, simprocAttr, ↓dnA, Tryz.f162, e1, h1, e6, h6, rows, encI]
    · have e6 : (a.kind == 6) = false := by simp [h6]
      by_cases h3 : a.kind = 3
      · have e3 : (a.kind == 3) = true := by simp [h3]
        simp (config := { maxSteps := 4000000 }) only [go_sem, simprocAttr, ↓dnA, Tryz.f162, e1, h1, e3, h3, e6, h6, rows, encI]
      · have e3 : (a.kind == 3) = false := by simp [h3]
        by_cases h5 : a.kind = 5
        · have e5 : (a.kind == 5) = true := by simp [h5]
          simp (config := { maxSteps := 4000000 }) only [go_sem, simprocAttr, ↓dnA, Tryz.f162, e1, h1, e3, h3, e5, h5, e6, h6, rows, encI]
        · have e5 : (a.kind == 5) = false := by simp [h5]
          by_cases hf : a.fr = a.to
          · have ef : (a.fr == a.to) = true := by simp [hf]
            simp (config := { maxSteps := 4000000 }) only [go_sem, simprocAttr, ↓dnA, Tryz.f162, e1, h1, e3, h3, e5, h5, e6, h6, ef, hf, rows, encI]
          · have ef : (a.fr == a.to) = false := by simp [hf]
            simp (config := { maxSteps := 4000000 }) only [go_sem, simprocAttr, ↓dnA, Tryz.f162, e1, h1, e3, h3, e5, h5, e6, h6, ef, hf, rows, encI, min_if, max_if2]

/-- Is an action done, with these values of From and To. -/
def doneA (a : Action) (f t : Int) : Bool :=
  if a.kind = 5 then decide (f + t ≤ 1000000) else if a.kind = 2 then (if a.fr = a.to then decide (f ≥ a.amount) else decide (f ≥ a.amount) && decide (t + a.amount ≤ 1000000)) else true
/-- The new value of a key that an action writes. -/
def newV (a : Action) (f t k : Int) : Int :=
  if a.kind = 1 then a.amount else if a.kind = 6 then max 0 (f - a.amount) else if a.kind = 3 then f else if a.kind = 5 then f + t else
    if a.kind = 4 then (if k = a.to then f else t) else if a.fr = a.to then f else if k = a.to then t + a.amount else f - a.amount

def ResQ (a : Action) (f t : Int) (r : AV) (b : List AV) : Prop := ∃ n D, r = .tup [.mp Tryz.prog 3 3 n D, .bool (doneA a f t)] ∧ b = [] ∧
  ∀ k, k ∈ writesA a → DataW.atKey D (.int .i64 k) (.lit (.int .i64 0)) = .lit (.int .i64 (newV a f t k))

structure ActOk (a : Action) : Prop where
  fr : 0 ≤ a.fr ∧ a.fr ≤ 31
  to : 0 ≤ a.to ∧ a.to ≤ 31
  amount : 0 ≤ a.amount ∧ a.amount ≤ 1000000
  kind : a.kind = 1 ∨ a.kind = 2 ∨ a.kind = 3 ∨ a.kind = 4 ∨ a.kind = 5 ∨ a.kind = 6
  z : a.kind = 1 ∨ a.kind = 6 → a.to = 0

theorem actOk_of {a : Action} (h : actionValid a = true) : ActOk a := by
  unfold actionValid at h
  simp only [Bool.and_eq_true] at h
  obtain ⟨⟨⟨h1, h2⟩, h3⟩, h4⟩ := h
  refine ⟨inB_iff.1 h1, inB_iff.1 h2, inB_iff.1 h3, ?_, ?_⟩
  · have := kindOk_bd h4; omega
  · intro hk
    unfold kindOk at h4
    rw [if_pos (by rcases hk with h | h <;> simp [h])] at h4
    simpa using h4

def ValsOk (v : List Int) : Prop := v.length = 32 ∧ ∀ k : Nat, 0 ≤ v.getD k 0 ∧ v.getD k 0 ≤ 1000000

theorem ValsOk.at {v : List Int} (h : ValsOk v) (k : Int) : 0 ≤ valK v k ∧ valK v k ≤ 1000000 := h.2 _

open Go.Maps in
theorem put_same (D : DataW Unit) (hD : IsMap D) (k x : Int) : DataW.atKey (D.put (.int .i64 k) (.lit (.int .i64 x))) (.int .i64 k) (.lit (.int .i64 0)) = .lit (.int .i64 x) := atKey_put_same hD (by trivial) _ _
open Go.Maps in
theorem put_other (D : DataW Unit) (k j : Int) (x : DataW Unit) (h : j ≠ k) : DataW.atKey (D.put (.int .i64 k) x) (.int .i64 j) (.lit (.int .i64 0)) = DataW.atKey D (.int .i64 j) (.lit (.int .i64 0)) := atKey_put_other (by intro e; cases e; exact h rfl) _ _

open Go.Maps in
theorem put1 (k x : Int) : DataW.atKey ((DataW.map [] : DataW Unit).put (.int .i64 k) (.lit (.int .i64 x))) (.int .i64 k) (.lit (.int .i64 0)) = .lit (.int .i64 x) := put_same _ isMap_empty _ _
open Go.Maps in
theorem put2 (a b x y k : Int) (hk : k = a ∨ k = b) : DataW.atKey (((DataW.map [] : DataW Unit).put (.int .i64 a) (.lit (.int .i64 x))).put (.int .i64 b) (.lit (.int .i64 y))) (.int .i64 k) (.lit (.int .i64 0)) = .lit (.int .i64 (if k = b then y else x)) := by
  by_cases h : k = b
  · subst h; rw [if_pos rfl]; exact put_same _ (isMap_empty.put _ _) _ _
  · rw [if_neg h, put_other _ _ _ _ h]
    rcases hk with rfl | rfl
    · exact put1 _ _
    · exact absurd rfl h

theorem mem_writes {a : Action} {k : Int} (h : k ∈ writesA a) : k = a.fr ∨ k = a.to := by
  unfold writesA at h
  split at h
  · simp at h; exact .inl h
  · split at h
    · simp at h; exact .inr h
    · simp at h
      rcases h with h | h
      · rw [Int.min_def] at h; split at h <;> simp [h]
      · rw [Int.max_def] at h; split at h <;> simp [h]

theorem c_impl_result (a : Action) (v : List Int) (ha : ActOk a) (hv : ValsOk v) : FSpec Tryz.prog 161 [.agg (encA a), .agg (cellsI v)] false [] (ResQ a (valK v a.fr) (valK v a.to)) := by
  refine fspec_rel tab_ok Tryz.call161 Tryz.func161 rfl 106 Tryz.ntmps161 (of_decide_eq_true rfl) fun B => codeK_sound tab_ok _ _ _ ?_
  have cl : (cellsI v).length = 32 := by rw [cellsI_length, hv.1]
  have hfr := ha.fr
  have hto := ha.to
  have ham := ha.amount
  have hf := hv.at a.fr
  have ht := hv.at a.to
  have g1 := cellsI_at v a.fr hfr.1 (by rw [hv.1]; omega) a.fr.toNat 1 rfl rfl
  have g2 := cellsI_at v a.to hto.1 (by rw [hv.1]; omega) a.to.toNat 1 rfl rfl
  simp (config := { maxSteps := 4000000 }) only [go_sem, simprocAttr, ↓dnA, Tryz.f161, encA]
  refine semL_draw tab_ok mixed_ rfl (ord := [(0, []), (1, []), (2, []), (3, []), (4, []), (5, []), (6, []), (7, []), (8, []), (9, [])]) (by dsimp only; decide +kernel) ?_
  obtain ⟨kd, fr, to, am⟩ := a
  dsimp only at hfr hto ham hf ht g1 g2 ⊢
  have hkd := ha.kind
  have hz := ha.z
  dsimp only at hkd hz
  have w1 : IntKind.i64.wrap (valK v fr - am) = valK v fr - am := wrap_small _ (by omega) (by omega)
  have w2 : IntKind.i64.wrap (valK v fr + valK v to) = valK v fr + valK v to := wrap_small _ (by omega) (by omega)
  have w3 : IntKind.i64.wrap (valK v to + am) = valK v to + am := wrap_small _ (by omega) (by omega)
  rcases hkd with rfl | rfl | rfl | rfl | rfl | rfl
  · simp (config := { maxSteps := 4000000 }) only [go_sem, simprocAttr, ↓dnA, Tryz.f161, cl, g1, g2, Nat.mul_one, w1, w2, w3]
    repeat refine And.intro (by first | omega | (simp; done) | (simp; omega) | assumption) ?_
    refine ExitR.same ⟨_, _, rfl, rfl, fun k hk => ?_⟩
    have hk : k = fr := by simpa [writesA] using hk
    subst hk
    exact put1 _ _
  · by_cases he : fr = to
    · subst he
      have e1 : (fr == fr) = true := by simp
      simp (config := { maxSteps := 4000000 }) only [go_sem, simprocAttr, ↓dnA, Tryz.f161, cl, g1, g2, Nat.mul_one, w1, w2, w3, e1]
      repeat refine And.intro (by first | omega | (simp; done) | (simp; omega) | assumption) ?_
      refine semL_draw tab_ok mixed_ rfl (ord := [(1, []), (2, []), (3, []), (6, []), (7, []), (8, []), (9, []), (0, [1, 2, 3, 6, 7, 8, 9]), (4, [6, 7, 8, 9]), (5, []), (10, []), (11, [])]) (by dsimp only; decide +kernel) ?_
      simp (config := { maxSteps := 4000000 }) only [go_sem, simprocAttr, ↓dnA, Tryz.f161, cl, g1, g2, Nat.mul_one, w1, w2, w3]
      repeat refine And.intro (by first | omega | (simp; done) | (simp; omega) | assumption) ?_
      have hd : decide (valK v fr ≥ am) = doneA ⟨2, fr, fr, am⟩ (valK v fr) (valK v fr) := by simp [doneA]
      rw [hd]
      refine ExitR.same ⟨_, _, rfl, rfl, fun k hk => ?_⟩
      have hk : k = fr := by simpa [writesA] using hk
      subst hk
      rw [put1]
      simp [newV]
    · have e1 : (fr == to) = false := by simp [he]
      have hdn : ∀ c1, decide (valK v fr ≥ am) = c1 → ∀ c2, decide (valK v to + am ≤ 1000000) = c2 → doneA ⟨2, fr, to, am⟩ (valK v fr) (valK v to) = (c1 && c2) := by
        intro c1 h1 c2 h2
        subst h1; subst h2
        simp [doneA, he]
      have hnv : ∀ k, newV ⟨2, fr, to, am⟩ (valK v fr) (valK v to) k = if k = to then valK v to + am else valK v fr - am := by
        intro k; simp [newV, he]
      simp (config := { maxSteps := 4000000 }) only [go_sem, simprocAttr, ↓dnA, Tryz.f161, cl, g1, g2, Nat.mul_one, w1, w2, w3, e1]
      repeat refine And.intro (by first | omega | (simp; done) | (simp; omega) | assumption) ?_
      refine semL_two' tab_ok 7 14 mixed_ rfl (by decide) (ord1 := [(1, []), (2, []), (3, []), (4, []), (5, []), (6, []), (8, []), (9, []), (10, []), (11, []), (12, []), (13, []), (16, []), (17, []), (18, []), (19, []), (20, []), (21, []), (22, []), (23, []), (24, []), (25, []), (26, []), (0, [1, 2, 3, 4, 5, 6, 8, 9, 10, 11, 12, 13, 16, 17, 18, 19, 20, 21, 22, 23, 24, 25, 26]), (7, [8, 9, 10, 11, 12, 13, 16, 17, 18, 19, 20, 21, 22, 23, 24, 25, 26]), (14, [16, 17, 18, 19, 20, 21, 22, 23, 24, 25, 26]), (15, []), (27, []), (28, [])]) (ord2 := [(1, []), (2, []), (3, []), (4, []), (5, []), (6, []), (8, []), (9, []), (10, []), (11, []), (12, []), (13, []), (16, []), (17, []), (18, []), (19, []), (20, []), (21, []), (22, []), (23, []), (24, []), (25, []), (26, []), (0, [1, 2, 3, 4, 5, 6, 8, 9, 10, 11, 12, 13, 16, 17, 18, 19, 20, 21, 22, 23, 24, 25, 26]), (14, [1, 2, 3, 4, 5, 6, 16, 17, 18, 19, 20, 21, 22, 23, 24, 25, 26]), (7, [16, 17, 18, 19, 20, 21, 22, 23, 24, 25, 26]), (15, []), (27, []), (28, [])]) (by dsimp only; decide +kernel) (by dsimp only; decide +kernel) ?_
      cases h1 : decide (valK v fr ≥ am) with
      | false =>
        have hd := hdn _ h1 _ rfl
        simp (config := { maxSteps := 4000000 }) only [go_sem, simprocAttr, ↓dnA, Tryz.f161, cl, g1, g2, Nat.mul_one, w1, w2, w3, h1]
        refine ⟨?_, ?_⟩
        all_goals repeat refine And.intro (by first | omega | (simp; done) | (simp; omega) | assumption) ?_
        all_goals refine ExitR.same ⟨_, _, by rw [hd]; rfl, rfl, fun k hk => ?_⟩
        all_goals (rw [put2 _ _ _ _ _ (by have := mem_writes hk; dsimp only at this; omega), hnv])
        all_goals (rcases mem_writes hk with e | e <;> dsimp only at e <;> subst e <;> simp [he, Ne.symm he])
      | true =>
        have hd := hdn _ h1 _ rfl
        simp (config := { maxSteps := 4000000 }) only [go_sem, simprocAttr, ↓dnA, Tryz.f161, cl, g1, g2, Nat.mul_one, w1, w2, w3, h1]
        refine ⟨?_, ?_⟩
        all_goals repeat refine And.intro (by first | omega | (simp; done) | (simp; omega) | assumption) ?_
        all_goals refine ExitR.same ⟨_, _, by rw [hd]; rfl, rfl, fun k hk => ?_⟩
        all_goals (rw [put2 _ _ _ _ _ (by have := mem_writes hk; dsimp only at this; omega), hnv])
        all_goals (rcases mem_writes hk with e | e <;> dsimp only at e <;> subst e <;> simp [he, Ne.symm he])
  · simp (config := { maxSteps := 4000000 }) only [go_sem, simprocAttr, ↓dnA, Tryz.f161, cl, g1, g2, Nat.mul_one, w1, w2, w3]
    repeat refine And.intro (by first | omega | (simp; done) | (simp; omega) | assumption) ?_
    refine ExitR.same ⟨_, _, rfl, rfl, fun k hk => ?_⟩
    have hk : k = to := by simpa [writesA] using hk
    subst hk
    exact put1 _ _
  · have hnv : ∀ k, newV ⟨4, fr, to, am⟩ (valK v fr) (valK v to) k = if k = to then valK v fr else valK v to := by
      intro k; simp [newV]
    simp (config := { maxSteps := 4000000 }) only [go_sem, simprocAttr, ↓dnA, Tryz.f161, cl, g1, g2, Nat.mul_one, w1, w2, w3]
    repeat refine And.intro (by first | omega | (simp; done) | (simp; omega) | assumption) ?_
    refine semL_two' tab_ok 4 8 mixed_ rfl (by decide) (ord1 := [(1, []), (2, []), (3, []), (5, []), (6, []), (7, []), (0, [1, 2, 3, 5, 6, 7]), (4, [5, 6, 7]), (8, []), (9, []), (10, []), (11, [])]) (ord2 := [(1, []), (2, []), (3, []), (5, []), (6, []), (7, []), (0, [1, 2, 3, 5, 6, 7]), (8, [1, 2, 3]), (4, []), (9, []), (10, []), (11, [])]) (by dsimp only; decide +kernel) (by dsimp only; decide +kernel) ?_
    simp (config := { maxSteps := 4000000 }) only [go_sem, simprocAttr, ↓dnA, Tryz.f161, cl, g1, g2, Nat.mul_one, w1, w2, w3]
    refine ⟨?_, ?_⟩
    all_goals repeat refine And.intro (by first | omega | (simp; done) | (simp; omega) | assumption) ?_
    all_goals refine ExitR.same ⟨_, _, rfl, rfl, fun k hk => ?_⟩
    all_goals (rw [put2 _ _ _ _ _ (by have := mem_writes hk; dsimp only at this; omega), hnv])
    all_goals (rcases mem_writes hk with e | e <;> dsimp only at e <;> subst e <;> simp)
    all_goals (intro h; subst h; rfl)
  · simp (config := { maxSteps := 4000000 }) only [go_sem, simprocAttr, ↓dnA, Tryz.f161, cl, g1, g2, Nat.mul_one, w1, w2, w3]
    repeat refine And.intro (by first | omega | (simp; done) | (simp; omega) | assumption) ?_
    refine ExitR.same ⟨_, _, rfl, rfl, fun k hk => ?_⟩
    have hk : k = to := by simpa [writesA] using hk
    subst hk
    exact put1 _ _
  · simp (config := { maxSteps := 4000000 }) only [go_sem, simprocAttr, ↓dnA, Tryz.f161, cl, g1, g2, Nat.mul_one, w1, w2, w3]
    repeat refine And.intro (by first | omega | (simp; done) | (simp; omega) | assumption) ?_
    refine ExitR.same ⟨_, _, rfl, rfl, fun k hk => ?_⟩
    have hk : k = fr := by simpa [writesA] using hk
    subst hk
    rw [put1]
    simp only [newV, if_neg (show ¬((6:Int) = 1) by omega), if_true]
    congr 2
    rw [Int.max_def]
    split <;> split <;> omega

end Go.Proofs.YthcfafpjkbbaoaaGreat

/- Contracts: running one action. -/
set_option linter.unusedSimpArgs false
set_option linter.unusedVariables false
set_option maxRecDepth 20000
set_option maxHeartbeats 4000000
namespace Go.Proofs.YthcfafpjkbbaoaaGreat
open Go Go.RowKit

theorem cellsI_noT (Tb : Nat → Prop) : ∀ v : List Int, noT Tb (cellsI v) = True
  | [] => rfl
  | x :: v => cellsI_noT Tb v
theorem cellsI_argL (s : AState) : ∀ (v : List Int) (K : List AV → Bool → Prop), argL s (cellsI v) K = K (cellsI v) false
  | [], K => rfl
  | x :: v, K => by
    show argC s (.int .i64 x) (fun c' u => argL s (cellsI v) fun cs' us => K (c' :: cs') (u || us)) = _
    rw [show (fun (c' : AV) (u : Bool) => argL s (cellsI v) fun cs' us => K (c' :: cs') (u || us)) = fun c' u => K (c' :: cellsI v) (u || false) from funext fun c' => funext fun u => cellsI_argL s v _]
    rfl

/-- The effect of an action. -/
def runE (a : Action) (v : List Int) : Effect := ⟨doneA a (valK v a.fr) (valK v a.to), (readsA a).map fun k => ⟨k, valK v k⟩, if doneA a (valK v a.fr) (valK v a.to) then (writesA a).map fun k => ⟨k, newV a (valK v a.fr) (valK v a.to) k⟩ else []⟩
def encFO (e : Effect) : List AV := [.bool e.done, .osl false 2 (rows encE e.reads), .osl false 2 (rows encE e.writes)]

theorem readsA_len (a : Action) : (readsA a).length ≤ 2 := by
  unfold readsA; split <;> (try split) <;> simp
theorem writesA_len (a : Action) : (writesA a).length ≤ 2 := by
  unfold writesA; split <;> (try split) <;> simp
theorem mem_reads {a : Action} {k : Int} (h : k ∈ readsA a) : k = a.fr ∨ k = a.to := by
  unfold readsA at h
  split at h
  · simp at h
  · split at h
    · simp at h; exact .inl h
    · simpa using h

theorem c_impl_run (a : Action) (v : List Int) (ha : ActOk a) (hv : ValsOk v) : Det Tryz.prog 121 [.agg (encA a), .agg (cellsI v)] (.agg (encFO (runE a v))) := by
  refine fspec_det tab_ok Tryz.call121 Tryz.func121 rfl 58 Tryz.ntmps121 (of_decide_eq_true rfl) fun B => codeK_sound tab_ok _ _ _ ?_
  have cl : (cellsI v).length = 32 := by rw [cellsI_length, hv.1]
  have hfr := ha.fr
  have hto := ha.to
  have h2 := readsA_len a
  have h3 := writesA_len a
  simp (config := { maxSteps := 4000000 }) only [go_sem, simprocAttr, ↓dnA, Tryz.f121, rows_length, cl, encA]
  refine CallTo.det (c_impl_reads a) fun _ => ?_
  simp (config := { maxSteps := 4000000 }) only [go_sem, simprocAttr, ↓dnA, Tryz.f121, rows_length, cl, encA]
  refine semL_nilVA 5 1 600 2 true (by rfl) (by simp) (by rfl) (by rfl) (by decide) (by decide) ?_
  generalize hrs : readsA a = rs at h2
  have hmr : ∀ k, k ∈ rs → k = a.fr ∨ k = a.to := fun k hk => mem_reads (by rw [hrs]; exact hk)
  refine semL_for tab_ok (fun i : Nat => ⟨58, [(2, .loc 2 0), (3, .loc 3 0), (4, .loc 4 0), (5, .loc 5 0), (13, .row 14000 rs.length), (14, .int .i64 rs.length), (15, .int .i64 i)],
      [(14000, .row true false 1 (rows encI rs)), (5, .var [.bool false, .row 600 i, .sl (some false) []]), (4, .var [.bool false, .sl (some false) [], .sl (some false) []]), (3, .var (cellsI v)), (2, .var (encA a)),
        (600, .row true false 2 (rows encE ((rs.take i).map fun k => ⟨k, valK v k⟩)))]⟩) (fun i => rs.length - i)
    (fun i => i ≤ rs.length) 0 [(2, 2), (3, 3), (4, 4), (5, 5), (14000, 14000), (600, 600)] (Weak.of (by rfl) ?_ ?_ (by rfl)) (by omega) ?_
  · simp (config := { maxSteps := 4000000 }) only [go_sem, simprocAttr, ↓dnA, Tryz.f121, rows_length, encA, cellsI_wk, frW, wk2, wk1, wkL, wkB, hpW, List.mem_cons, Prod.mk.injEq, exists_eq_left, exists_eq_right, exists_eq]
    try rfl
  · simp (config := { maxSteps := 4000000 }) only [go_sem, simprocAttr, ↓dnA, Tryz.f121, rows_length, encA, cellsI_wk, frW, wk2, wk1, wkL, wkB, hpW, List.mem_cons, Prod.mk.injEq, exists_eq_left, exists_eq_right, exists_eq]
  · rintro i hi
    by_cases h : i < rs.length
    · have hk := hmr _ (List.getElem_mem h)
      have hb : 0 ≤ rs[i] ∧ rs[i] < 32 := by rcases hk with e | e <;> rw [e] <;> omega
      have hb1 := hb.1
      have hb2 := hb.2
      have g1 := cellsI_at v rs[i] hb.1 (by rw [hv.1]; omega) rs[i].toNat 1 rfl rfl
      have htk : (rows encE ((rs.take i).map fun k => (⟨k, valK v k⟩ : Entry))).take i = rows encE ((rs.take i).map fun k => ⟨k, valK v k⟩) := by
        rw [List.take_of_length_le]; rw [rows_length, List.length_map, List.length_take]; omega
      have hl : min i rs.length = i := by omega
      have hw : IntKind.i64.wrap ((i : Int) + 1) = ((i + 1 : Nat) : Int) := wsucc h (by omega)
      simp (config := { maxSteps := 4000000 }) only [go_sem, simprocAttr, ↓dnA, Tryz.f121, rows_length, nlt h, rows_get _ _ _ h, encI, nn0]
      refine ⟨h, ?_⟩
      refine semL_draw tab_ok mixed_ rfl (ord := [(0, []), (1, []), (2, []), (3, []), (4, []), (5, []), (6, []), (7, [0, 1]), (8, []), (9, []), (10, [])]) (by dsimp only; decide +kernel) ?_
      simp (config := { maxSteps := 4000000 }) only [go_sem, simprocAttr, ↓dnA, Tryz.f121, rows_length, List.length_take, List.length_map, hl, htk, hw, cl, g1, hb1, hb2, Nat.mul_one]
      repeat refine And.intro (by first | omega | (simp; done) | (simp; omega) | assumption) ?_
      refine ⟨i + 1, [(2, 2), (3, 3), (4, 4), (5, 5), (14000, 14000), (27, 600)], by omega, by dsimp only; omega, Weak.of (by rfl) ?_ ?_ (by rfl)⟩
      · simp (config := { maxSteps := 4000000 }) only [go_sem, simprocAttr, ↓dnA, Tryz.f121, rows_length, encA, cellsI_wk, frW, wk2, wk1, wkL, wkB, hpW, List.mem_cons, Prod.mk.injEq, exists_eq_left, exists_eq_right, exists_eq]
        rw [take_snoc _ _ h, List.map_append, List.map_singleton, ← rows_snoc]
        rfl
      · simp (config := { maxSteps := 4000000 }) only [go_sem, simprocAttr, ↓dnA, Tryz.f121, rows_length, encA, cellsI_wk, frW, wk2, wk1, wkL, wkB, hpW, List.mem_cons, Prod.mk.injEq, exists_eq_left, exists_eq_right, exists_eq]
    · have hi' : i = rs.length := by omega
      subst hi'
      have hct : (cellsI v).take 32 = cellsI v := cellsI_take _ 32 hv.1
      simp (config := { maxSteps := 4000000 }) only [go_sem, simprocAttr, ↓dnA, Tryz.f121, rows_length, nlf h, encA, cl, hct, cellsI_noT, cellsI_argL]
      refine CallTo.of (c_impl_result a v ha hv) ?_
      rintro r ls ⟨n, D, rfl, rfl, hD⟩
      have hrd : (runE a v).reads = rs.map fun k => ⟨k, valK v k⟩ := by rw [← hrs]; rfl
      cases hdn : doneA a (valK v a.fr) (valK v a.to) with
      | false =>
        have hwr : (runE a v).writes = [] := by unfold runE; rw [hdn]; rfl
        have hde : (runE a v).done = false := hdn
        simp (config := { maxSteps := 4000000 }) only [go_sem, simprocAttr, ↓dnA, Tryz.f121, rows_length, nlf h, encA, cl, hdn, encFO, hwr, hrd, hde, List.length_map, rows_nil]
      | true =>
        have hwr : (runE a v).writes = (writesA a).map fun k => ⟨k, newV a (valK v a.fr) (valK v a.to) k⟩ := by unfold runE; rw [hdn]; rfl
        have hde : (runE a v).done = true := hdn
        simp (config := { maxSteps := 4000000 }) only [go_sem, simprocAttr, ↓dnA, Tryz.f121, rows_length, nlf h, encA, cl, hdn]
        refine CallTo.det (c_impl_writes a) fun _ => ?_
        simp (config := { maxSteps := 4000000 }) only [go_sem, simprocAttr, ↓dnA, Tryz.f121, rows_length, nlf h, encA, cl]
        refine semL_nilVA 5 2 601 2 true (by rfl) (by simp) (by rfl) (by rfl) (by decide) (by decide) ?_
        generalize hws : writesA a = ws at h3 hD hwr
        generalize hnw : (fun k => (⟨k, newV a (valK v a.fr) (valK v a.to) k⟩ : Entry)) = nw at hwr
        refine semL_for tab_ok (fun i : Nat => ⟨58, [(4, .loc 4 0), (5, .loc 5 0), (8, .mp Tryz.prog 3 3 n D), (40, .row 41000 ws.length), (41, .int .i64 ws.length), (42, .int .i64 i)],
            [(41000, .row true false 1 (rows encI ws)), (5, .var [.bool true, .row 600 rs.length, .row 601 i]), (4, .var [.bool false, .sl (some false) [], .sl (some false) []]),
              (600, .row true false 2 (rows encE (rs.map fun k => ⟨k, valK v k⟩))), (601, .row true false 2 (rows encE ((ws.take i).map nw)))]⟩) (fun i => ws.length - i)
          (fun i => i ≤ ws.length) 0 [(4, 4), (5, 5), (41000, 41000), (600, 600), (601, 601)] (Weak.of (by rfl) ?_ ?_ (by rfl)) (by omega) ?_
        · simp (config := { maxSteps := 4000000 }) only [go_sem, simprocAttr, ↓dnA, Tryz.f121, rows_length, encA, cellsI_wk, frW, wk2, wk1, wkL, wkB, hpW, List.mem_cons, Prod.mk.injEq, exists_eq_left, exists_eq_right, exists_eq]
          try rfl
        · simp (config := { maxSteps := 4000000 }) only [go_sem, simprocAttr, ↓dnA, Tryz.f121, rows_length, encA, cellsI_wk, frW, wk2, wk1, wkL, wkB, hpW, List.mem_cons, Prod.mk.injEq, exists_eq_left, exists_eq_right, exists_eq]
        · rintro i hi
          by_cases h : i < ws.length
          · have hk := hD _ (List.getElem_mem h)
            have htk : (rows encE ((ws.take i).map nw)).take i = rows encE ((ws.take i).map nw) := by
              rw [List.take_of_length_le]; rw [rows_length, List.length_map, List.length_take]; omega
            have hl : min i ws.length = i := by omega
            have hw : IntKind.i64.wrap ((i : Int) + 1) = ((i + 1 : Nat) : Int) := wsucc h (by omega)
            simp (config := { maxSteps := 4000000 }) only [go_sem, simprocAttr, ↓dnA, Tryz.f121, rows_length, nlt h, h, rows_get _ _ _ h, encI, nn0, List.length_take, List.length_map, hl, htk, hw, hk]
            have hkw := mem_writes (a := a) (by rw [hws]; exact List.getElem_mem h)
            have hb : 0 ≤ ws[i] ∧ ws[i] < 32 := by rcases hkw with e | e <;> rw [e] <;> omega
            refine ⟨by omega, fun c hc => ?_⟩
            cases hc
            repeat refine And.intro (by first | omega | (simp; done) | (simp; omega) | assumption) ?_
            refine ⟨i + 1, [(4, 4), (5, 5), (41000, 41000), (600, 600), (54, 601)], by omega, by dsimp only; omega, Weak.of (by rfl) ?_ ?_ (by rfl)⟩
            · simp (config := { maxSteps := 4000000 }) only [go_sem, simprocAttr, ↓dnA, Tryz.f121, rows_length, encA, cellsI_wk, frW, wk2, wk1, wkL, wkB, hpW, List.mem_cons, Prod.mk.injEq, exists_eq_left, exists_eq_right, exists_eq]
              rw [take_snoc _ _ h, List.map_append, List.map_singleton, ← rows_snoc, ← hnw]
              rfl
            · simp (config := { maxSteps := 4000000 }) only [go_sem, simprocAttr, ↓dnA, Tryz.f121, rows_length, encA, cellsI_wk, frW, wk2, wk1, wkL, wkB, hpW, List.mem_cons, Prod.mk.injEq, exists_eq_left, exists_eq_right, exists_eq]
          · have hi' : i = ws.length := by omega
            subst hi'
            simp (config := { maxSteps := 4000000 }) only [go_sem, simprocAttr, ↓dnA, Tryz.f121, rows_length, nlf h, encFO, hwr, hrd, hde, List.length_map, List.take_length]

end Go.Proofs.YthcfafpjkbbaoaaGreat

/- Contracts: running many actions. -/
set_option linter.unusedSimpArgs false
set_option linter.unusedVariables false
set_option maxRecDepth 20000
set_option maxHeartbeats 4000000
namespace Go.Proofs.YthcfafpjkbbaoaaGreat
open Go Go.RowKit

def encF1 (e : Effect) : List AV := encF none none e
/-- Values with entries written. -/
def applyW (v : List Int) (ws : List Entry) : List Int := ws.foldl putV v
/-- One action more. -/
def stepR (p : List Int × List Effect) (a : Action) : List Int × List Effect := (applyW p.1 (runE a p.1).writes, p.2 ++ [runE a p.1])
def runAllE (v : List Int) (l : List Action) : List Int × List Effect := l.foldl stepR (v, [])

def WritesOk (ws : List Entry) : Prop := ∀ w, w ∈ ws → (0 ≤ w.key ∧ w.key ≤ 31) ∧ 0 ≤ w.value ∧ w.value ≤ 1000000

theorem runE_writesOk {a : Action} {v : List Int} (ha : ActOk a) (hv : ValsOk v) : WritesOk (runE a v).writes := by
  intro w hw
  unfold runE at hw
  dsimp only at hw
  split at hw
  · rename_i hd
    obtain ⟨k, hk, rfl⟩ := List.mem_map.1 hw
    have hfr := ha.fr
    have hto := ha.to
    have ham := ha.amount
    have hf := hv.at a.fr
    have ht := hv.at a.to
    have hkd := ha.kind
    refine ⟨by rcases mem_writes hk with e | e <;> dsimp only <;> rw [e] <;> omega, ?_⟩
    unfold newV
    unfold doneA at hd
    dsimp only
    rcases hkd with e | e | e | e | e | e <;> simp [e] at hd ⊢
    · omega
    · by_cases h : a.fr = a.to
      · simp [h] at hd ⊢; rw [h] at hf; omega
      · simp [h] at hd ⊢; split <;> omega
    · omega
    · split <;> omega
    · omega
    · omega
  · cases hw

theorem applyW_ok : ∀ (ws : List Entry) (v : List Int), ValsOk v → WritesOk ws → ValsOk (applyW v ws)
  | [], v, hv, _ => hv
  | w :: ws, v, hv, hw => by
    refine applyW_ok ws (putV v w) ⟨by unfold putV; rw [List.length_set]; exact hv.1, fun k => ?_⟩ fun x hx => hw x (List.mem_cons_of_mem _ hx)
    have h1 := hw w (List.mem_cons_self ..)
    unfold putV
    rw [List.getD_eq_getElem?_getD, List.getElem?_set]
    split
    · split
      · exact h1.2
      · simp
    · rw [← List.getD_eq_getElem?_getD]; exact hv.2 k

theorem applyW_take (v : List Int) (ws : List Entry) (i : Nat) (h : i < ws.length) : applyW v (ws.take (i + 1)) = putV (applyW v (ws.take i)) ws[i] := by
  unfold applyW
  rw [take_snoc _ _ h, List.foldl_append]
  rfl

theorem runAllE_take (v : List Int) (l : List Action) (i : Nat) (h : i < l.length) : runAllE v (l.take (i + 1)) = stepR (runAllE v (l.take i)) l[i] := by
  unfold runAllE
  rw [take_snoc _ _ h, List.foldl_append]
  rfl

theorem runAllE_ok {v : List Int} {l : List Action} (hl : ∀ a, a ∈ l → ActOk a) (hv : ValsOk v) : ∀ i, i ≤ l.length → ValsOk (runAllE v (l.take i)).1 ∧ (runAllE v (l.take i)).2.length = i
  | 0, _ => ⟨by simpa [runAllE] using hv, by simp [runAllE]⟩
  | i + 1, hi => by
    have ih := runAllE_ok hl hv i (by omega)
    rw [runAllE_take _ _ _ (by omega)]
    exact ⟨applyW_ok _ _ ih.1 (runE_writesOk (hl _ (List.getElem_mem _)) ih.1), by simp [stepR, ih.2]⟩

theorem c_impl_runAll (n1 : Option Bool) (v : List Int) (l : List Action) (hl : ∀ a, a ∈ l → ActOk a) (h10 : l.length ≤ 10) (hv : ValsOk v) :
    Det Tryz.prog 179 [.agg (cellsI v), .sl n1 (rows encA l)] (.tup [.agg (cellsI (runAllE v l).1), .osl false 3 (rows encF1 (runAllE v l).2)]) := by
  refine fspec_det tab_ok Tryz.call179 Tryz.func179 rfl 41 Tryz.ntmps179 (of_decide_eq_true rfl) fun B => codeK_sound tab_ok _ _ _ ?_
  have cl : (cellsI v).length = 32 := by rw [cellsI_length, hv.1]
  simp (config := { maxSteps := 4000000 }) only [go_sem, simprocAttr, ↓dnA, Tryz.f179, rows_length, cl, cellsI_impL, cellsI_impLB]
  refine semL_nilA 6 600 3 true (by rfl) (by rfl) (by decide) (by decide) ?_
  refine semL_for tab_ok (fun i : Nat => ⟨41, [(2, .loc 2 0), (4, .loc 4 0), (6, .row 600 i), (12, .sl n1 (rows encA l)), (13, .int .i64 l.length), (14, .int .i64 i)],
      [(2, .var (cellsI (runAllE v (l.take i)).1)), (4, .var (cellsI zeros32)), (600, .row true false 3 (rows encF1 (runAllE v (l.take i)).2))]⟩) (fun i => l.length - i)
    (fun i => i ≤ l.length) 0 [(2, 2), (4, 4), (600, 600)] (Weak.of (by rfl) ?_ ?_ (by rfl)) (by omega) ?_
  · simp (config := { maxSteps := 4000000 }) only [go_sem, simprocAttr, ↓dnA, Tryz.f179, rows_length, frW, wk2, wk1, wkL, wkB, hpW, List.mem_cons, Prod.mk.injEq, exists_eq_left, exists_eq_right, exists_eq]
    exact ⟨of_eq_true (cellsI_wk _ v), of_eq_true (cellsI_wk _ zeros32), rfl⟩
  · simp (config := { maxSteps := 4000000 }) only [go_sem, simprocAttr, ↓dnA, Tryz.f179, rows_length, frW, wk2, wk1, wkL, wkB, hpW, List.mem_cons, Prod.mk.injEq, exists_eq_left, exists_eq_right, exists_eq]
  · rintro i hi
    obtain ⟨hV, hL⟩ := runAllE_ok hl hv i hi
    generalize hp : runAllE v (l.take i) = p at hV hL
    obtain ⟨u, es⟩ := p
    dsimp only at hV hL
    have cu : (cellsI u).length = 32 := by rw [cellsI_length, hV.1]
    by_cases h : i < l.length
    · have ha := hl _ (List.getElem_mem h)
      have hcu : (cellsI u).take 32 = cellsI u := cellsI_take _ 32 hV.1
      simp (config := { maxSteps := 4000000 }) only [go_sem, simprocAttr, ↓dnA, Tryz.f179, rows_length, nlt h, h, hp, rows_get _ _ _ h, encA, nn0, cu, hcu, cellsI_noT, cellsI_argL]
      refine CallTo.det (c_impl_run l[i] u ha hV) fun _ => ?_
      simp (config := { maxSteps := 4000000 }) only [go_sem, simprocAttr, ↓dnA, Tryz.f179, rows_length, encFO, nn0, cu]
      have hW := runE_writesOk ha hV
      have hWl : (runE l[i] u).writes.length ≤ 2 := by
        unfold runE
        dsimp only
        split
        · rw [List.length_map]; exact writesA_len _
        · simp
      have hW0 : applyW u ((runE l[i] u).writes.take 0) = u := rfl
      have hstep : runAllE v (l.take (i + 1)) = (applyW u (runE l[i] u).writes, es ++ [runE l[i] u]) := by rw [runAllE_take _ _ _ h, hp]; rfl
      have hee : encF1 (runE l[i] u) = [.bool (runE l[i] u).done, .sl none (rows encE (runE l[i] u).reads), .sl none (rows encE (runE l[i] u).writes)] := rfl
      generalize hr : runE l[i] u = r at hW hWl hW0 hstep hee
      refine semL_for tab_ok (fun j : Nat => ⟨41, [(2, .loc 2 0), (4, .loc 4 0), (6, .row 600 i), (9, .loc 9 0), (12, .sl n1 (rows encA l)), (13, .int .i64 l.length), (14, .int .i64 i), (22, .row 21002 r.writes.length), (23, .int .i64 r.writes.length), (24, .int .i64 j)],
          [(2, .var (cellsI (applyW u (r.writes.take j)))), (4, .var (cellsI zeros32)), (600, .row true false 3 (rows encF1 es)), (9, .var [.bool r.done, .row 21001 r.reads.length, .row 21002 r.writes.length]),
            (21001, .row true false 2 (rows encE r.reads)), (21002, .row true false 2 (rows encE r.writes))]⟩) (fun j => r.writes.length - j)
        (fun j => j ≤ r.writes.length) 0 [(2, 2), (4, 4), (600, 600), (9, 9), (21001, 21001), (21002, 21002)] (Weak.of (by rfl) ?_ ?_ (by rfl)) (by omega) ?_
      · simp (config := { maxSteps := 4000000 }) only [go_sem, simprocAttr, ↓dnA, Tryz.f179, rows_length, frW, wk2, wk1, wkL, wkB, hpW, List.mem_cons, Prod.mk.injEq, exists_eq_left, exists_eq_right, exists_eq]
        exact ⟨of_eq_true (cellsI_wk _ u), of_eq_true (cellsI_wk _ _)⟩
      · simp (config := { maxSteps := 4000000 }) only [go_sem, simprocAttr, ↓dnA, Tryz.f179, rows_length, cellsI_wk, frW, wk2, wk1, wkL, wkB, hpW, List.mem_cons, Prod.mk.injEq, exists_eq_left, exists_eq_right, exists_eq]
      · rintro j hj
        have hA : ValsOk (applyW u (r.writes.take j)) := applyW_ok _ _ hV fun w hw => hW w (List.mem_of_mem_take hw)
        by_cases h2 : j < r.writes.length
        · have hw1 := hW _ (List.getElem_mem h2)
          have hw0 := applyW_take u _ _ h2
          generalize applyW u (r.writes.take j) = x at hA hw0
          have cx : (cellsI x).length = 32 := by rw [cellsI_length, hA.1]
          have hk0 := hw1.1.1
          have hk1 : r.writes[j].key < 32 := by omega
          have hw : IntKind.i64.wrap ((j : Int) + 1) = ((j + 1 : Nat) : Int) := wsucc h2 (by omega)
          simp (config := { maxSteps := 4000000 }) only [go_sem, simprocAttr, ↓dnA, Tryz.f179, rows_length, nlt h2, h2, rows_get _ _ _ h2, encE, nn0, cx, hw, hk0, hk1, cellsI_set, Nat.mul_one, show ¬ (1 = 32) by decide]
          repeat refine And.intro (by first | omega | (simp; done) | (simp; omega) | assumption) ?_
          refine ⟨j + 1, [(2, 2), (4, 4), (600, 600), (9, 9), (21001, 21001), (21002, 21002)], by omega, by dsimp only; omega, Weak.of (by rfl) ?_ ?_ (by rfl)⟩
          · simp (config := { maxSteps := 4000000 }) only [go_sem, simprocAttr, ↓dnA, Tryz.f179, rows_length, hw0, frW, wk2, wk1, wkL, wkB, hpW, List.mem_cons, Prod.mk.injEq, exists_eq_left, exists_eq_right, exists_eq]
            exact ⟨of_eq_true (cellsI_wk _ (putV x r.writes[j])), of_eq_true (cellsI_wk _ _)⟩
          · simp (config := { maxSteps := 4000000 }) only [go_sem, simprocAttr, ↓dnA, Tryz.f179, rows_length, frW, wk2, wk1, wkL, wkB, hpW, List.mem_cons, Prod.mk.injEq, exists_eq_left, exists_eq_right, exists_eq]
        · have hj' : j = r.writes.length := by omega
          subst hj'
          have hte : (rows encF1 es).take i = rows encF1 es := by rw [List.take_of_length_le]; rw [rows_length, hL]; omega
          have hw : IntKind.i64.wrap ((i : Int) + 1) = ((i + 1 : Nat) : Int) := wsucc h (by omega)
          simp (config := { maxSteps := 4000000 }) only [go_sem, simprocAttr, ↓dnA, Tryz.f179, rows_length, nlf h2, hL, hte, hw]
          repeat refine And.intro (by first | omega | (simp; done) | (simp; omega) | assumption) ?_
          refine ⟨i + 1, [(2, 2), (4, 4), (37, 600)], by omega, by dsimp only; omega, Weak.of (by rfl) ?_ ?_ (by rfl)⟩
          · simp (config := { maxSteps := 4000000 }) only [go_sem, simprocAttr, ↓dnA, Tryz.f179, rows_length, hstep, ← rows_snoc, hee, frW, wk2, wk1, wkL, wkB, hpW, List.mem_cons, Prod.mk.injEq, exists_eq_left, exists_eq_right, exists_eq]
            exact ⟨of_eq_true (cellsI_wk _ _), of_eq_true (cellsI_wk _ _)⟩
          · simp (config := { maxSteps := 4000000 }) only [go_sem, simprocAttr, ↓dnA, Tryz.f179, rows_length, frW, wk2, wk1, wkL, wkB, hpW, List.mem_cons, Prod.mk.injEq, exists_eq_left, exists_eq_right, exists_eq]
    · have hi' : i = l.length := by omega
      subst hi'
      rw [List.take_length] at hp
      have hcu : (cellsI u).take 32 = cellsI u := cellsI_take _ 32 hV.1
      have cz : (cellsI zeros32).length = 32 := rfl
      simp (config := { maxSteps := 4000000 }) only [go_sem, simprocAttr, ↓dnA, Tryz.f179, rows_length, nlf h, hp, List.take_length, cu, hcu, cz, hL, cellsI_exp, cellsI_rw, cellsI_one]

end Go.Proofs.YthcfafpjkbbaoaaGreat

/- Contracts: stores of values, serial runs (the program's). -/
set_option linter.unusedSimpArgs false
set_option linter.unusedVariables false
set_option maxRecDepth 20000
set_option maxHeartbeats 4000000
namespace Go.Proofs.YthcfafpjkbbaoaaGreat
open Go Go.RowKit

/-- The entries of the first n values. -/
def storeUp (v : List Int) (n : Nat) : List Entry := (List.range n).filterMap fun k => if v.getD k 0 > 0 then some ⟨(k : Int), v.getD k 0⟩ else none
def storeL (v : List Int) : List Entry := storeUp v 32
theorem storeUp_pos (v : List Int) (n : Nat) (h : v.getD n 0 > 0) : storeUp v (n + 1) = storeUp v n ++ [⟨(n : Int), v.getD n 0⟩] := by
  unfold storeUp
  rw [List.range_succ, List.filterMap_append]
  simp only [List.filterMap_cons, List.filterMap_nil, if_pos h]
theorem storeUp_neg (v : List Int) (n : Nat) (h : ¬ v.getD n 0 > 0) : storeUp v (n + 1) = storeUp v n := by
  unfold storeUp
  rw [List.range_succ, List.filterMap_append]
  simp only [List.filterMap_cons, List.filterMap_nil, if_neg h, List.append_nil]
theorem storeUp_len (v : List Int) (n : Nat) : (storeUp v n).length ≤ n := by
  have := List.length_filterMap_le (fun k : Nat => if v.getD k 0 > 0 then some (⟨(k : Int), v.getD k 0⟩ : Entry) else none) (List.range n)
  rw [List.length_range] at this
  exact this

theorem c_impl_store (v : List Int) (hv : ValsOk v) : Det Tryz.prog 97 [.agg (cellsI v)] (.osl false 2 (rows encE (storeL v))) := by
  refine fspec_det tab_ok Tryz.call97 Tryz.func97 rfl 21 Tryz.ntmps97 (of_decide_eq_true rfl) fun B => codeK_sound tab_ok _ _ _ ?_
  have cl : (cellsI v).length = 32 := by rw [cellsI_length, hv.1]
  have hcv : (cellsI v).take 32 = cellsI v := cellsI_take _ 32 hv.1
  simp (config := { maxSteps := 4000000 }) only [go_sem, simprocAttr, ↓dnA, Tryz.f97, rows_length, cl, hcv, cellsI_impL, cellsI_impLB]
  refine semL_nilA 3 600 2 true (by rfl) (by rfl) (by decide) (by decide) ?_
  refine semL_for tab_ok (fun i : Nat => ⟨21, [(1, .loc 1 0), (3, .row 600 (storeUp v i).length), (6, .agg (cellsI v)), (7, .int .i64 i)],
      [(1, .var (cellsI v)), (600, .row true false 2 (rows encE (storeUp v i)))]⟩) (fun i => 32 - i)
    (fun i => i ≤ 32) 0 [(1, 1), (600, 600)] (Weak.of (by rfl) ?_ ?_ (by rfl)) (by omega) ?_
  · simp (config := { maxSteps := 4000000 }) only [go_sem, simprocAttr, ↓dnA, Tryz.f97, rows_length, cellsI_wk, frW, wk2, wk1, wkL, wkB, hpW, List.mem_cons, Prod.mk.injEq, exists_eq_left, exists_eq_right, exists_eq]
    try rfl
  · simp (config := { maxSteps := 4000000 }) only [go_sem, simprocAttr, ↓dnA, Tryz.f97, rows_length, cellsI_wk, frW, wk2, wk1, wkL, wkB, hpW, List.mem_cons, Prod.mk.injEq, exists_eq_left, exists_eq_right, exists_eq]
    try rfl
  · rintro i hi
    have hl := storeUp_len v i
    by_cases h : i < 32
    · have hg := cellsI_get v i .top (by rw [hv.1]; exact h)
      have hw : IntKind.i64.wrap ((i : Int) + 1) = ((i + 1 : Nat) : Int) := wsucc h (by omega)
      have hn : decide ((i : Int) < 32) = true := by simp; omega
      have htk : (rows encE (storeUp v i)).take (storeUp v i).length = rows encE (storeUp v i) := by
        rw [List.take_of_length_le]; rw [rows_length]; omega
      cases hp : decide (v.getD i 0 > 0) with
      | true =>
        have hsu := storeUp_pos v i (of_decide_eq_true hp)
        simp (config := { maxSteps := 4000000 }) only [go_sem, simprocAttr, ↓dnA, Tryz.f97, rows_length, hn, h, nn0, cl, hg, hp, hw, htk]
        repeat refine And.intro (by first | omega | (simp; done) | (simp; omega) | assumption) ?_
        refine ⟨i + 1, [(1, 1), (18, 600)], by omega, by dsimp only; omega, Weak.of (by rfl) ?_ ?_ (by rfl)⟩
        · simp (config := { maxSteps := 4000000 }) only [go_sem, simprocAttr, ↓dnA, Tryz.f97, rows_length, hsu, ← rows_snoc, List.length_append, frW, wk2, wk1, wkL, wkB, hpW, List.mem_cons, Prod.mk.injEq, exists_eq_left, exists_eq_right, exists_eq]
          exact ⟨of_eq_true (cellsI_wk _ v), rfl⟩
        · simp (config := { maxSteps := 4000000 }) only [go_sem, simprocAttr, ↓dnA, Tryz.f97, rows_length, hsu, ← rows_snoc, List.length_append, frW, wk2, wk1, wkL, wkB, hpW, List.mem_cons, Prod.mk.injEq, exists_eq_left, exists_eq_right, exists_eq]
          try exact of_eq_true (cellsI_wk _ v)
      | false =>
        have hsu := storeUp_neg v i (of_decide_eq_false hp)
        simp (config := { maxSteps := 4000000 }) only [go_sem, simprocAttr, ↓dnA, Tryz.f97, rows_length, hn, h, nn0, cl, hg, hp, hw]
        repeat refine And.intro (by first | omega | (simp; done) | (simp; omega) | assumption) ?_
        refine ⟨i + 1, [(1, 1), (600, 600)], by omega, by dsimp only; omega, Weak.of (by rfl) ?_ ?_ (by rfl)⟩
        · simp (config := { maxSteps := 4000000 }) only [go_sem, simprocAttr, ↓dnA, Tryz.f97, rows_length, hsu, frW, wk2, wk1, wkL, wkB, hpW, List.mem_cons, Prod.mk.injEq, exists_eq_left, exists_eq_right, exists_eq]
          exact of_eq_true (cellsI_wk _ v)
        · simp (config := { maxSteps := 4000000 }) only [go_sem, simprocAttr, ↓dnA, Tryz.f97, rows_length, hsu, frW, wk2, wk1, wkL, wkB, hpW, List.mem_cons, Prod.mk.injEq, exists_eq_left, exists_eq_right, exists_eq]
          exact of_eq_true (cellsI_wk _ v)
    · have hi' : i = 32 := by omega
      subst hi'
      simp (config := { maxSteps := 4000000 }) only [go_sem, simprocAttr, ↓dnA, Tryz.f97, rows_length]
      rfl

/-- A serial run. -/
def runSerial (s : List Entry) (l : List Action) : List Entry × List Effect :=
  if storeValid s && actionsValid l then (storeL (runAllE (valuesL s) l).1, (runAllE (valuesL s) l).2) else ([], [])

theorem valuesL_ok {xs : List Entry} (h : storeValid xs = true) : ValsOk (valuesL xs) := by
  obtain ⟨h1, h2⟩ := entOk_spec 1 xs (-1) h
  refine applyW_ok xs zeros32 ⟨rfl, fun k => ?_⟩ fun w hw => ?_
  · rw [List.getD_eq_getElem?_getD, zeros32, List.getElem?_replicate]
    split <;> simp
  · have := h1 w hw
    omega

theorem actionsValid_ok {l : List Action} (h : actionsValid l = true) : (∀ a, a ∈ l → ActOk a) ∧ l.length ≤ 10 := by
  unfold actionsValid at h
  rw [Bool.and_eq_true] at h
  exact ⟨fun a ha => actOk_of (List.all_eq_true.1 h.2 a ha), of_decide_eq_true h.1⟩

theorem c_impl_RunSerial (n1 n2 : Option Bool) (s : List Entry) (l : List Action) (hs : s.length < 2 ^ 32) (hl : l.length < 2 ^ 32) :
    Det Tryz.prog 146 [.sl n1 (rows encE s), .sl n2 (rows encA l)] (.tup [.osl false 2 (rows encE (runSerial s l).1), .osl false 3 (rows encF1 (runSerial s l).2)]) := by
  refine fspec_det tab_ok Tryz.call146 Tryz.func146 rfl 26 Tryz.ntmps146 (of_decide_eq_true rfl) fun B => codeK_sound tab_ok _ _ _ ?_
  unfold runSerial
  simp (config := { maxSteps := 4000000 }) only [go_sem, simprocAttr, ↓dnA, Tryz.f146, rows_length]
  refine CallTo.det (c_impl_StoreValid n1 s (by omega)) fun _ => ?_
  cases h1 : storeValid s with
  | false => simp (config := { maxSteps := 4000000 }) only [go_sem, simprocAttr, ↓dnA, Tryz.f146, rows_length, h1, rows_nil]
  | true =>
    simp (config := { maxSteps := 4000000 }) only [go_sem, simprocAttr, ↓dnA, Tryz.f146, rows_length, h1]
    refine CallTo.det (c_impl_ActionsValid n2 l (by omega)) fun _ => ?_
    cases h2 : actionsValid l with
    | false => simp (config := { maxSteps := 4000000 }) only [go_sem, simprocAttr, ↓dnA, Tryz.f146, rows_length, h1, h2, rows_nil]
    | true =>
      obtain ⟨ha, h10⟩ := actionsValid_ok h2
      have hV := valuesL_ok h1
      have cl : (cellsI (valuesL s)).length = 32 := by rw [cellsI_length, hV.1]
      have hcv : (cellsI (valuesL s)).take 32 = cellsI (valuesL s) := cellsI_take _ 32 hV.1
      have hO := runAllE_ok ha hV l.length (Nat.le_refl _)
      rw [List.take_length] at hO
      obtain ⟨h3, h4⟩ := entOk_spec 1 s (-1) h1
      simp (config := { maxSteps := 4000000 }) only [go_sem, simprocAttr, ↓dnA, Tryz.f146, rows_length, h1, h2]
      refine CallTo.det (c_impl_valuesOf n1 s (by omega) (fun e he => by have := h3 e he; omega)) fun _ => ?_
      simp (config := { maxSteps := 4000000 }) only [go_sem, simprocAttr, ↓dnA, Tryz.f146, rows_length, h1, h2, cl, hcv, cellsI_impL, cellsI_impLB, cellsI_noT, cellsI_argL]
      refine CallTo.det (c_impl_runAll n2 (valuesL s) l ha h10 hV) fun _ => ?_
      generalize hp : runAllE (valuesL s) l = p at hO
      have cp : (cellsI p.1).length = 32 := by rw [cellsI_length, hO.1.1]
      have hcp : (cellsI p.1).take 32 = cellsI p.1 := cellsI_take _ 32 hO.1.1
      simp (config := { maxSteps := 4000000 }) only [go_sem, simprocAttr, ↓dnA, Tryz.f146, rows_length, h1, h2, cl, hcv, cp, hcp, cellsI_impL, cellsI_impLB, cellsI_noT, cellsI_argL, cellsI_one, cellsI_exp]
      repeat refine And.intro (by first | omega | (simp; done) | (simp; omega) | assumption) ?_
      refine CallTo.det (c_impl_store p.1 hO.1) fun _ => ?_
      simp (config := { maxSteps := 4000000 }) only [go_sem, simprocAttr, ↓dnA, Tryz.f146, rows_length, h1, h2, cl, hcv, cp, hcp, cellsI_impL, cellsI_impLB, cellsI_noT, cellsI_argL, cellsI_one, cellsI_exp]

end Go.Proofs.YthcfafpjkbbaoaaGreat

/- Contracts: the reference's stores with entries put. -/
set_option linter.unusedSimpArgs false
set_option linter.unusedVariables false
set_option maxRecDepth 20000
set_option maxHeartbeats 4000000
namespace Go.Proofs.YthcfafpjkbbaoaaGreat
open Go Go.RowKit

/-- One entry more, while k is put. -/
def putS (k x : Int) (p : List Entry × Bool) (e : Entry) : List Entry × Bool :=
  let q := if !p.2 && decide (e.key ≥ k) then (p.1 ++ [⟨k, x⟩], true) else p
  if (e.key != k) = true then (q.1 ++ [e], q.2) else q
def putF (k x : Int) (d : Bool) (s : List Entry) : List Entry × Bool := s.foldl (putS k x) ([], d)
def putD (k x : Int) (d : Bool) (s : List Entry) : List Entry := if (putF k x d s).2 then (putF k x d s).1 else (putF k x d s).1 ++ [⟨k, x⟩]

theorem putF_take (k x : Int) (d : Bool) (s : List Entry) (i : Nat) (h : i < s.length) : putF k x d (s.take (i + 1)) = putS k x (putF k x d (s.take i)) s[i] := by
  unfold putF
  rw [take_snoc _ _ h, List.foldl_append]
  rfl
theorem putF_len (k x : Int) (d : Bool) (s : List Entry) : ∀ i, i ≤ s.length → (putF k x d (s.take i)).1.length ≤ 2 * i
  | 0, _ => by simp [putF]
  | i + 1, hi => by
    have ih := putF_len k x d s i (by omega)
    rw [putF_take _ _ _ _ _ (by omega)]
    unfold putS
    dsimp only
    split <;> split <;> simp <;> omega

theorem c_spec_l4Put (n1 : Option Bool) (s : List Entry) (k x : Int) (hs : s.length < 2 ^ 32) : Det Tryz.prog 198 [.sl n1 (rows encE s), .int .i64 k, .int .i64 x] (.osl true 2 (rows encE (putD k x false s))) := by
  refine fspec_det tab_ok Tryz.call198 Tryz.func198 rfl 57 Tryz.ntmps198 (of_decide_eq_true rfl) fun B => codeK_sound tab_ok _ _ _ ?_
  simp (config := { maxSteps := 4000000 }) only [go_sem, simprocAttr, ↓dnA, Tryz.f198, rows_length]
  refine semL_for tab_ok (fun i : Nat => ⟨57, [(0, .sl n1 (rows encE s)), (1, .int .i64 k), (2, .int .i64 x), (7, .row 600 (putF k x false (s.take i)).1.length), (8, .bool (putF k x false (s.take i)).2), (9, .int .i64 i)],
      [(600, .row true true 2 (rows encE (putF k x false (s.take i)).1))]⟩) (fun i => s.length - i)
    (fun i => i ≤ s.length) 0 [(10, 600)] (Weak.of (by rfl) ?_ ?_ (by rfl)) (by omega) ?_
  · simp (config := { maxSteps := 4000000 }) only [go_sem, simprocAttr, ↓dnA, Tryz.f198, rows_length, frW, wk2, wk1, wkL, wkB, hpW, List.mem_cons, Prod.mk.injEq, exists_eq_left, exists_eq_right, exists_eq]
    rfl
  · simp (config := { maxSteps := 4000000 }) only [go_sem, simprocAttr, ↓dnA, Tryz.f198, rows_length, frW, wk2, wk1, wkL, wkB, hpW, List.mem_cons, Prod.mk.injEq, exists_eq_left, exists_eq_right, exists_eq]
    exact ⟨rfl, rfl⟩
  · rintro i hi
    have hl := putF_len k x false s i hi
    by_cases h : i < s.length
    · have hw : IntKind.i64.wrap ((i : Int) + 1) = ((i + 1 : Nat) : Int) := wsucc h (by omega)
      have hst := putF_take k x false s i h
      generalize hp : putF k x false (s.take i) = p at hl hst
      obtain ⟨acc, dn⟩ := p
      dsimp only at hl
      have htk : (rows encE acc).take acc.length = rows encE acc := by rw [List.take_of_length_le]; rw [rows_length]; omega
      have hlk : List.length (rows encE acc ++ [[AV.int IntKind.i64 k, AV.int IntKind.i64 x]]) = acc.length + 1 := by simp [rows_length]
      have htk2 : (rows encE acc ++ [[AV.int IntKind.i64 k, AV.int IntKind.i64 x]]).take (acc.length + 1) = rows encE acc ++ [[AV.int IntKind.i64 k, AV.int IntKind.i64 x]] := by rw [List.take_of_length_le]; rw [hlk]; omega
      cases dn <;> cases h1 : decide (s[i].key ≥ k) <;> cases h2 : (s[i].key != k)
      all_goals (simp only [putS, h1, h2, Bool.not_true, Bool.not_false, Bool.and_true, Bool.and_false, Bool.false_eq_true, if_true, if_false] at hst)
      all_goals (simp (config := { maxSteps := 4000000 }) only [go_sem, simprocAttr, ↓dnA, Tryz.f198, rows_length, nlt h, h, rows_get _ _ _ h, encE, nn0, hp, h1, h2, htk, hlk, htk2, hw])
      all_goals repeat refine And.intro (by first | omega | (simp; done) | (simp; omega) | assumption) ?_
      all_goals first
        | (refine ⟨i + 1, [(47, 600)], by omega, by dsimp only; omega, Weak.of (by rfl) ?_ ?_ (by rfl)⟩
           · simp (config := { maxSteps := 4000000 }) only [go_sem, simprocAttr, ↓dnA, Tryz.f198, rows_length, hst, List.length_append, frW, wk2, wk1, wkL, wkB, hpW, List.mem_cons, Prod.mk.injEq, exists_eq_left, exists_eq_right, exists_eq]
             simp [rows, encE]
           · simp (config := { maxSteps := 4000000 }) only [go_sem, simprocAttr, ↓dnA, Tryz.f198, rows_length, hst, List.length_append, frW, wk2, wk1, wkL, wkB, hpW, List.mem_cons, Prod.mk.injEq, exists_eq_left, exists_eq_right, exists_eq])
        | (refine ⟨i + 1, [(33, 600)], by omega, by dsimp only; omega, Weak.of (by rfl) ?_ ?_ (by rfl)⟩
           · simp (config := { maxSteps := 4000000 }) only [go_sem, simprocAttr, ↓dnA, Tryz.f198, rows_length, hst, List.length_append, frW, wk2, wk1, wkL, wkB, hpW, List.mem_cons, Prod.mk.injEq, exists_eq_left, exists_eq_right, exists_eq]
             simp [rows, encE]
           · simp (config := { maxSteps := 4000000 }) only [go_sem, simprocAttr, ↓dnA, Tryz.f198, rows_length, hst, List.length_append, frW, wk2, wk1, wkL, wkB, hpW, List.mem_cons, Prod.mk.injEq, exists_eq_left, exists_eq_right, exists_eq])
        | (refine ⟨i + 1, [(600, 600)], by omega, by dsimp only; omega, Weak.of (by rfl) ?_ ?_ (by rfl)⟩
           · simp (config := { maxSteps := 4000000 }) only [go_sem, simprocAttr, ↓dnA, Tryz.f198, rows_length, hst, List.length_append, frW, wk2, wk1, wkL, wkB, hpW, List.mem_cons, Prod.mk.injEq, exists_eq_left, exists_eq_right, exists_eq]
           · simp (config := { maxSteps := 4000000 }) only [go_sem, simprocAttr, ↓dnA, Tryz.f198, rows_length, hst, List.length_append, frW, wk2, wk1, wkL, wkB, hpW, List.mem_cons, Prod.mk.injEq, exists_eq_left, exists_eq_right, exists_eq])
    · have hi' : i = s.length := by omega
      subst hi'
      rw [List.take_length] at hl
      unfold putD
      generalize hp : putF k x false s = p at hl
      obtain ⟨acc, dn⟩ := p
      dsimp only at hl
      have htk : (rows encE acc).take acc.length = rows encE acc := by rw [List.take_of_length_le]; rw [rows_length]; omega
      cases dn with
      | true =>
        simp (config := { maxSteps := 4000000 }) only [go_sem, simprocAttr, ↓dnA, Tryz.f198, rows_length, nlf h, hp, List.take_length, htk]
        try rfl
      | false =>
        simp (config := { maxSteps := 4000000 }) only [go_sem, simprocAttr, ↓dnA, Tryz.f198, rows_length, nlf h, hp, List.take_length, htk]
        repeat refine And.intro (by first | omega | (simp; done) | (simp; omega) | assumption) ?_
        exact ⟨by simp [rows_length], by simp [rows, encE]⟩

theorem c_spec_l2Put (n1 : Option Bool) (s : List Entry) (k x : Int) (hs : s.length < 2 ^ 32) : Det Tryz.prog 186 [.sl n1 (rows encE s), .int .i64 k, .int .i64 x] (.osl true 2 (rows encE (putD k x (x == 0) s))) := by
  refine fspec_det tab_ok Tryz.call186 Tryz.func186 rfl 59 Tryz.ntmps186 (of_decide_eq_true rfl) fun B => codeK_sound tab_ok _ _ _ ?_
  simp (config := { maxSteps := 4000000 }) only [go_sem, simprocAttr, ↓dnA, Tryz.f186, rows_length]
  refine semL_for tab_ok (fun i : Nat => ⟨59, [(0, .sl n1 (rows encE s)), (1, .int .i64 k), (2, .int .i64 x), (7, .row 600 (putF k x (x == 0) (s.take i)).1.length), (8, .bool (putF k x (x == 0) (s.take i)).2), (9, .int .i64 i)],
      [(600, .row true true 2 (rows encE (putF k x (x == 0) (s.take i)).1))]⟩) (fun i => s.length - i)
    (fun i => i ≤ s.length) 0 [(10, 600)] (Weak.of (by rfl) ?_ ?_ (by rfl)) (by omega) ?_
  · simp (config := { maxSteps := 4000000 }) only [go_sem, simprocAttr, ↓dnA, Tryz.f186, rows_length, frW, wk2, wk1, wkL, wkB, hpW, List.mem_cons, Prod.mk.injEq, exists_eq_left, exists_eq_right, exists_eq]
    rfl
  · simp (config := { maxSteps := 4000000 }) only [go_sem, simprocAttr, ↓dnA, Tryz.f186, rows_length, frW, wk2, wk1, wkL, wkB, hpW, List.mem_cons, Prod.mk.injEq, exists_eq_left, exists_eq_right, exists_eq]
    exact ⟨rfl, rfl⟩
  · rintro i hi
    have hl := putF_len k x (x == 0) s i hi
    by_cases h : i < s.length
    · have hw : IntKind.i64.wrap ((i : Int) + 1) = ((i + 1 : Nat) : Int) := wsucc h (by omega)
      have hst := putF_take k x (x == 0) s i h
      generalize hp : putF k x (x == 0) (s.take i) = p at hl hst
      obtain ⟨acc, dn⟩ := p
      dsimp only at hl
      have htk : (rows encE acc).take acc.length = rows encE acc := by rw [List.take_of_length_le]; rw [rows_length]; omega
      have hlk : List.length (rows encE acc ++ [[AV.int IntKind.i64 k, AV.int IntKind.i64 x]]) = acc.length + 1 := by simp [rows_length]
      have htk2 : (rows encE acc ++ [[AV.int IntKind.i64 k, AV.int IntKind.i64 x]]).take (acc.length + 1) = rows encE acc ++ [[AV.int IntKind.i64 k, AV.int IntKind.i64 x]] := by rw [List.take_of_length_le]; rw [hlk]; omega
      cases dn <;> cases h1 : decide (s[i].key ≥ k) <;> cases h2 : (s[i].key != k)
      all_goals (simp only [putS, h1, h2, Bool.not_true, Bool.not_false, Bool.and_true, Bool.and_false, Bool.false_eq_true, if_true, if_false] at hst)
      all_goals (simp (config := { maxSteps := 4000000 }) only [go_sem, simprocAttr, ↓dnA, Tryz.f186, rows_length, nlt h, h, rows_get _ _ _ h, encE, nn0, hp, h1, h2, htk, hlk, htk2, hw])
      all_goals repeat refine And.intro (by first | omega | (simp; done) | (simp; omega) | assumption) ?_
      all_goals first
        | (refine ⟨i + 1, [(49, 600)], by omega, by dsimp only; omega, Weak.of (by rfl) ?_ ?_ (by rfl)⟩
           · simp (config := { maxSteps := 4000000 }) only [go_sem, simprocAttr, ↓dnA, Tryz.f186, rows_length, hst, List.length_append, frW, wk2, wk1, wkL, wkB, hpW, List.mem_cons, Prod.mk.injEq, exists_eq_left, exists_eq_right, exists_eq]
             simp [rows, encE]
           · simp (config := { maxSteps := 4000000 }) only [go_sem, simprocAttr, ↓dnA, Tryz.f186, rows_length, hst, List.length_append, frW, wk2, wk1, wkL, wkB, hpW, List.mem_cons, Prod.mk.injEq, exists_eq_left, exists_eq_right, exists_eq])
        | (refine ⟨i + 1, [(35, 600)], by omega, by dsimp only; omega, Weak.of (by rfl) ?_ ?_ (by rfl)⟩
           · simp (config := { maxSteps := 4000000 }) only [go_sem, simprocAttr, ↓dnA, Tryz.f186, rows_length, hst, List.length_append, frW, wk2, wk1, wkL, wkB, hpW, List.mem_cons, Prod.mk.injEq, exists_eq_left, exists_eq_right, exists_eq]
             simp [rows, encE]
           · simp (config := { maxSteps := 4000000 }) only [go_sem, simprocAttr, ↓dnA, Tryz.f186, rows_length, hst, List.length_append, frW, wk2, wk1, wkL, wkB, hpW, List.mem_cons, Prod.mk.injEq, exists_eq_left, exists_eq_right, exists_eq])
        | (refine ⟨i + 1, [(600, 600)], by omega, by dsimp only; omega, Weak.of (by rfl) ?_ ?_ (by rfl)⟩
           · simp (config := { maxSteps := 4000000 }) only [go_sem, simprocAttr, ↓dnA, Tryz.f186, rows_length, hst, List.length_append, frW, wk2, wk1, wkL, wkB, hpW, List.mem_cons, Prod.mk.injEq, exists_eq_left, exists_eq_right, exists_eq]
           · simp (config := { maxSteps := 4000000 }) only [go_sem, simprocAttr, ↓dnA, Tryz.f186, rows_length, hst, List.length_append, frW, wk2, wk1, wkL, wkB, hpW, List.mem_cons, Prod.mk.injEq, exists_eq_left, exists_eq_right, exists_eq])
    · have hi' : i = s.length := by omega
      subst hi'
      rw [List.take_length] at hl
      unfold putD
      generalize hp : putF k x (x == 0) s = p at hl
      obtain ⟨acc, dn⟩ := p
      dsimp only at hl
      have htk : (rows encE acc).take acc.length = rows encE acc := by rw [List.take_of_length_le]; rw [rows_length]; omega
      cases dn with
      | true =>
        simp (config := { maxSteps := 4000000 }) only [go_sem, simprocAttr, ↓dnA, Tryz.f186, rows_length, nlf h, hp, List.take_length, htk]
        try rfl
      | false =>
        simp (config := { maxSteps := 4000000 }) only [go_sem, simprocAttr, ↓dnA, Tryz.f186, rows_length, nlf h, hp, List.take_length, htk]
        repeat refine And.intro (by first | omega | (simp; done) | (simp; omega) | assumption) ?_
        exact ⟨by simp [rows_length], by simp [rows, encE]⟩

end Go.Proofs.YthcfafpjkbbaoaaGreat

/- Contracts: the reference's runs of one action. -/
set_option linter.unusedSimpArgs false
set_option linter.unusedVariables false
set_option maxRecDepth 20000
set_option maxHeartbeats 4000000
namespace Go.Proofs.YthcfafpjkbbaoaaGreat
open Go Go.RowKit

theorem c_spec_l4Writes (n1 : Option Bool) (xs : List Entry) (hx : xs.length < 2 ^ 62) : Det Tryz.prog 193 [.sl n1 (rows encE xs)] (.bool (entOk 0 (-1) xs)) := by
  refine fspec_det tab_ok Tryz.call193 Tryz.func193 rfl 44 Tryz.ntmps193 (of_decide_eq_true rfl) fun B => codeK_sound tab_ok _ _ _ ?_
  simp (config := { maxSteps := 4000000 }) only [go_sem, simprocAttr, ↓dnA, Tryz.f193, rows_length]
  refine semL_for tab_ok (fun i : Nat => ⟨44, [(0, .sl n1 (rows encE xs)), (3, .int .i64 i)], []⟩) (fun i => xs.length - i)
    (fun i => i ≤ xs.length ∧ ∃ last : Int, -1 ≤ last ∧ (i = 0 → last = -1) ∧ (∀ j (h : j < xs.length), i = j + 1 → last = xs[j].key) ∧ entOk 0 last (xs.drop i) = entOk 0 (-1) xs) 0 [] (Weak.of rfl trivial ?_ rfl) ⟨by omega, -1, by omega, fun _ => rfl, fun j h hj => by omega, rfl⟩ ?_
  · simp (config := { maxSteps := 4000000 }) only [go_sem, simprocAttr, ↓dnA, Tryz.f193, frW, wk2, wk1, wkL, wkB, hpW, List.mem_cons, Prod.mk.injEq, exists_eq_left, exists_eq_right, exists_eq]
  · rintro i ⟨hi, last, hl, h0, hs, hp⟩
    by_cases h : i < xs.length
    · rw [drop_cons xs i h] at hp
      simp only [entOk] at hp
      simp (config := { maxSteps := 4000000 }) only [go_sem, simprocAttr, ↓dnA, Tryz.f193, rows_length, rows_get _ _ _ h, encE, nlt h, nn0]
      refine semL_draw tab_ok mixed_ rfl (ord := [(0, []), (1, []), (2, []), (3, []), (4, []), (5, []), (6, []), (7, []), (8, []), (9, []), (10, []), (11, []), (12, []), (13, []), (14, []), (15, []), (16, []), (17, []), (18, []), (19, []), (20, []), (21, []), (22, []), (23, []), (24, []), (25, []), (26, []), (27, []), (28, []), (29, []), (30, []), (31, []), (32, []), (33, [])]) (by dsimp only; decide +kernel) ?_
      simp (config := { maxSteps := 4000000 }) only [go_sem, simprocAttr, ↓dnA, Tryz.f193, rows_length, rows_get _ _ _ h, encE, nlt h, nn0]
      refine CallTo.det (c_l1In _ _ _) fun _ => ?_
      cases h1 : inB xs[i].key 0 31 with
      | false =>
        have h1' : inB xs[i].key (last + 1) 31 = false := by
          cases hc : inB xs[i].key (last + 1) 31 with
          | false => rfl
          | true => rw [inB_iff] at hc; rw [inB_iff.2 ⟨by omega, hc.2⟩] at h1; exact h1
        rw [h1', Bool.false_and, Bool.false_and] at hp
        simp (config := { maxSteps := 4000000 }) only [go_sem, simprocAttr, ↓dnA, Tryz.f193, rows_length, rows_get _ _ _ h, encE, nlt h, nn0, h1]
        exact hp.symm
      | true =>
        simp (config := { maxSteps := 4000000 }) only [go_sem, simprocAttr, ↓dnA, Tryz.f193, rows_length, rows_get _ _ _ h, encE, nlt h, nn0, h1]
        refine CallTo.det (c_l1In _ _ _) fun _ => ?_
        cases h2 : inB xs[i].value 0 1000000 with
        | false =>
          rw [h2, Bool.and_false, Bool.false_and] at hp
          simp (config := { maxSteps := 4000000 }) only [go_sem, simprocAttr, ↓dnA, Tryz.f193, rows_length, rows_get _ _ _ h, encE, nlt h, nn0, h1, h2]
          exact hp.symm
        | true =>
          rcases Nat.eq_zero_or_pos i with rfl | hpos
          · simp (config := { maxSteps := 4000000 }) only [go_sem, simprocAttr, ↓dnA, Tryz.f193, rows_length, rows_get _ _ _ h, encE, nlt h, nn0, h1, h2]
            have hl0 := h0 rfl
            have w1 : IntKind.i64.wrap 1 = 1 := by decide
            subst hl0
            rw [h2] at hp
            have h1' : inB (xs[0]'h).key (-1 + 1) 31 = true := h1
            rw [h1', Bool.true_and, Bool.true_and] at hp
            have hk := inB_iff.1 h1
            refine ⟨1, [], ⟨by omega, (xs[0]'h).key, by omega, fun hc => absurd hc (by omega), fun j hj e => ?_, hp⟩, by dsimp only; omega, Weak.of rfl trivial ?_ rfl⟩
            · obtain rfl : j = 0 := by omega
              rfl
            · simp (config := { maxSteps := 4000000 }) only [go_sem, simprocAttr, ↓dnA, Tryz.f193, w1, frW, wk2, wk1, wkL, wkB, hpW, List.mem_cons, Prod.mk.injEq, exists_eq_left, exists_eq_right, exists_eq]
          · obtain ⟨j, rfl⟩ : ∃ j, i = j + 1 := ⟨i - 1, by omega⟩
            have hw : IntKind.i64.wrap (((j + 1 : Nat) : Int) - 1) = (j : Int) := by rw [wrap_small _ (by omega) (by omega)]; omega
            have hj : j < xs.length := by omega
            have hg : decide (((j + 1 : Nat) : Int) > 0) = true := by simp
            have hls := hs j hj rfl
            simp (config := { maxSteps := 4000000 }) only [go_sem, simprocAttr, ↓dnA, Tryz.f193, rows_length, rows_get _ _ _ h, encE, nlt h, nn0, h1, h2, hw, rows_get _ _ _ hj, nlt hj, hg]
            have hk := inB_iff.1 h1
            cases h3 : decide (xs[j + 1].key ≤ xs[j].key) with
            | true =>
              have h1' : inB xs[j + 1].key (last + 1) 31 = false := by
                cases hc : inB xs[j + 1].key (last + 1) 31 with
                | false => rfl
                | true => rw [inB_iff] at hc; simp at h3; omega
              rw [h1', Bool.false_and, Bool.false_and] at hp
              exact ⟨fun _ => hp.symm, fun hc => by simp at hc⟩
            | false =>
              have h1' : inB xs[j + 1].key (last + 1) 31 = true := by rw [inB_iff]; simp at h3; omega
              rw [h1', h2, Bool.true_and, Bool.true_and] at hp
              simp only [Bool.false_eq_true, false_implies, true_implies, true_and, forall_const]
              refine ⟨j + 1 + 1, [], ⟨by omega, xs[j + 1].key, by omega, fun hc => absurd hc (by omega), fun j' hj' e => ?_, hp⟩, by dsimp only; omega, Weak.of rfl trivial ?_ rfl⟩
              · obtain rfl : j' = j + 1 := by omega
                rfl
              · simp (config := { maxSteps := 4000000 }) only [go_sem, simprocAttr, ↓dnA, Tryz.f193, wsucc h hx, frW, wk2, wk1, wkL, wkB, hpW, List.mem_cons, Prod.mk.injEq, exists_eq_left, exists_eq_right, exists_eq]
    · have : i = xs.length := by omega
      subst this
      simp only [List.drop_length] at hp
      simp (config := { maxSteps := 4000000 }) only [go_sem, simprocAttr, ↓dnA, Tryz.f193, rows_length, nlf h]
      exact hp.symm

theorem c_spec_ActionReads (a : Action) (ha : actionValid a = true) : Det Tryz.prog 197 [.agg (encA a)] (.osl true 1 (rows encI (readsA a))) := by
  refine fspec_det tab_ok Tryz.call197 Tryz.func197 rfl 35 Tryz.ntmps197 (of_decide_eq_true rfl) fun B => codeK_sound tab_ok _ _ _ ?_
  unfold encA readsA
  simp (config := { maxSteps := 4000000 }) only [go_sem, simprocAttr, ↓dnA, Tryz.f197, rows_length]
  refine CallTo.det (c_spec_ActionValid a) fun _ => ?_
  by_cases h1 : a.kind = 1
  · have e1 : (a.kind == 1) = true := by simp [h1]
    simp (config := { maxSteps := 4000000 }) only [go_sem, simprocAttr, ↓dnA, Tryz.f197, rows_length, ha, e1, h1, rows_nil]
  · have e1 : (a.kind == 1) = false := by simp [h1]
    by_cases h3 : a.kind = 3
    · have e3 : (a.kind == 3) = true := by simp [h3]
      simp (config := { maxSteps := 4000000 }) only [go_sem, simprocAttr, ↓dnA, Tryz.f197, rows_length, ha, e1, h1, e3, h3, rows, encI]
    · have e3 : (a.kind == 3) = false := by simp [h3]
      by_cases h6 : a.kind = 6
      · have e6 : (a.kind == 6) = true := by simp [h6]
        simp (config := { maxSteps := 4000000 }) only [go_sem, simprocAttr, ↓dnA, Tryz.f197, rows_length, ha, e1, h1, e3, h3, e6, h6, rows, encI]
      · have e6 : (a.kind == 6) = false := by simp [h6]
        by_cases hf : a.fr = a.to
        · have ef : (a.fr == a.to) = true := by simp [hf]
          simp (config := { maxSteps := 4000000 }) only [go_sem, simprocAttr, ↓dnA, Tryz.f197, rows_length, ha, e1, h1, e3, h3, e6, h6, ef, hf, rows, encI]
        · have ef : (a.fr == a.to) = false := by simp [hf]
          simp (config := { maxSteps := 4000000 }) only [go_sem, simprocAttr, ↓dnA, Tryz.f197, rows_length, ha, e1, h1, e3, h3, e6, h6, ef, hf, rows, encI]

/-- The effect of an action on the values of From and To. -/
def runX (a : Action) (f t : Int) : Effect := ⟨doneA a f t, (readsA a).map fun k => ⟨k, if k = a.fr then f else t⟩, if doneA a f t then (writesA a).map fun k => ⟨k, newV a f t k⟩ else []⟩

theorem runE_eq (a : Action) (v : List Int) : runE a v = runX a (valK v a.fr) (valK v a.to) := by
  unfold runE runX
  congr 1
  apply List.map_congr_left
  intro k hk
  by_cases h : k = a.fr
  · rw [if_pos h, h]
  · rw [if_neg h]
    rcases mem_reads hk with e | e
    · exact absurd e h
    · rw [e]

theorem putD_two (a b x y : Int) : putD b y false [⟨a, x⟩] = if a = b then [⟨b, y⟩] else [⟨min a b, if min a b = b then y else x⟩, ⟨max a b, if max a b = b then y else x⟩] := by
  unfold putD putF putS
  simp only [List.foldl_cons, List.foldl_nil, Bool.not_false, Bool.true_and]
  by_cases h : a = b
  · subst h; simp
  · by_cases h2 : a ≥ b
    · have e1 : min a b = b := by omega
      have e2 : max a b = a := by omega
      simp [h, h2, e1, e2]
    · have e1 : min a b = a := by omega
      have e2 : max a b = b := by omega
      simp [h, h2, e1, e2]

theorem c_spec_l6Run (a : Action) (f t : Int) (ha : actionValid a = true) (hf : 0 ≤ f ∧ f ≤ 1000000) (ht : 0 ≤ t ∧ t ≤ 1000000) :
    Det Tryz.prog 192 [.agg (encA a), .int .i64 f, .int .i64 t] (.agg (encFO (runX a f t))) := by
  refine fspec_det tab_ok Tryz.call192 Tryz.func192 rfl 152 Tryz.ntmps192 (of_decide_eq_true rfl) fun B => codeK_sound tab_ok _ _ _ ?_
  have hA := actOk_of ha
  have hfr := hA.fr
  have hto := hA.to
  have ham := hA.amount
  have h2 := readsA_len a
  simp (config := { maxSteps := 4000000 }) only [go_sem, simprocAttr, ↓dnA, Tryz.f192, rows_length, encA]
  refine CallTo.det (c_spec_ActionReads a ha) fun _ => ?_
  simp (config := { maxSteps := 4000000 }) only [go_sem, simprocAttr, ↓dnA, Tryz.f192, rows_length, encA]
  refine semL_nilVA 7 1 600 2 true (by rfl) (by simp) (by rfl) (by rfl) (by decide) (by decide) ?_
  have hrd : (runX a f t).reads = (readsA a).map fun k => ⟨k, if k = a.fr then f else t⟩ := rfl
  generalize hrs : readsA a = rs at h2 hrd
  generalize hnr : (fun k => (⟨k, if k = a.fr then f else t⟩ : Entry)) = nr at hrd
  have hmr : ∀ k, k ∈ rs → k = a.fr ∨ k = a.to := fun k hk => mem_reads (by rw [hrs]; exact hk)
  refine semL_for tab_ok (fun i : Nat => ⟨152, [(1, .int .i64 f), (2, .int .i64 t), (3, .loc 3 0), (6, .loc 6 0), (7, .loc 7 0), (8, .row 14000 rs.length), (9, .int .i64 i)],
      [(14000, .row true true 1 (rows encI rs)), (7, .var [.bool true, .row 600 i, .sl (some false) []]), (6, .var [.bool false, .sl (some false) [], .sl (some false) []]), (3, .var (encA a)),
        (600, .row true false 2 (rows encE ((rs.take i).map nr)))]⟩) (fun i => rs.length - i)
    (fun i => i ≤ rs.length) 0 [(3, 3), (6, 6), (7, 7), (14000, 14000), (600, 600)] (Weak.of (by rfl) ?_ ?_ (by rfl)) (by omega) ?_
  · simp (config := { maxSteps := 4000000 }) only [go_sem, simprocAttr, ↓dnA, Tryz.f192, rows_length, encA, frW, wk2, wk1, wkL, wkB, hpW, List.mem_cons, Prod.mk.injEq, exists_eq_left, exists_eq_right, exists_eq]
    try rfl
  · simp (config := { maxSteps := 4000000 }) only [go_sem, simprocAttr, ↓dnA, Tryz.f192, rows_length, encA, frW, wk2, wk1, wkL, wkB, hpW, List.mem_cons, Prod.mk.injEq, exists_eq_left, exists_eq_right, exists_eq]
    try rfl
  · rintro i hi
    by_cases h : i < rs.length
    · have hk := hmr _ (List.getElem_mem h)
      have hb : 0 ≤ rs[i] ∧ rs[i] < 32 := by rcases hk with e | e <;> rw [e] <;> omega
      have htk : (rows encE ((rs.take i).map nr)).take i = rows encE ((rs.take i).map nr) := by
        rw [List.take_of_length_le]; rw [rows_length, List.length_map, List.length_take]; omega
      have hl : min i rs.length = i := by omega
      have hw : IntKind.i64.wrap ((i : Int) + 1) = ((i + 1 : Nat) : Int) := wsucc h (by omega)
      have hni : nr rs[i] = ⟨rs[i], if rs[i] = a.fr then f else t⟩ := by rw [← hnr]
      simp (config := { maxSteps := 4000000 }) only [go_sem, simprocAttr, ↓dnA, Tryz.f192, rows_length, nlt h, h, rows_get _ _ _ h, encI, encA, nn0]
      refine semL_draw tab_ok mixed_ rfl (ord := [(0, []), (1, []), (2, []), (3, []), (4, []), (5, []), (6, [])]) (by dsimp only; decide +kernel) ?_
      cases hd : (rs[i] != a.fr) with
      | true =>
        have hd' : ¬ rs[i] = a.fr := by simpa using hd
        rw [if_neg hd'] at hni
        simp (config := { maxSteps := 4000000 }) only [go_sem, simprocAttr, ↓dnA, Tryz.f192, rows_length, nlt h, h, rows_get _ _ _ h, encI, encA, nn0, hd]
        refine semL_draw tab_ok mixed_ rfl (ord := [(0, []), (1, []), (2, []), (3, []), (4, []), (5, []), (6, []), (7, []), (8, [0, 1]), (9, []), (10, []), (11, [])]) (by dsimp only; decide +kernel) ?_
        simp (config := { maxSteps := 4000000 }) only [go_sem, simprocAttr, ↓dnA, Tryz.f192, rows_length, nlt h, h, rows_get _ _ _ h, encI, encA, nn0, List.length_take, List.length_map, hl, htk, hw]
        repeat refine And.intro (by first | omega | (simp; done) | (simp; omega) | assumption) ?_
        refine ⟨i + 1, [(3, 3), (6, 6), (7, 7), (14000, 14000), (38, 600)], by omega, by dsimp only; omega, Weak.of (by rfl) ?_ ?_ (by rfl)⟩
        · simp (config := { maxSteps := 4000000 }) only [go_sem, simprocAttr, ↓dnA, Tryz.f192, rows_length, encA, frW, wk2, wk1, wkL, wkB, hpW, List.mem_cons, Prod.mk.injEq, exists_eq_left, exists_eq_right, exists_eq]
          rw [take_snoc _ _ h, List.map_append, List.map_singleton, ← rows_snoc, hni]
          rfl
        · simp (config := { maxSteps := 4000000 }) only [go_sem, simprocAttr, ↓dnA, Tryz.f192, rows_length, encA, frW, wk2, wk1, wkL, wkB, hpW, List.mem_cons, Prod.mk.injEq, exists_eq_left, exists_eq_right, exists_eq]
      | false =>
        have hd' : rs[i] = a.fr := by simpa using hd
        rw [if_pos hd'] at hni
        simp (config := { maxSteps := 4000000 }) only [go_sem, simprocAttr, ↓dnA, Tryz.f192, rows_length, nlt h, h, rows_get _ _ _ h, encI, encA, nn0, hd]
        refine semL_draw tab_ok mixed_ rfl (ord := [(0, []), (1, []), (2, []), (3, []), (4, []), (5, []), (6, []), (7, []), (8, [0, 1]), (9, []), (10, []), (11, [])]) (by dsimp only; decide +kernel) ?_
        simp (config := { maxSteps := 4000000 }) only [go_sem, simprocAttr, ↓dnA, Tryz.f192, rows_length, nlt h, h, rows_get _ _ _ h, encI, encA, nn0, List.length_take, List.length_map, hl, htk, hw]
        repeat refine And.intro (by first | omega | (simp; done) | (simp; omega) | assumption) ?_
        refine ⟨i + 1, [(3, 3), (6, 6), (7, 7), (14000, 14000), (38, 600)], by omega, by dsimp only; omega, Weak.of (by rfl) ?_ ?_ (by rfl)⟩
        · simp (config := { maxSteps := 4000000 }) only [go_sem, simprocAttr, ↓dnA, Tryz.f192, rows_length, encA, frW, wk2, wk1, wkL, wkB, hpW, List.mem_cons, Prod.mk.injEq, exists_eq_left, exists_eq_right, exists_eq]
          rw [take_snoc _ _ h, List.map_append, List.map_singleton, ← rows_snoc, hni]
          rfl
        · simp (config := { maxSteps := 4000000 }) only [go_sem, simprocAttr, ↓dnA, Tryz.f192, rows_length, encA, frW, wk2, wk1, wkL, wkB, hpW, List.mem_cons, Prod.mk.injEq, exists_eq_left, exists_eq_right, exists_eq]
    · have hi' : i = rs.length := by omega
      subst hi'
      rw [List.take_length]
      have w1 : IntKind.i64.wrap (f - a.amount) = f - a.amount := wrap_small _ (by omega) (by omega)
      have w2 : IntKind.i64.wrap (f + t) = f + t := wrap_small _ (by omega) (by omega)
      have w3 : IntKind.i64.wrap (t + a.amount) = t + a.amount := wrap_small _ (by omega) (by omega)
      obtain ⟨kd, fr, to, am⟩ := a
      dsimp only at *
      rcases hA.kind with e | e | e | e | e | e <;> dsimp only at e <;> subst e
      · have hde : (runX ⟨1, fr, to, am⟩ f t).done = true := rfl
        have hwr : (runX ⟨1, fr, to, am⟩ f t).writes = [⟨fr, am⟩] := rfl
        simp (config := { maxSteps := 4000000 }) only [go_sem, simprocAttr, ↓dnA, Tryz.f192, rows_length, nlf h, encA, w1, w2, w3, encFO, hde, hwr, hrd, List.length_map, rows, encE]
      · have hde : (runX ⟨2, fr, to, am⟩ f t).done = doneA ⟨2, fr, to, am⟩ f t := rfl
        have hwr : (runX ⟨2, fr, to, am⟩ f t).writes = if doneA ⟨2, fr, to, am⟩ f t then (writesA ⟨2, fr, to, am⟩).map (fun k => ⟨k, newV ⟨2, fr, to, am⟩ f t k⟩) else [] := rfl
        have hcall := c_spec_l4Put (some true) [⟨fr, f - am⟩] to (t + am) (by simp)
        by_cases he : fr = to
        · subst he
          have e1 : (fr == fr) = true := by simp
          have hdn : doneA ⟨2, fr, fr, am⟩ f t = decide (f ≥ am) := by simp [doneA]
          have hw0 : (writesA ⟨2, fr, fr, am⟩).map (fun k => (⟨k, newV ⟨2, fr, fr, am⟩ f t k⟩ : Entry)) = [⟨fr, f⟩] := by simp [writesA, newV]
          rw [hdn] at hde hwr
          rw [hw0] at hwr
          cases h1 : decide (f ≥ am) with
          | false =>
            rw [h1, if_neg (by simp)] at hwr
            rw [h1] at hde
            simp (config := { maxSteps := 4000000 }) only [go_sem, simprocAttr, ↓dnA, Tryz.f192, rows_length, nlf h, encA, w1, w2, w3, h1, e1]
            refine CallTo.det hcall fun _ => ?_
            simp (config := { maxSteps := 4000000 }) only [go_sem, simprocAttr, ↓dnA, Tryz.f192, rows_length, nlf h, encA, w1, w2, w3, h1, e1, encFO, hde, hwr, hrd, List.length_map, rows_nil]
          | true =>
            rw [h1, if_pos rfl] at hwr
            rw [h1] at hde
            simp (config := { maxSteps := 4000000 }) only [go_sem, simprocAttr, ↓dnA, Tryz.f192, rows_length, nlf h, encA, w1, w2, w3, h1, e1]
            refine CallTo.det hcall fun _ => ?_
            simp (config := { maxSteps := 4000000 }) only [go_sem, simprocAttr, ↓dnA, Tryz.f192, rows_length, nlf h, encA, w1, w2, w3, h1, e1, encFO, hde, hwr, hrd, List.length_map, rows, encE]
        · have e1 : (fr == to) = false := by simp [he]
          have hdn : doneA ⟨2, fr, to, am⟩ f t = (decide (f ≥ am) && decide (t + am ≤ 1000000)) := by simp [doneA, he]
          have hw0 : (writesA ⟨2, fr, to, am⟩).map (fun k => (⟨k, newV ⟨2, fr, to, am⟩ f t k⟩ : Entry)) = putD to (t + am) false [⟨fr, f - am⟩] := by
            rw [putD_two, if_neg he]
            simp [writesA, newV, he]
          rw [hdn] at hde hwr
          rw [hw0] at hwr
          cases h1 : decide (f ≥ am) with
          | false =>
            rw [h1, Bool.false_and, if_neg (by simp)] at hwr
            rw [h1, Bool.false_and] at hde
            simp (config := { maxSteps := 4000000 }) only [go_sem, simprocAttr, ↓dnA, Tryz.f192, rows_length, nlf h, encA, w1, w2, w3, h1, e1]
            refine CallTo.det hcall fun _ => ?_
            simp (config := { maxSteps := 4000000 }) only [go_sem, simprocAttr, ↓dnA, Tryz.f192, rows_length, nlf h, encA, w1, w2, w3, h1, e1, encFO, hde, hwr, hrd, List.length_map, rows_nil]
          | true =>
            rw [h1, Bool.true_and] at hwr hde
            cases h3 : decide (t + am ≤ 1000000) with
            | false =>
              rw [h3, if_neg (by simp)] at hwr
              rw [h3] at hde
              simp (config := { maxSteps := 4000000 }) only [go_sem, simprocAttr, ↓dnA, Tryz.f192, rows_length, nlf h, encA, w1, w2, w3, h1, e1, h3]
              refine CallTo.det hcall fun _ => ?_
              simp (config := { maxSteps := 4000000 }) only [go_sem, simprocAttr, ↓dnA, Tryz.f192, rows_length, nlf h, encA, w1, w2, w3, h1, e1, h3, encFO, hde, hwr, hrd, List.length_map, rows_nil]
            | true =>
              rw [h3, if_pos rfl] at hwr
              rw [h3] at hde
              simp (config := { maxSteps := 4000000 }) only [go_sem, simprocAttr, ↓dnA, Tryz.f192, rows_length, nlf h, encA, w1, w2, w3, h1, e1, h3]
              refine CallTo.det hcall fun _ => ?_
              simp (config := { maxSteps := 4000000 }) only [go_sem, simprocAttr, ↓dnA, Tryz.f192, rows_length, nlf h, encA, w1, w2, w3, h1, e1, h3, encFO, hde, hwr, hrd, List.length_map]
      · have hde : (runX ⟨3, fr, to, am⟩ f t).done = true := rfl
        have hwr : (runX ⟨3, fr, to, am⟩ f t).writes = [⟨to, f⟩] := rfl
        simp (config := { maxSteps := 4000000 }) only [go_sem, simprocAttr, ↓dnA, Tryz.f192, rows_length, nlf h, encA, w1, w2, w3, encFO, hde, hwr, hrd, List.length_map, rows, encE]
      · have hde : (runX ⟨4, fr, to, am⟩ f t).done = true := rfl
        have hwr : (runX ⟨4, fr, to, am⟩ f t).writes = putD to f false [⟨fr, t⟩] := by
          rw [putD_two]
          unfold runX doneA writesA newV
          by_cases he : fr = to
          · simp [he]
          · simp [he]
        simp (config := { maxSteps := 4000000 }) only [go_sem, simprocAttr, ↓dnA, Tryz.f192, rows_length, nlf h, encA, w1, w2, w3]
        refine CallTo.det (c_spec_l4Put _ [⟨fr, t⟩] to f (by simp)) fun _ => ?_
        simp (config := { maxSteps := 4000000 }) only [go_sem, simprocAttr, ↓dnA, Tryz.f192, rows_length, nlf h, encA, w1, w2, w3, encFO, hde, hwr, hrd, List.length_map]
      · have hde : (runX ⟨5, fr, to, am⟩ f t).done = decide (f + t ≤ 1000000) := rfl
        have hwr : (runX ⟨5, fr, to, am⟩ f t).writes = if decide (f + t ≤ 1000000) then [⟨to, f + t⟩] else [] := rfl
        cases hd : decide (f + t ≤ 1000000) with
        | true =>
          rw [hd, if_pos rfl] at hwr
          simp (config := { maxSteps := 4000000 }) only [go_sem, simprocAttr, ↓dnA, Tryz.f192, rows_length, nlf h, encA, w1, w2, w3, hd, encFO, hde, hwr, hrd, List.length_map, rows, encE]
        | false =>
          rw [hd, if_neg (by simp)] at hwr
          simp (config := { maxSteps := 4000000 }) only [go_sem, simprocAttr, ↓dnA, Tryz.f192, rows_length, nlf h, encA, w1, w2, w3, hd, encFO, hde, hwr, hrd, List.length_map, rows, encE]
      · have hde : (runX ⟨6, fr, to, am⟩ f t).done = true := rfl
        have hwr : (runX ⟨6, fr, to, am⟩ f t).writes = [⟨fr, max 0 (f - am)⟩] := rfl
        simp (config := { maxSteps := 4000000 }) only [go_sem, simprocAttr, ↓dnA, Tryz.f192, rows_length, nlf h, encA, w1, w2, w3, encFO, hde, hwr, hrd, List.length_map, rows, encE]
        rw [Int.max_def]; split <;> split <;> omega

end Go.Proofs.YthcfafpjkbbaoaaGreat

/- Stores as data: puts, values. -/
set_option linter.unusedSimpArgs false
set_option linter.unusedVariables false
set_option maxRecDepth 20000
set_option maxHeartbeats 4000000
namespace Go.Proofs.YthcfafpjkbbaoaaGreat
open Go Go.RowKit

theorem entOk_cons {lo last : Int} {e : Entry} {r : List Entry} : entOk lo last (e :: r) = true ↔ (last < e.key ∧ e.key ≤ 31) ∧ (lo ≤ e.value ∧ e.value ≤ 1000000) ∧ entOk lo e.key r = true := by
  simp only [entOk, Bool.and_eq_true, inB_iff]
  constructor
  · rintro ⟨⟨h1, h2⟩, h3⟩; exact ⟨⟨by omega, h1.2⟩, h2, h3⟩
  · rintro ⟨h1, h2, h3⟩; exact ⟨⟨⟨by omega, h1.2⟩, h2⟩, h3⟩

theorem entOk_mono {lo a b : Int} (h : a ≤ b) : ∀ {r : List Entry}, entOk lo b r = true → entOk lo a r = true
  | [], _ => rfl
  | e :: r, hr => by
    rw [entOk_cons] at hr ⊢
    exact ⟨⟨by omega, hr.1.2⟩, hr.2⟩

theorem valAt_lt {lo last : Int} : ∀ {s : List Entry}, entOk lo last s = true → ∀ k, k ≤ last → valAt s k = 0
  | [], _, k, _ => rfl
  | e :: r, h, k, hk => by
    rw [entOk_cons] at h
    unfold valAt
    rw [if_neg (by omega)]
    exact valAt_lt h.2.2 k (by omega)

/-- A valid store is what its values are. -/
theorem store_ext : ∀ {s s' : List Entry} {last : Int}, entOk 1 last s = true → entOk 1 last s' = true → (∀ k, last < k → k ≤ 31 → valAt s k = valAt s' k) → s = s'
  | [], [], _, _, _, _ => rfl
  | [], e :: r, last, _, h', hv => by
    rw [entOk_cons] at h'
    have := hv e.key h'.1.1 h'.1.2
    simp only [valAt, if_true] at this
    omega
  | e :: r, [], last, h, _, hv => by
    rw [entOk_cons] at h
    have := hv e.key h.1.1 h.1.2
    simp only [valAt, if_true] at this
    omega
  | e :: r, e' :: r', last, h, h', hv => by
    rw [entOk_cons] at h h'
    have h1 := hv e.key h.1.1 h.1.2
    have h2 := hv e'.key h'.1.1 h'.1.2
    have hk : e.key = e'.key := by
      rcases Int.lt_trichotomy e.key e'.key with hl | hl | hl
      · simp only [valAt, if_true] at h1
        rw [if_neg (by omega), valAt_lt h'.2.2 _ (by omega)] at h1
        omega
      · exact hl
      · simp only [valAt, if_true] at h2
        rw [if_neg (by omega), valAt_lt h.2.2 _ (by omega)] at h2
        omega
    simp only [valAt, if_true] at h1
    rw [if_pos hk.symm] at h1
    have he : e = e' := by
      obtain ⟨a, b⟩ := e
      obtain ⟨a', b'⟩ := e'
      simp only at hk h1
      rw [hk, h1]
    subst he
    rw [store_ext (last := e.key) h.2.2 h'.2.2 fun k hk1 hk2 => by
      have := hv k (by omega) hk2
      simp only [valAt] at this
      rwa [if_neg (by omega), if_neg (by omega)] at this]

/-- The entries of values that stand behind i. -/
def storeFrom : Nat → List Int → List Entry
  | _, [] => []
  | i, x :: r => if x > 0 then ⟨(i : Int), x⟩ :: storeFrom (i + 1) r else storeFrom (i + 1) r

theorem storeFrom_append : ∀ (a b : List Int) (i : Nat), storeFrom i (a ++ b) = storeFrom i a ++ storeFrom (i + a.length) b
  | [], b, i => rfl
  | x :: a, b, i => by
    simp only [List.cons_append, storeFrom, List.length_cons]
    rw [storeFrom_append a b (i + 1), show i + 1 + a.length = i + (a.length + 1) by omega]
    split <;> rfl

theorem storeUp_eq (v : List Int) : ∀ n, n ≤ v.length → storeUp v n = storeFrom 0 (v.take n)
  | 0, _ => rfl
  | n + 1, h => by
    have ih := storeUp_eq v n (by omega)
    have hg : v.getD n 0 = v[n] := by rw [List.getD_eq_getElem?_getD, List.getElem?_eq_getElem (by omega)]; rfl
    rw [take_snoc _ _ (by omega), storeFrom_append, ← ih]
    rw [List.length_take, show min n v.length = n by omega, Nat.zero_add]
    by_cases hp : v.getD n 0 > 0
    · rw [storeUp_pos _ _ hp, hg]
      rw [hg] at hp
      simp [storeFrom, hp]
    · rw [storeUp_neg _ _ hp]
      rw [hg] at hp
      simp [storeFrom, hp]

theorem storeL_eq {v : List Int} (h : v.length = 32) : storeL v = storeFrom 0 v := by
  unfold storeL
  rw [storeUp_eq v 32 (by omega), List.take_of_length_le (by omega)]

theorem storeFrom_ok : ∀ (v : List Int) (i : Nat), i + v.length ≤ 32 → (∀ x, x ∈ v → x ≤ 1000000) → entOk 1 ((i : Int) - 1) (storeFrom i v) = true
  | [], i, _, _ => rfl
  | x :: r, i, hl, hv => by
    have ih := storeFrom_ok r (i + 1) (by simp only [List.length_cons] at hl; omega) fun y hy => hv y (List.mem_cons_of_mem _ hy)
    have hx := hv x (List.mem_cons_self ..)
    rw [show (((i + 1 : Nat) : Int) - 1) = (i : Int) by omega] at ih
    unfold storeFrom
    simp only [List.length_cons] at hl
    split
    · rw [entOk_cons]
      exact ⟨⟨by dsimp only; omega, by dsimp only; omega⟩, ⟨by dsimp only; omega, hx⟩, ih⟩
    · exact entOk_mono (by omega) ih

theorem storeFrom_at : ∀ (v : List Int) (i : Nat) (j : Nat), (∀ x, x ∈ v → 0 ≤ x ∧ x ≤ 1000000) → i + v.length ≤ 32 → valAt (storeFrom i v) ((i + j : Nat) : Int) = v.getD j 0
  | [], i, j, _, _ => by simp [storeFrom, valAt]
  | x :: r, i, j, hv, hl => by
    have hx := hv x (List.mem_cons_self ..)
    simp only [List.length_cons] at hl
    have hv' : ∀ y, y ∈ r → 0 ≤ y ∧ y ≤ 1000000 := fun y hy => hv y (List.mem_cons_of_mem _ hy)
    have ok := storeFrom_ok r (i + 1) (by omega) fun y hy => (hv' y hy).2
    rw [show (((i + 1 : Nat) : Int) - 1) = (i : Int) by omega] at ok
    cases j with
    | zero =>
      unfold storeFrom
      split
      · simp [valAt]
      · rw [Nat.add_zero, valAt_lt ok _ (by omega)]
        simp; omega
    | succ j =>
      have ih := storeFrom_at r (i + 1) j hv' (by omega)
      rw [show i + 1 + j = i + (j + 1) by omega] at ih
      unfold storeFrom
      split
      · simp only [valAt]
        rw [if_neg (by omega), ih]; rfl
      · rw [ih]; rfl

theorem ValsOk.mem {v : List Int} (h : ValsOk v) : ∀ x, x ∈ v → 0 ≤ x ∧ x ≤ 1000000 := by
  intro x hx
  obtain ⟨i, hi, rfl⟩ := List.getElem_of_mem hx
  have := h.2 i
  rwa [List.getD_eq_getElem?_getD, List.getElem?_eq_getElem hi] at this

theorem storeL_valid {v : List Int} (h : ValsOk v) : storeValid (storeL v) = true := by
  rw [storeL_eq h.1]
  exact storeFrom_ok v 0 (by rw [h.1]; decide) fun x hx => (h.mem x hx).2

theorem storeL_at {v : List Int} (h : ValsOk v) (k : Int) (h0 : 0 ≤ k) : valAt (storeL v) k = valK v k := by
  rw [storeL_eq h.1]
  have := storeFrom_at v 0 k.toNat h.mem (by rw [h.1]; decide)
  rw [Nat.zero_add, Int.toNat_of_nonneg h0] at this
  exact this

theorem storeL_values {s : List Entry} (h : storeValid s = true) : storeL (valuesL s) = s := by
  have hv := valuesL_ok h
  refine store_ext (last := -1) (storeL_valid hv) h fun k h0 h1 => ?_
  rw [storeL_at hv k (by omega)]
  have := (valuesL_get h k.toNat (by omega)).2
  rw [Int.toNat_of_nonneg (by omega)] at this
  exact this

/-- Puts, one entry behind the other. -/
def putR (k x : Int) : Bool → List Entry → List Entry
  | d, [] => if d then [] else [⟨k, x⟩]
  | d, e :: r => (if !d && decide (e.key ≥ k) then [⟨k, x⟩] else []) ++ ((if (e.key != k) = true then [e] else []) ++ putR k x (d || decide (e.key ≥ k)) r)

theorem putF_eq (k x : Int) : ∀ (s : List Entry) (acc : List Entry) (d : Bool), (if (s.foldl (putS k x) (acc, d)).2 then (s.foldl (putS k x) (acc, d)).1 else (s.foldl (putS k x) (acc, d)).1 ++ [⟨k, x⟩]) = acc ++ putR k x d s
  | [], acc, d => by cases d <;> simp [putR]
  | e :: r, acc, d => by
    rw [List.foldl_cons]
    have hst : putS k x (acc, d) e = (acc ++ ((if !d && decide (e.key ≥ k) then [⟨k, x⟩] else []) ++ (if (e.key != k) = true then [e] else [])), d || decide (e.key ≥ k)) := by
      unfold putS
      cases d <;> cases decide (e.key ≥ k) <;> cases (e.key != k) <;> simp
    rw [hst, putF_eq k x r]
    simp only [putR, List.append_assoc]

theorem putD_eq (k x : Int) (d : Bool) (s : List Entry) : putD k x d s = putR k x d s := by
  have := putF_eq k x s [] d
  rwa [List.nil_append] at this

theorem putR_true (k x : Int) : ∀ (s : List Entry), putR k x true s = s.filter fun e => e.key != k
  | [] => rfl
  | e :: r => by
    unfold putR
    rw [Bool.true_or, putR_true k x r]
    cases h : (e.key != k) <;> simp [h]

theorem filter_ok (k : Int) {lo : Int} : ∀ {s : List Entry} {last : Int}, entOk lo last s = true → entOk lo last (s.filter fun e => e.key != k) = true
  | [], _, _ => rfl
  | e :: r, last, h => by
    rw [entOk_cons] at h
    have ih := filter_ok k h.2.2
    rw [List.filter_cons]
    split
    · rw [entOk_cons]; exact ⟨h.1, h.2.1, ih⟩
    · exact entOk_mono (by omega) ih

theorem filter_at (k j : Int) : ∀ (s : List Entry), valAt (s.filter fun e => e.key != k) j = if j = k then 0 else valAt s j
  | [] => by simp [valAt]
  | e :: r => by
    have ih := filter_at k j r
    rw [List.filter_cons]
    by_cases he : e.key = k
    · rw [if_neg (by simp [he]), ih]
      by_cases hj : j = k
      · rw [if_pos hj, if_pos hj]
      · rw [if_neg hj, if_neg hj]; simp only [valAt]; rw [if_neg (by omega)]
    · rw [if_pos (by simp [he])]
      simp only [valAt]
      rw [ih]
      by_cases hj : j = k
      · rw [if_neg (by omega), if_pos hj, if_pos hj]
      · rw [if_neg hj, if_neg hj]

theorem filter_id (k : Int) {lo : Int} : ∀ {s : List Entry} {last : Int}, k ≤ last → entOk lo last s = true → (s.filter fun e => e.key != k) = s
  | [], _, _, _ => rfl
  | e :: r, last, hk, h => by
    rw [entOk_cons] at h
    rw [List.filter_cons, if_pos (by simp; omega), filter_id k (last := e.key) (by omega) h.2.2]

theorem putR_ok {k x : Int} (hk : k ≤ 31) (hx : 1 ≤ x ∧ x ≤ 1000000) : ∀ {s : List Entry} {last : Int}, last < k → entOk 1 last s = true →
    entOk 1 last (putR k x false s) = true ∧ ∀ j, valAt (putR k x false s) j = if j = k then x else valAt s j
  | [], last, hl, _ => by
    constructor
    · show entOk 1 last [⟨k, x⟩] = true
      rw [entOk_cons]; exact ⟨⟨hl, hk⟩, hx, rfl⟩
    · intro j
      show (if k = j then x else 0) = _
      by_cases h : j = k
      · rw [if_pos h.symm, if_pos h]
      · rw [if_neg (by omega), if_neg h]; rfl
  | e :: r, last, hl, h => by
    rw [entOk_cons] at h
    unfold putR
    by_cases hg : e.key ≥ k
    · simp only [hg, decide_true, Bool.not_false, Bool.true_and, if_true, Bool.or_true]
      rw [putR_true, filter_id k (last := e.key) (by omega) h.2.2]
      by_cases he : e.key = k
      · rw [if_neg (by simp [he])]
        constructor
        · show entOk 1 last (⟨k, x⟩ :: r) = true
          rw [entOk_cons]; exact ⟨⟨hl, hk⟩, hx, he ▸ h.2.2⟩
        · intro j
          show (if k = j then x else valAt r j) = if j = k then x else (if e.key = j then e.value else valAt r j)
          by_cases hj : j = k
          · rw [if_pos hj.symm, if_pos hj]
          · rw [if_neg (by omega), if_neg hj, if_neg (by omega)]
      · rw [if_pos (by simp [he])]
        constructor
        · show entOk 1 last (⟨k, x⟩ :: e :: r) = true
          rw [entOk_cons, entOk_cons]; exact ⟨⟨hl, hk⟩, hx, ⟨by dsimp only; omega, h.1.2⟩, h.2.1, h.2.2⟩
        · intro j
          show (if k = j then x else (if e.key = j then e.value else valAt r j)) = if j = k then x else (if e.key = j then e.value else valAt r j)
          by_cases hj : j = k
          · rw [if_pos hj.symm, if_pos hj]
          · rw [if_neg (by omega), if_neg hj]
    · simp only [hg, decide_false, Bool.not_false, Bool.and_false, Bool.false_eq_true, if_false, Bool.or_false]
      rw [if_pos (by simp; omega)]
      obtain ⟨i1, i2⟩ := putR_ok hk hx (last := e.key) (by omega) h.2.2
      constructor
      · show entOk 1 last (e :: putR k x false r) = true
        rw [entOk_cons]; exact ⟨h.1, h.2.1, i1⟩
      · intro j
        show (if e.key = j then e.value else valAt (putR k x false r) j) = if j = k then x else (if e.key = j then e.value else valAt r j)
        rw [i2 j]
        by_cases hj : j = k
        · rw [if_pos hj, if_neg (by omega), if_pos hj]
        · rw [if_neg hj, if_neg hj]

theorem putD_ok {k x : Int} (hk : 0 ≤ k ∧ k ≤ 31) (hx : 0 ≤ x ∧ x ≤ 1000000) {s : List Entry} (h : storeValid s = true) : storeValid (putD k x (x == 0) s) = true ∧ ∀ j, valAt (putD k x (x == 0) s) j = if j = k then x else valAt s j := by
  rw [putD_eq]
  by_cases h0 : x = 0
  · subst h0
    rw [show ((0 : Int) == 0) = true from rfl, putR_true]
    exact ⟨filter_ok k h, fun j => filter_at k j s⟩
  · rw [show (x == 0) = false by simp [h0]]
    exact putR_ok hk.2 (by omega) (last := -1) (by omega) h

theorem put_storeL {v : List Int} (hv : ValsOk v) {w : Entry} (hk : 0 ≤ w.key ∧ w.key ≤ 31) (hx : 0 ≤ w.value ∧ w.value ≤ 1000000) : putD w.key w.value (w.value == 0) (storeL v) = storeL (putV v w) := by
  have hv2 : ValsOk (putV v w) := applyW_ok [w] v hv fun y hy => by rw [List.mem_singleton.1 hy]; exact ⟨hk, hx⟩
  obtain ⟨h1, h2⟩ := putD_ok hk hx (storeL_valid hv)
  refine store_ext (last := -1) h1 (storeL_valid hv2) fun j h3 h4 => ?_
  rw [h2 j, storeL_at hv j (by omega), storeL_at hv2 j (by omega)]
  unfold valK putV
  rw [List.getD_eq_getElem?_getD (l := v.set _ _), List.getElem?_set]
  by_cases hj : j = w.key
  · subst hj
    rw [if_pos rfl, if_pos rfl, if_pos (by rw [hv.1]; omega)]; rfl
  · rw [if_neg hj, if_neg (by omega), ← List.getD_eq_getElem?_getD]

/-- A store with entries put. -/
def applyS (s : List Entry) (ws : List Entry) : List Entry := ws.foldl (fun s w => putD w.key w.value (w.value == 0) s) s

theorem applyS_storeL : ∀ (ws : List Entry) {v : List Int}, ValsOk v → WritesOk ws → applyS (storeL v) ws = storeL (applyW v ws)
  | [], v, _, _ => rfl
  | w :: ws, v, hv, hw => by
    have h1 := hw w (List.mem_cons_self ..)
    show applyS (putD w.key w.value (w.value == 0) (storeL v)) ws = _
    rw [put_storeL hv h1.1 h1.2]
    exact applyS_storeL ws (applyW_ok [w] v hv fun y hy => by rw [List.mem_singleton.1 hy]; exact h1) fun y hy => hw y (List.mem_cons_of_mem _ hy)

end Go.Proofs.YthcfafpjkbbaoaaGreat

/- Contracts: the reference's serial runs. -/
set_option linter.unusedSimpArgs false
set_option linter.unusedVariables false
set_option maxRecDepth 20000
set_option maxHeartbeats 4000000
namespace Go.Proofs.YthcfafpjkbbaoaaGreat
open Go Go.RowKit

theorem storeAt_bd {s : List Entry} (h : storeValid s = true) (k : Int) : 0 ≤ valAt s k ∧ valAt s k ≤ 1000000 := by
  obtain ⟨h1, _⟩ := entOk_spec 1 s (-1) h
  exact valAt_bd (fun e he => by have := h1 e he; omega) k

/-- An action on a store. -/
def runAction (s : List Entry) (a : Action) : Effect := if storeValid s && actionValid a then runX a (valAt s a.fr) (valAt s a.to) else ⟨false, [], []⟩

theorem c_spec_RunAction (n1 : Option Bool) (s : List Entry) (a : Action) (hs : s.length < 2 ^ 32) : Det Tryz.prog 181 [.sl n1 (rows encE s), .agg (encA a)] (.agg (encFO (runAction s a))) := by
  refine fspec_det tab_ok Tryz.call181 Tryz.func181 rfl 24 Tryz.ntmps181 (of_decide_eq_true rfl) fun B => codeK_sound tab_ok _ _ _ ?_
  unfold runAction
  simp (config := { maxSteps := 4000000 }) only [go_sem, simprocAttr, ↓dnA, Tryz.f181, rows_length, encA]
  refine CallTo.det (c_spec_StoreValid n1 s (by omega)) fun _ => ?_
  cases h1 : storeValid s with
  | false => simp (config := { maxSteps := 4000000 }) only [go_sem, simprocAttr, ↓dnA, Tryz.f181, rows_length, encA, h1, encFO, rows_nil]
  | true =>
    simp (config := { maxSteps := 4000000 }) only [go_sem, simprocAttr, ↓dnA, Tryz.f181, rows_length, encA, h1]
    refine CallTo.det (c_spec_ActionValid a) fun _ => ?_
    cases h2 : actionValid a with
    | false => simp (config := { maxSteps := 4000000 }) only [go_sem, simprocAttr, ↓dnA, Tryz.f181, rows_length, encA, h1, h2, encFO, rows_nil]
    | true =>
      simp (config := { maxSteps := 4000000 }) only [go_sem, simprocAttr, ↓dnA, Tryz.f181, rows_length, encA, h1, h2]
      refine semL_draw tab_ok mixed_ rfl (ord := [(0, []), (1, []), (2, []), (3, []), (5, []), (6, []), (7, []), (4, [0, 5, 6, 7]), (8, [0]), (9, []), (10, [])]) (by dsimp only; decide +kernel) ?_
      simp (config := { maxSteps := 4000000 }) only [go_sem, simprocAttr, ↓dnA, Tryz.f181, rows_length, encA, h1, h2]
      refine CallTo.det (c_spec_l2At n1 s _ (by omega)) fun _ => ?_
      simp (config := { maxSteps := 4000000 }) only [go_sem, simprocAttr, ↓dnA, Tryz.f181, rows_length, encA, h1, h2]
      refine CallTo.det (c_spec_l2At n1 s _ (by omega)) fun _ => ?_
      simp (config := { maxSteps := 4000000 }) only [go_sem, simprocAttr, ↓dnA, Tryz.f181, rows_length, encA, h1, h2]
      refine CallTo.det (c_spec_l6Run a _ _ h2 (storeAt_bd h1 _) (storeAt_bd h1 _)) fun _ => ?_
      simp (config := { maxSteps := 4000000 }) only [go_sem, simprocAttr, ↓dnA, Tryz.f181, rows_length, encA, h1, h2, encFO]

/-- A store with an effect's entries put. -/
def applyEffect (s : List Entry) (ws : List Entry) : List Entry := if storeValid s && entOk 0 (-1) ws then applyS s ws else []

theorem applyS_take (s ws : List Entry) (i : Nat) (h : i < ws.length) : applyS s (ws.take (i + 1)) = putD ws[i].key ws[i].value (ws[i].value == 0) (applyS s (ws.take i)) := by
  unfold applyS
  rw [take_snoc _ _ h, List.foldl_append]
  rfl

theorem entOk_len {lo : Int} : ∀ {s : List Entry} {last : Int}, -1 ≤ last → entOk lo last s = true → s = [] ∨ (s.length : Int) ≤ 31 - last
  | [], _, _, _ => .inl rfl
  | e :: r, last, hl, h => by
    rw [entOk_cons] at h
    rcases entOk_len (by omega) h.2.2 with e1 | e1
    · subst e1; right; simp only [List.length_cons, List.length_nil]; omega
    · right; rw [List.length_cons]; omega
theorem store_len {s : List Entry} (h : storeValid s = true) : s.length ≤ 32 := by
  rcases entOk_len (by omega) h with e | e
  · subst e; simp
  · omega

theorem applyS_valid : ∀ (ws : List Entry) {s : List Entry}, storeValid s = true → WritesOk ws → storeValid (applyS s ws) = true
  | [], s, h, _ => h
  | w :: ws, s, h, hw => by
    have h1 := hw w (List.mem_cons_self ..)
    exact applyS_valid ws (putD_ok h1.1 h1.2 h).1 fun y hy => hw y (List.mem_cons_of_mem _ hy)

theorem c_spec_ApplyEffect (n1 n2 n3 : Option Bool) (s : List Entry) (e : Effect) (hs : s.length ≤ 32) (hw : e.writes.length ≤ 2 ^ 20) : Det Tryz.prog 182 [.sl n1 (rows encE s), .agg (encF n2 n3 e)] (.osl true 2 (rows encE (applyEffect s e.writes))) := by
  refine fspec_det tab_ok Tryz.call182 Tryz.func182 rfl 42 Tryz.ntmps182 (of_decide_eq_true rfl) fun B => codeK_sound tab_ok _ _ _ ?_
  unfold applyEffect
  simp (config := { maxSteps := 4000000 }) only [go_sem, simprocAttr, ↓dnA, Tryz.f182, rows_length, encF]
  refine CallTo.det (c_spec_StoreValid n1 s (by omega)) fun _ => ?_
  cases h1 : storeValid s with
  | false => simp (config := { maxSteps := 4000000 }) only [go_sem, simprocAttr, ↓dnA, Tryz.f182, rows_length, encF, h1, rows_nil]
  | true =>
    simp (config := { maxSteps := 4000000 }) only [go_sem, simprocAttr, ↓dnA, Tryz.f182, rows_length, encF, h1]
    refine CallTo.det (c_spec_l4Writes n3 e.writes (by omega)) fun _ => ?_
    cases h2 : entOk 0 (-1) e.writes with
    | false => simp (config := { maxSteps := 4000000 }) only [go_sem, simprocAttr, ↓dnA, Tryz.f182, rows_length, encF, h1, h2, rows_nil]
    | true =>
      have ha := all_rows encE AV.flat (fun _ => rfl) s
      have hb := all_rows encE AV.one (fun _ => rfl) s
      have hc := sz0_rows encE 2 (fun _ => rfl) s
      simp (config := { maxSteps := 4000000 }) only [go_sem, simprocAttr, ↓dnA, Tryz.f182, rows_length, encF, h1, h2]
      repeat refine And.intro (by first | omega | (simp; done) | (simp; omega) | assumption) ?_
      have hW : WritesOk e.writes := fun w hw => by have := (entOk_spec 0 e.writes (-1) h2).1 w hw; omega
      refine semL_for tab_ok (fun i : Nat => ⟨42, [(3, .loc 3 0), (5, .row 600 (applyS s (e.writes.take i)).length), (6, .int .i64 i)],
          [(3, .var [.bool e.done, .sl n2 (rows encE e.reads), .sl n3 (rows encE e.writes)]), (600, .row true true 2 (rows encE (applyS s (e.writes.take i))))]⟩) (fun i => e.writes.length - i)
        (fun i => i ≤ e.writes.length) 0 [(3, 3), (19, 600)] (Weak.of (by rfl) ?_ ?_ (by rfl)) (by omega) ?_
      · simp (config := { maxSteps := 4000000 }) only [go_sem, simprocAttr, ↓dnA, Tryz.f182, rows_length, encF, frW, wk2, wk1, wkL, wkB, hpW, List.mem_cons, Prod.mk.injEq, exists_eq_left, exists_eq_right, exists_eq]
        rfl
      · simp (config := { maxSteps := 4000000 }) only [go_sem, simprocAttr, ↓dnA, Tryz.f182, rows_length, encF, frW, wk2, wk1, wkL, wkB, hpW, List.mem_cons, Prod.mk.injEq, exists_eq_left, exists_eq_right, exists_eq]
        rfl
      · rintro i hi
        by_cases h : i < e.writes.length
        · have hv := applyS_valid (e.writes.take i) h1 fun w hw => hW w (List.mem_of_mem_take hw)
          have hl := store_len hv
          have hst := applyS_take s e.writes i h
          have hw : IntKind.i64.wrap ((i : Int) + 1) = ((i + 1 : Nat) : Int) := wsucc h (by omega)
          generalize applyS s (e.writes.take i) = u at hl hst
          have htk : (rows encE u).take u.length = rows encE u := by rw [List.take_of_length_le]; rw [rows_length]; omega
          simp (config := { maxSteps := 4000000 }) only [go_sem, simprocAttr, ↓dnA, Tryz.f182, rows_length, nlt h, h, rows_get _ _ _ h, encE, nn0]
          refine semL_drawL tab_ok 14 mixed_ rfl (ord := [(0, []), (1, []), (2, []), (3, []), (4, []), (5, []), (6, []), (7, []), (8, []), (9, []), (10, []), (11, []), (12, []), (13, [])]) (by dsimp only; decide +kernel) ?_
          simp (config := { maxSteps := 4000000 }) only [go_sem, simprocAttr, ↓dnA, Tryz.f182, rows_length, nlt h, h, rows_get _ _ _ h, encE, nn0, htk, hw]
          repeat refine And.intro (by first | omega | (simp; done) | (simp; omega) | assumption) ?_
          refine CallTo.det (c_spec_l2Put _ u _ _ (by omega)) fun _ => ?_
          simp (config := { maxSteps := 4000000 }) only [go_sem, simprocAttr, ↓dnA, Tryz.f182, rows_length, nlt h, h, rows_get _ _ _ h, encE, nn0, htk, hw]
          refine ⟨i + 1, [(3, 3), (41000, 600)], by omega, by dsimp only; omega, Weak.of (by rfl) ?_ ?_ (by rfl)⟩
          · simp (config := { maxSteps := 4000000 }) only [go_sem, simprocAttr, ↓dnA, Tryz.f182, rows_length, hst, frW, wk2, wk1, wkL, wkB, hpW, List.mem_cons, Prod.mk.injEq, exists_eq_left, exists_eq_right, exists_eq]
          · simp (config := { maxSteps := 4000000 }) only [go_sem, simprocAttr, ↓dnA, Tryz.f182, rows_length, hst, frW, wk2, wk1, wkL, wkB, hpW, List.mem_cons, Prod.mk.injEq, exists_eq_left, exists_eq_right, exists_eq]
        · have hi' : i = e.writes.length := by omega
          subst hi'
          simp (config := { maxSteps := 4000000 }) only [go_sem, simprocAttr, ↓dnA, Tryz.f182, rows_length, nlf h, List.take_length]

theorem runE_ent {a : Action} {v : List Int} (ha : ActOk a) (hv : ValsOk v) : entOk 0 (-1) (runE a v).writes = true := by
  have hW := runE_writesOk ha hv
  have hs : ∀ k x : Int, (⟨k, x⟩ : Entry) ∈ (runE a v).writes → (-1 < k ∧ k ≤ 31) ∧ 0 ≤ x ∧ x ≤ 1000000 := fun k x h => by have := hW _ h; dsimp only at this; omega
  have hfr := ha.fr
  have hto := ha.to
  unfold runE at hs ⊢
  dsimp only at hs ⊢
  split
  · rename_i hd
    rw [if_pos hd] at hs
    unfold writesA at hs ⊢
    split
    · rename_i hk
      rw [if_pos hk] at hs
      rw [List.map_cons, List.map_nil] at hs ⊢
      rw [entOk_cons]
      have := hs _ _ (List.mem_cons_self ..)
      exact ⟨this.1, this.2, rfl⟩
    · rename_i hk
      rw [if_neg hk] at hs
      split
      · rename_i hk2
        rw [if_pos hk2] at hs
        rw [List.map_cons, List.map_nil] at hs ⊢
        rw [entOk_cons]
        have := hs _ _ (List.mem_cons_self ..)
        exact ⟨this.1, this.2, rfl⟩
      · rename_i hk2
        rw [if_neg hk2] at hs
        rw [List.map_cons, List.map_cons, List.map_nil] at hs ⊢
        rw [entOk_cons, entOk_cons]
        have h1 := hs _ _ (List.mem_cons_self ..)
        have h2 := hs _ _ (List.mem_cons_of_mem _ (List.mem_cons_self ..))
        exact ⟨h1.1, h1.2, ⟨by dsimp only; omega, h2.1.2⟩, h2.2, rfl⟩
  · rfl

theorem runAction_eq {a : Action} {u : List Int} (ha : actionValid a = true) (hu : ValsOk u) : runAction (storeL u) a = runE a u := by
  have hA := actOk_of ha
  have hfr := hA.fr
  have hto := hA.to
  unfold runAction
  rw [storeL_valid hu, ha, Bool.true_and, if_pos rfl, runE_eq, storeL_at hu _ hfr.1, storeL_at hu _ hto.1]

theorem applyEffect_eq {a : Action} {u : List Int} (ha : actionValid a = true) (hu : ValsOk u) : applyEffect (storeL u) (runE a u).writes = storeL (applyW u (runE a u).writes) := by
  unfold applyEffect
  rw [storeL_valid hu, runE_ent (actOk_of ha) hu, Bool.true_and, if_pos rfl]
  exact applyS_storeL _ hu (runE_writesOk (actOk_of ha) hu)

theorem runE_wlen (a : Action) (v : List Int) : (runE a v).writes.length ≤ 2 := by
  unfold runE
  dsimp only
  split
  · rw [List.length_map]; exact writesA_len _
  · simp

theorem c_spec_RunSerial (n1 n2 : Option Bool) (s : List Entry) (l : List Action) (hs : s.length < 2 ^ 32) (hl : l.length < 2 ^ 32) :
    Det Tryz.prog 149 [.sl n1 (rows encE s), .sl n2 (rows encA l)] (.tup [.osl true 2 (rows encE (runSerial s l).1), .osl true 3 (rows encF1 (runSerial s l).2)]) := by
  refine fspec_det tab_ok Tryz.call149 Tryz.func149 rfl 45 Tryz.ntmps149 (of_decide_eq_true rfl) fun B => codeK_sound tab_ok _ _ _ ?_
  unfold runSerial
  simp (config := { maxSteps := 4000000 }) only [go_sem, simprocAttr, ↓dnA, Tryz.f149, rows_length]
  refine CallTo.det (c_spec_StoreValid n1 s (by omega)) fun _ => ?_
  cases h1 : storeValid s with
  | false => simp (config := { maxSteps := 4000000 }) only [go_sem, simprocAttr, ↓dnA, Tryz.f149, rows_length, h1, rows_nil]
  | true =>
    simp (config := { maxSteps := 4000000 }) only [go_sem, simprocAttr, ↓dnA, Tryz.f149, rows_length, h1]
    refine CallTo.det (c_spec_ActionsValid n2 l (by omega)) fun _ => ?_
    cases h2 : actionsValid l with
    | false => simp (config := { maxSteps := 4000000 }) only [go_sem, simprocAttr, ↓dnA, Tryz.f149, rows_length, h1, h2, rows_nil]
    | true =>
      obtain ⟨ha, h10⟩ := actionsValid_ok h2
      have hav : ∀ a, a ∈ l → actionValid a = true := by
        unfold actionsValid at h2
        rw [Bool.and_eq_true] at h2
        exact fun a h => List.all_eq_true.1 h2.2 a h
      have hV := valuesL_ok h1
      have hsv := storeL_values h1
      have hsl := store_len h1
      have b1 := all_rows encE AV.flat (fun _ => rfl) s
      have b2 := all_rows encE AV.one (fun _ => rfl) s
      have b3 := sz0_rows encE 2 (fun _ => rfl) s
      simp (config := { maxSteps := 4000000 }) only [go_sem, simprocAttr, ↓dnA, Tryz.f149, rows_length, h1, h2]
      repeat refine And.intro (by first | omega | (simp; done) | (simp; omega) | assumption) ?_
      refine semL_for tab_ok (fun i : Nat => ⟨45, [(0, .sl n1 (rows encE s)), (1, .sl n2 (rows encA l)), (6, .row 601 i), (7, .row 600 (storeL (runAllE (valuesL s) (l.take i)).1).length), (8, .int .i64 i)],
          [(600, .row true true 2 (rows encE (storeL (runAllE (valuesL s) (l.take i)).1))), (601, .row true true 3 (rows encF1 (runAllE (valuesL s) (l.take i)).2))]⟩) (fun i => l.length - i)
        (fun i => i ≤ l.length) 0 [(23, 600), (10, 601)] (Weak.of (by rfl) ?_ ?_ (by rfl)) (by omega) ?_
      · simp (config := { maxSteps := 4000000 }) only [go_sem, simprocAttr, ↓dnA, Tryz.f149, rows_length, frW, wk2, wk1, wkL, wkB, hpW, List.mem_cons, Prod.mk.injEq, exists_eq_left, exists_eq_right, exists_eq]
        exact ⟨congrArg (rows encE) hsv, rfl⟩
      · simp (config := { maxSteps := 4000000 }) only [go_sem, simprocAttr, ↓dnA, Tryz.f149, rows_length, frW, wk2, wk1, wkL, wkB, hpW, List.mem_cons, Prod.mk.injEq, exists_eq_left, exists_eq_right, exists_eq]
        exact congrArg (fun x : List Entry => AV.row 23 x.length) hsv.symm
      · rintro i hi
        obtain ⟨hU, hL⟩ := runAllE_ok ha hV i hi
        by_cases h : i < l.length
        · have hst := runAllE_take (valuesL s) l i h
          generalize hp : runAllE (valuesL s) (l.take i) = p at hU hL hst
          obtain ⟨u, es⟩ := p
          dsimp only at hU hL
          have hai := hav _ (List.getElem_mem h)
          have hul := store_len (storeL_valid hU)
          have htk : (rows encE (storeL u)).take (storeL u).length = rows encE (storeL u) := by rw [List.take_of_length_le]; rw [rows_length]; omega
          have hte : (rows encF1 es).take i = rows encF1 es := by rw [List.take_of_length_le]; rw [rows_length, hL]; omega
          have hw : IntKind.i64.wrap ((i : Int) + 1) = ((i + 1 : Nat) : Int) := wsucc h (by omega)
          have hW := runE_wlen l[i] u
          simp (config := { maxSteps := 4000000 }) only [go_sem, simprocAttr, ↓dnA, Tryz.f149, rows_length, nlt h, h, hp, rows_get _ _ _ h, encA, nn0, htk]
          repeat refine And.intro (by first | omega | (simp; done) | (simp; omega) | assumption) ?_
          refine CallTo.det (c_spec_RunAction _ (storeL u) l[i] (by omega)) fun _ => ?_
          rw [runAction_eq hai hU]
          have he := applyEffect_eq hai hU
          have hee : encF1 (runE l[i] u) = [.bool (runE l[i] u).done, .sl none (rows encE (runE l[i] u).reads), .sl none (rows encE (runE l[i] u).writes)] := rfl
          have hs2 : runAllE (valuesL s) (l.take (i + 1)) = (applyW u (runE l[i] u).writes, es ++ [runE l[i] u]) := by rw [hst]; rfl
          generalize runE l[i] u = r at hs2 hW he hee
          simp (config := { maxSteps := 4000000 }) only [go_sem, simprocAttr, ↓dnA, Tryz.f149, rows_length, nlt h, h, hp, rows_get _ _ _ h, encA, encFO, nn0, htk]
          refine CallTo.det (c_spec_ApplyEffect _ none none (storeL u) r hul (by omega)) fun _ => ?_
          rw [he]
          simp (config := { maxSteps := 4000000 }) only [go_sem, simprocAttr, ↓dnA, Tryz.f149, rows_length, nlt h, h, hp, rows_get _ _ _ h, encA, encFO, nn0, htk, hte, hL, hw]
          repeat refine And.intro (by first | omega | (simp; done) | (simp; omega) | assumption) ?_
          refine ⟨i + 1, [(39000, 600), (42, 601)], by omega, by dsimp only; omega, Weak.of (by rfl) ?_ ?_ (by rfl)⟩
          · simp (config := { maxSteps := 4000000 }) only [go_sem, simprocAttr, ↓dnA, Tryz.f149, rows_length, hs2, ← rows_snoc, hee, frW, wk2, wk1, wkL, wkB, hpW, List.mem_cons, Prod.mk.injEq, exists_eq_left, exists_eq_right, exists_eq]
          · simp (config := { maxSteps := 4000000 }) only [go_sem, simprocAttr, ↓dnA, Tryz.f149, rows_length, hs2, frW, wk2, wk1, wkL, wkB, hpW, List.mem_cons, Prod.mk.injEq, exists_eq_left, exists_eq_right, exists_eq]
        · have hi' : i = l.length := by omega
          subst hi'
          rw [List.take_length] at hL
          simp (config := { maxSteps := 4000000 }) only [go_sem, simprocAttr, ↓dnA, Tryz.f149, rows_length, nlf h, List.take_length]
          exact hL.symm

end Go.Proofs.YthcfafpjkbbaoaaGreat

/- Contracts: trees of one store, their copies, the values behind a block. -/
set_option linter.unusedSimpArgs false
set_option linter.unusedVariables false
set_option maxRecDepth 20000
set_option maxHeartbeats 4000000
namespace Go.Proofs.YthcfafpjkbbaoaaGreat
open Go Go.RowKit

def treeOf (s : List Entry) : Tree := if storeValid s then ⟨s, [firstBlock s], [-1]⟩ else ⟨[], [], []⟩

def encBk0 (b : Block) : List AV := [.int .i64 b.before, .int .i64 b.height, .int .i64 b.view, .sl (some false) [], .int .i64 b.root, .int .i64 b.effects]
/-- The values behind the blocks of a way. -/
def wayV (t : Tree) (v : List Int) (p : List Int) : List Int := p.foldl (fun v i => (runAllE v (t.blk i.toNat).list).1) v
def afterV (t : Tree) (n : Int) : List Int := wayV t (valuesL t.base) (pathL t n)
def storeAt (t : Tree) (n : Int) : List Entry := storeL (afterV t n)

theorem blk_acts {t : Tree} (ht : TreeOk t) {i : Nat} (hi : i < t.blocks.length) : (∀ a, a ∈ (t.blk i).list → ActOk a) ∧ (t.blk i).list.length ≤ 10 ∧ actionsValid (t.blk i).list = true := by
  have h := ht.valid i hi
  unfold blockValid at h
  rw [Bool.and_eq_true] at h
  have := actionsValid_ok h.2
  exact ⟨this.1, this.2, h.2⟩

theorem runAllE_valsOk {v : List Int} {l : List Action} (hl : ∀ a, a ∈ l → ActOk a) (hv : ValsOk v) : ValsOk (runAllE v l).1 := by
  have := runAllE_ok hl hv l.length (Nat.le_refl _)
  rw [List.take_length] at this
  exact this.1

theorem wayV_ok {t : Tree} (ht : TreeOk t) : ∀ (p : List Int) {v : List Int}, (∀ x, x ∈ p → 0 ≤ x ∧ x < t.blocks.length) → ValsOk v → ValsOk (wayV t v p)
  | [], v, _, hv => hv
  | x :: p, v, hp, hv => by
    have hx := hp x (List.mem_cons_self ..)
    exact wayV_ok ht p (fun y hy => hp y (List.mem_cons_of_mem _ hy)) (runAllE_valsOk (blk_acts ht (i := x.toNat) (by omega)).1 hv)

theorem wayV_take (t : Tree) (v : List Int) (p : List Int) (i : Nat) (h : i < p.length) : wayV t v (p.take (i + 1)) = (runAllE (wayV t v (p.take i)) (t.blk p[i].toNat).list).1 := by
  unfold wayV
  rw [take_snoc _ _ h, List.foldl_append]
  rfl

theorem c_impl_after (n1 n2 n3 : Option Bool) (t : Tree) (n : Int) (ht : TreeOk t) (hx : TreeSz t) (hn : n < t.blocks.length) :
    Det Tryz.prog 148 [.agg (encT n1 n2 n3 t), .int .i64 n] (.agg (cellsI (afterV t n))) := by
  refine fspec_det tab_ok Tryz.call148 Tryz.func148 rfl 32 Tryz.ntmps148 (of_decide_eq_true rfl) fun B => codeK_sound tab_ok _ _ _ ?_
  have hV := valuesL_ok ht.store
  have cl : (cellsI (valuesL t.base)).length = 32 := by rw [cellsI_length, hV.1]
  have hcv : (cellsI (valuesL t.base)).take 32 = cellsI (valuesL t.base) := cellsI_take _ 32 hV.1
  obtain ⟨h3, h4⟩ := entOk_spec 1 t.base (-1) ht.store
  simp (config := { maxSteps := 4000000 }) only [go_sem, simprocAttr, ↓dnA, Tryz.f148, rows_length, cellsI_impL, cellsI_impLB, encT]
  refine CallTo.det (c_impl_valuesOf n1 t.base hx.base (fun e he => by have := h3 e he; omega)) fun _ => ?_
  simp (config := { maxSteps := 4000000 }) only [go_sem, simprocAttr, ↓dnA, Tryz.f148, rows_length, cellsI_impL, cellsI_impLB, encT, cl, hcv, cellsI_one, cellsI_exp]
  repeat refine And.intro (by first | omega | (simp; done) | (simp; omega) | assumption) ?_
  refine CallTo.det (c_impl_path n1 n2 n3 t n ht hx hn) fun _ => ?_
  have hpl := pathL_len ht hn
  have hpb := pathL_bd ht hn
  have hres : afterV t n = wayV t (valuesL t.base) (pathL t n) := rfl
  rw [hres]
  generalize pathL t n = p at hpl hpb
  simp (config := { maxSteps := 4000000 }) only [go_sem, simprocAttr, ↓dnA, Tryz.f148, rows_length, cellsI_impL, cellsI_impLB, encT, cl, hcv]
  refine semL_for tab_ok (fun i : Nat => ⟨32, [(2, .loc 2 0), (4, .loc 4 0), (5, .loc 5 0), (13, .row 14000 p.length), (14, .int .i64 p.length), (15, .int .i64 i)],
      [(14000, .row true false 1 (rows encI p)), (2, .var (encT n1 n2 n3 t)), (4, .var (cellsI zeros32)), (5, .var (cellsI (wayV t (valuesL t.base) (p.take i))))]⟩) (fun i => p.length - i)
    (fun i => i ≤ p.length) 0 [(2, 2), (4, 4), (5, 5), (14000, 14000)] (Weak.of (by rfl) ?_ ?_ (by rfl)) (by omega) ?_
  · simp (config := { maxSteps := 4000000 }) only [go_sem, simprocAttr, ↓dnA, Tryz.f148, rows_length, cellsI_impL, cellsI_impLB, encT, frW, wk2, wk1, wkL, wkB, hpW, List.mem_cons, Prod.mk.injEq, exists_eq_left, exists_eq_right, exists_eq]
    exact ⟨of_eq_true (cellsI_wk _ zeros32), of_eq_true (cellsI_wk _ (valuesL t.base))⟩
  · simp (config := { maxSteps := 4000000 }) only [go_sem, simprocAttr, ↓dnA, Tryz.f148, rows_length, cellsI_impL, cellsI_impLB, encT, frW, wk2, wk1, wkL, wkB, hpW, List.mem_cons, Prod.mk.injEq, exists_eq_left, exists_eq_right, exists_eq]
  · rintro i hi
    have hU := wayV_ok ht (p.take i) (fun x hx => by have := hpb x (List.mem_of_mem_take hx); omega) hV
    have cu : (cellsI (wayV t (valuesL t.base) (p.take i))).length = 32 := by rw [cellsI_length, hU.1]
    have hcu : (cellsI (wayV t (valuesL t.base) (p.take i))).take 32 = cellsI (wayV t (valuesL t.base) (p.take i)) := cellsI_take _ 32 hU.1
    by_cases h : i < p.length
    · have hb := hpb _ (List.getElem_mem h)
      have hst := wayV_take t (valuesL t.base) p i h
      have hw : IntKind.i64.wrap ((i : Int) + 1) = ((i + 1 : Nat) : Int) := wsucc h (by omega)
      generalize wayV t (valuesL t.base) (p.take i) = u at hU cu hcu hst
      obtain ⟨k, hk⟩ : ∃ k : Nat, p[i] = (k : Int) := ⟨p[i].toNat, by omega⟩
      have hkl : k < t.blocks.length := by omega
      have hbk := t.blk_get k hkl
      obtain ⟨b1, b2, b3⟩ := blk_acts ht hkl
      have hr := runAllE_valsOk b1 hU
      rw [hk, Int.toNat_natCast] at hst
      simp (config := { maxSteps := 4000000 }) only [go_sem, simprocAttr, ↓dnA, Tryz.f148, rows_length, cellsI_impL, cellsI_impLB, nlt h, h, rows_get _ _ _ h, encI, hk, encT, nn0, hw, cu, hcu]
      refine semL_draw tab_ok mixed_ rfl (ord := [(0, []), (1, []), (2, []), (3, []), (4, []), (5, []), (6, []), (7, []), (8, []), (9, []), (10, []), (11, [10])]) (by dsimp only; decide +kernel) ?_
      simp (config := { maxSteps := 4000000 }) only [go_sem, simprocAttr, ↓dnA, Tryz.f148, rows_length, cellsI_impL, cellsI_impLB, nlt hkl, hkl, rows_get _ _ _ hkl, hbk, encB1, encBk, encT, nn0, hw, cu, hcu, cellsI_noT, cellsI_argL]
      refine CallTo.det (c_impl_runAll none u (t.blk k).list b1 b2 hU) fun _ => ?_
      generalize runAllE u (t.blk k).list = r at hr hst
      have cr : (cellsI r.1).length = 32 := by rw [cellsI_length, hr.1]
      have hcr : (cellsI r.1).take 32 = cellsI r.1 := cellsI_take _ 32 hr.1
      simp (config := { maxSteps := 4000000 }) only [go_sem, simprocAttr, ↓dnA, Tryz.f148, rows_length, cellsI_impL, cellsI_impLB, encT, nn0, hw, cu, hcu, cr, hcr, cellsI_noT, cellsI_argL, cellsI_one, cellsI_exp]
      repeat refine And.intro (by first | omega | (simp; done) | (simp; omega) | assumption) ?_
      refine ⟨i + 1, [(2, 2), (4, 4), (5, 5), (14000, 14000)], by omega, by dsimp only; omega, Weak.of (by rfl) ?_ ?_ (by rfl)⟩
      · simp (config := { maxSteps := 4000000 }) only [go_sem, simprocAttr, ↓dnA, Tryz.f148, rows_length, cellsI_impL, cellsI_impLB, encT, hst, frW, wk2, wk1, wkL, wkB, hpW, List.mem_cons, Prod.mk.injEq, exists_eq_left, exists_eq_right, exists_eq]
        exact ⟨of_eq_true (cellsI_wk _ zeros32), of_eq_true (cellsI_wk _ r.1)⟩
      · simp (config := { maxSteps := 4000000 }) only [go_sem, simprocAttr, ↓dnA, Tryz.f148, rows_length, cellsI_impL, cellsI_impLB, encT, frW, wk2, wk1, wkL, wkB, hpW, List.mem_cons, Prod.mk.injEq, exists_eq_left, exists_eq_right, exists_eq]
    · have hi' : i = p.length := by omega
      subst hi'
      rw [List.take_length] at cu hcu
      have cz : (cellsI zeros32).length = 32 := rfl
      simp (config := { maxSteps := 4000000 }) only [go_sem, simprocAttr, ↓dnA, Tryz.f148, rows_length, cellsI_impL, cellsI_impLB, nlf h, List.take_length, cu, hcu, cz, cellsI_exp, cellsI_rw, cellsI_one]


/-- The store behind a block of a tree; none where there is no such block. -/
noncomputable def storeOf (t : Tree) (n : Int) : List Entry := if treeValid t && inB n 0 ((t.blocks.length : Int) - 1) then storeAt t n else []

theorem afterV_ok {t : Tree} (ht : TreeOk t) {n : Int} (hn : n < t.blocks.length) : ValsOk (afterV t n) :=
  wayV_ok ht _ (fun x hx => by have := pathL_bd ht hn x hx; omega) (valuesL_ok ht.store)

theorem c_impl_StoreOf (n1 n2 n3 : Option Bool) (t : Tree) (n : Int) (hx : TreeSz t) :
    Det Tryz.prog 89 [.agg (encT n1 n2 n3 t), .int .i64 n] (.osl false 2 (rows encE (storeOf t n))) := by
  refine fspec_det tab_ok Tryz.call89 Tryz.func89 rfl 18 Tryz.ntmps89 (of_decide_eq_true rfl) fun B => codeK_sound tab_ok _ _ _ ?_
  unfold storeOf
  simp (config := { maxSteps := 4000000 }) only [go_sem, simprocAttr, ↓dnA, Tryz.f89, rows_length, cellsI_impL, cellsI_impLB, encT]
  refine CallTo.det (c_impl_BlockTreeValid n1 n2 n3 t hx) fun _ => ?_
  cases h1 : treeValid t with
  | false => simp (config := { maxSteps := 4000000 }) only [go_sem, simprocAttr, ↓dnA, Tryz.f89, rows_length, cellsI_impL, cellsI_impLB, encT, h1, rows_nil]
  | true =>
    simp (config := { maxSteps := 4000000 }) only [go_sem, simprocAttr, ↓dnA, Tryz.f89, rows_length, cellsI_impL, cellsI_impLB, encT, h1]
    refine CallTo.det (c_impl_has n1 n2 n3 t n hx) fun _ => ?_
    cases h2 : inB n 0 ((t.blocks.length : Int) - 1) with
    | false => simp (config := { maxSteps := 4000000 }) only [go_sem, simprocAttr, ↓dnA, Tryz.f89, rows_length, cellsI_impL, cellsI_impLB, encT, h1, h2, rows_nil]
    | true =>
      have hb := inB_iff.1 h2
      have ht := treeOk_of h1
      have hV := afterV_ok ht (n := n) (by omega)
      have cu : (cellsI (afterV t n)).length = 32 := by rw [cellsI_length, hV.1]
      have hcu : (cellsI (afterV t n)).take 32 = cellsI (afterV t n) := cellsI_take _ 32 hV.1
      simp (config := { maxSteps := 4000000 }) only [go_sem, simprocAttr, ↓dnA, Tryz.f89, rows_length, cellsI_impL, cellsI_impLB, encT, h1, h2]
      refine CallTo.det (c_impl_after n1 n2 n3 t n ht hx (by omega)) fun _ => ?_
      simp (config := { maxSteps := 4000000 }) only [go_sem, simprocAttr, ↓dnA, Tryz.f89, rows_length, cellsI_impL, cellsI_impLB, encT, h1, h2, cu, hcu, cellsI_noT, cellsI_argL]
      refine CallTo.det (c_impl_store (afterV t n) hV) fun _ => ?_
      simp (config := { maxSteps := 4000000 }) only [go_sem, simprocAttr, ↓dnA, Tryz.f89, rows_length, cellsI_impL, cellsI_impLB, encT, h1, h2, storeAt]

end Go.Proofs.YthcfafpjkbbaoaaGreat

/- Contracts: the reference's store behind a block. -/
set_option linter.unusedSimpArgs false
set_option linter.unusedVariables false
set_option maxRecDepth 20000
set_option maxHeartbeats 4000000
namespace Go.Proofs.YthcfafpjkbbaoaaGreat
open Go Go.RowKit

theorem values_storeL {v : List Int} (h : ValsOk v) : valuesL (storeL v) = v := by
  have hs := storeL_valid h
  apply List.ext_getElem?
  intro k
  by_cases hk : k < 32
  · obtain ⟨h1, h2⟩ := valuesL_get hs k hk
    have h3 := storeL_at h (k : Int) (by omega)
    rw [← h2] at h3
    unfold valK at h3
    rw [Int.toNat_natCast] at h3
    rw [List.getElem?_eq_getElem (by rw [h1]; exact hk), List.getElem?_eq_getElem (by rw [h.1]; exact hk)]
    rw [List.getD_eq_getElem?_getD, List.getD_eq_getElem?_getD, List.getElem?_eq_getElem (by rw [h1]; exact hk), List.getElem?_eq_getElem (by rw [h.1]; exact hk)] at h3
    exact congrArg some h3
  · have h1 := (valuesL_get hs 0 (by omega)).1
    rw [List.getElem?_eq_none (by rw [h1]; omega), List.getElem?_eq_none (by rw [h.1]; omega)]

theorem runSerial_storeL {v : List Int} {l : List Action} (h : ValsOk v) (hl : actionsValid l = true) : (runSerial (storeL v) l).1 = storeL (runAllE v l).1 := by
  unfold runSerial
  rw [storeL_valid h, hl, values_storeL h]
  rfl

theorem c_spec_StoreOf (n1 n2 n3 : Option Bool) (t : Tree) (n : Int) (hx : TreeS32 t) :
    Det Tryz.prog 92 [.agg (encT n1 n2 n3 t), .int .i64 n] (.osl false 2 (rows encE (storeOf t n))) := by
  refine fspec_det tab_ok Tryz.call92 Tryz.func92 rfl 43 Tryz.ntmps92 (of_decide_eq_true rfl) fun B => codeK_sound tab_ok _ _ _ ?_
  have hpn := pathTo_len t n
  simp (config := { maxSteps := 4000000 }) only [go_sem, simprocAttr, ↓dnA, Tryz.f92, rows_length, encT]
  refine CallTo.det (c_spec_PathTo n1 n2 n3 t n hx.sz) fun _ => ?_
  by_cases hok : treeValid t = true ∧ 0 ≤ n ∧ n < t.blocks.length
  · obtain ⟨h0, hn0, hn⟩ := hok
    have ht := treeOk_of h0
    have hp0 : pathTo t n = pathL t n := pathTo_in h0 hn0 hn
    have hso : storeOf t n = storeL (wayV t (valuesL t.base) (pathL t n)) := by
      unfold storeOf
      rw [h0, inB_iff.2 (by omega)]
      rfl
    have hbd := pathL_bd ht hn
    have hpl := pathL_len ht hn
    have hpos : 0 < (pathL t n).length := by
      unfold pathL
      obtain ⟨k, rfl⟩ : ∃ k : Nat, n = (k : Int) := ⟨n.toNat, by omega⟩
      rw [List.length_reverse, (back_cons ht k (by omega)).1, List.length_cons]
      omega
    rw [hp0, hso]
    generalize pathL t n = p at hbd hpl hpos
    have hV := valuesL_ok ht.store
    have hsv := storeL_values ht.store
    have hsl := store_len ht.store
    have b1 := all_rows encE AV.flat (fun _ => rfl) t.base
    have b2 := all_rows encE AV.one (fun _ => rfl) t.base
    have b3 := sz0_rows encE 2 (fun _ => rfl) t.base
    have hgt : decide ((p.length : Int) > 0) = true := by simp; omega
    simp (config := { maxSteps := 4000000 }) only [go_sem, simprocAttr, ↓dnA, Tryz.f92, rows_length, encT, hgt]
    repeat refine And.intro (by first | omega | (simp; done) | (simp; omega) | assumption) ?_
    refine semL_for tab_ok (fun i : Nat => ⟨43, [(2, .loc 2 0), (5, .row 13000 p.length), (6, .row 600 (storeL (wayV t (valuesL t.base) (p.take i))).length), (7, .int .i64 i)],
        [(2, .var (encT n1 n2 n3 t)), (13000, .row true true 1 (rows encI p)), (600, .row true true 2 (rows encE (storeL (wayV t (valuesL t.base) (p.take i)))))]⟩) (fun i => p.length - i)
      (fun i => i ≤ p.length) 0 [(2, 2), (13000, 13000), (20, 600)] (Weak.of (by rfl) ?_ ?_ (by rfl)) (by omega) ?_
    · simp (config := { maxSteps := 4000000 }) only [go_sem, simprocAttr, ↓dnA, Tryz.f92, rows_length, encT, frW, wk2, wk1, wkL, wkB, hpW, List.mem_cons, Prod.mk.injEq, exists_eq_left, exists_eq_right, exists_eq]
      exact congrArg (rows encE) hsv
    · simp (config := { maxSteps := 4000000 }) only [go_sem, simprocAttr, ↓dnA, Tryz.f92, rows_length, frW, wk2, wk1, wkL, wkB, hpW, List.mem_cons, Prod.mk.injEq, exists_eq_left, exists_eq_right, exists_eq]
      exact congrArg (fun x : List Entry => AV.row 20 x.length) hsv.symm
    · rintro i hi
      have hU := wayV_ok ht (p.take i) (fun x hx => by have := hbd x (List.mem_of_mem_take hx); omega) hV
      by_cases h : i < p.length
      · have hb := hbd _ (List.getElem_mem h)
        have hst := wayV_take t (valuesL t.base) p i h
        have hw : IntKind.i64.wrap ((i : Int) + 1) = ((i + 1 : Nat) : Int) := wsucc h (by omega)
        generalize wayV t (valuesL t.base) (p.take i) = u at hU hst
        obtain ⟨k, hk⟩ : ∃ k : Nat, p[i] = (k : Int) := ⟨p[i].toNat, by omega⟩
        have hkl : k < t.blocks.length := by omega
        have hbk := t.blk_get k hkl
        obtain ⟨a1, a2, a3⟩ := blk_acts ht hkl
        have hul := store_len (storeL_valid hU)
        rw [hk, Int.toNat_natCast] at hst
        simp (config := { maxSteps := 4000000 }) only [go_sem, simprocAttr, ↓dnA, Tryz.f92, rows_length, encT, nlt h, h, rows_get _ _ _ h, encI, hk, nn0]
        refine semL_draw tab_ok mixed_ rfl (ord := [(0, []), (1, []), (2, []), (3, []), (4, []), (5, []), (6, []), (7, []), (8, []), (9, []), (10, []), (11, []), (12, []), (13, []), (14, []), (15, [])]) (by dsimp only; decide +kernel) ?_
        simp (config := { maxSteps := 4000000 }) only [go_sem, simprocAttr, ↓dnA, Tryz.f92, rows_length, encT, nlt h, h, rows_get _ _ _ h, encI, hk, nn0, nlt hkl, hkl, rows_get _ _ _ hkl, hbk, encB1, encBk]
        refine CallTo.det (c_spec_RunSerial _ none (storeL u) (t.blk k).list (by omega) (by omega)) fun _ => ?_
        have hrs := runSerial_storeL hU a3
        rw [← hst] at hrs
        generalize runSerial (storeL u) (t.blk k).list = r at hrs
        obtain ⟨r1, r2⟩ := r
        dsimp only at hrs
        subst hrs
        simp (config := { maxSteps := 4000000 }) only [go_sem, simprocAttr, ↓dnA, Tryz.f92, rows_length, encT, nlt h, h, rows_get _ _ _ h, encI, hk, nn0, nlt hkl, hkl, rows_get _ _ _ hkl, hbk, encB1, encBk, hw]
        refine ⟨i + 1, [(2, 2), (13000, 13000), (39000, 600)], by omega, by dsimp only; omega, Weak.of (by rfl) ?_ ?_ (by rfl)⟩
        · simp (config := { maxSteps := 4000000 }) only [go_sem, simprocAttr, ↓dnA, Tryz.f92, rows_length, encT, frW, wk2, wk1, wkL, wkB, hpW, List.mem_cons, Prod.mk.injEq, exists_eq_left, exists_eq_right, exists_eq]
        · simp (config := { maxSteps := 4000000 }) only [go_sem, simprocAttr, ↓dnA, Tryz.f92, rows_length, encT, frW, wk2, wk1, wkL, wkB, hpW, List.mem_cons, Prod.mk.injEq, exists_eq_left, exists_eq_right, exists_eq]
      · have hi' : i = p.length := by omega
        subst hi'
        simp (config := { maxSteps := 4000000 }) only [go_sem, simprocAttr, ↓dnA, Tryz.f92, rows_length, encT, nlf h, List.take_length]
  · have hp0 : pathTo t n = [] := by unfold pathTo; rw [if_neg hok]
    have hso : storeOf t n = [] := by
      unfold storeOf
      cases h1 : treeValid t with
      | false => rfl
      | true =>
        cases h2 : inB n 0 ((t.blocks.length : Int) - 1) with
        | false => rfl
        | true =>
          have := inB_iff.1 h2
          exact absurd ⟨h1, by omega, by omega⟩ hok
    rw [hp0, hso]
    simp (config := { maxSteps := 4000000 }) only [go_sem, simprocAttr, ↓dnA, Tryz.f92, rows_length, encT, rows_nil, List.length_nil]
    refine semL_for tab_ok (fun _ : Nat => ⟨43, [(5, .row 13000 0), (6, .row 600 0), (7, .int .i64 0)],
        [(13000, .row true true 1 []), (600, .row true true 2 [])]⟩) (fun i => i) (fun _ => True) 0 [(13000, 13000), (13, 600)] (Weak.of (by rfl) ?_ ?_ (by rfl)) trivial ?_
    · simp (config := { maxSteps := 4000000 }) only [go_sem, simprocAttr, ↓dnA, Tryz.f92, rows_length, frW, wk2, wk1, wkL, wkB, hpW, List.mem_cons, Prod.mk.injEq, exists_eq_left, exists_eq_right, exists_eq]
      try rfl
    · simp (config := { maxSteps := 4000000 }) only [go_sem, simprocAttr, ↓dnA, Tryz.f92, rows_length, frW, wk2, wk1, wkL, wkB, hpW, List.mem_cons, Prod.mk.injEq, exists_eq_left, exists_eq_right, exists_eq]
    · rintro i -
      simp (config := { maxSteps := 4000000 }) only [go_sem, simprocAttr, ↓dnA, Tryz.f92, rows_length, rows_nil, List.length_nil]

end Go.Proofs.YthcfafpjkbbaoaaGreat

/- slices.Grow of nil. -/
set_option linter.unusedSimpArgs false
set_option linter.unusedVariables false
set_option maxRecDepth 100000
set_option maxHeartbeats 4000000
namespace Go.Proofs.YthcfafpjkbbaoaaGreat
open Go Go.RowKit

theorem w_Grow (n : Nat) (w : World) (hn : n ≤ 1000000) : ∃ z : Value, z.cells.size = 2 ∧ Calls Tryz.prog 196 #[.slice none 0 0, .int .i64 n] w fun e w' =>
    (n = 0 ∧ e = .returned (.slice none 0 0) ∧ w' = w) ∨
    (0 < n ∧ e = .returned (.slice (some ⟨w.heap.size, 0, none⟩) 0 (grownCap w n 0 132)) ∧
      w' = w.drew.alloc (.cells ((#[] : Array Value) ++ Builtin.zeroCells z.cells n ++ Builtin.zeroCells z.cells (grownCap w n 0 132 - n)) 132)) := by
  have he : elemInfo tab 23 = some ((elemInfo tab 23).get (by decide +kernel)) := (Option.some_get _).symm
  obtain ⟨e, nf, d, z, hue, ok⟩ := elemInfo_und tab_ok he
  have hs : nf.size = 2 := ok.size.trans (by decide +kernel)
  have hb : nf.bytes = 16 := ok.bytes.trans (by decide +kernel)
  have hzs : z.cells.size = 2 := ok.zs.trans (by decide +kernel)
  obtain rfl : e = 132 := by
    have h2 : Tryz.prog.underlying 23 = some (.slice 132) := Tryz.underlying23
    rw [h2] at hue
    cases hue; rfl
  have hi := ok.info
  have hz := ok.zero
  refine ⟨z, hzs, ?_⟩
  rcases Nat.eq_zero_or_pos n with rfl | hp
  · refine Calls.mono (R := fun e w' => e = .returned (.slice none 0 0) ∧ w' = w) ?_ (fun e w' h => .inl ⟨rfl, h.1, h.2⟩)
    go_enter Tryz.func196, Tryz.ntmps196
    go_wp2
    go_ret
    exact ⟨rfl, rfl⟩
  · have hold : (Builtin.firstCells nf.size 0 (.slice none 0 0)).run Tryz.prog w.drew = .ok ([] : List Value).toArray w.drew := run_firstCells_none w.drew nf.size 0 0 0
    have hrz : ∀ ty, (Builtin.append_ #[23, 3] ty #[.slice none 0 0, .int .i64 (n : Int)]).run Tryz.prog w =
        .ok (.slice (some ⟨w.heap.size, 0, none⟩) (0 + n) (grownCap w (0 + n) 0 132)) (w.drew.alloc (.cells (([] : List Value).toArray ++ Builtin.zeroCells z.cells n ++ Builtin.zeroCells z.cells (grownCap w (0 + n) 0 132 - (0 + n))) 132)) := fun ty =>
      Lib.run_append_grow_zeros w 23 3 ty 132 nf z .i64 .i64 hue Tryz.underlying3 hi hz none 0 0 [] hold n hp (by omega) (by omega) (by omega) (by rw [hb]; omega) (growslice_fits (by omega) (by rw [hb]; omega))
    rw [Nat.zero_add] at hrz
    have hGn : n ≤ grownCap w n 0 132 := grownCap_ge w _ _ _
    refine Calls.mono (R := fun e w' => e = .returned (.slice (some ⟨w.heap.size, 0, none⟩) 0 (grownCap w n 0 132)) ∧ w' = w.drew.alloc (.cells ((#[] : Array Value) ++ Builtin.zeroCells z.cells n ++ Builtin.zeroCells z.cells (grownCap w n 0 132 - n)) 132)) ?_ (fun e w' h => .inr ⟨hp, h.1, h.2⟩)
    obtain ⟨G, hG⟩ : ∃ G, G = grownCap w n 0 132 := ⟨_, rfl⟩
    rw [← hG] at hrz hGn ⊢
    have hG63 : G ≤ 9223372036854775807 := by
      have := grownCap_le_maxLen w n 0 132 (by unfold maxLen; omega)
      rw [← hG] at this
      unfold maxLen at this
      omega
    have h1 : ¬ ((n : Int) < 0) := by omega
    have h2 : wrap64 (n : Int) = (n : Int) := by unfold wrap64; omega
    have h4 : (n : Int) > 0 := by omega
    clear hold hG
    go_enter Tryz.func196, Tryz.ntmps196
    go_wp2_with (at_builtin; refine Lib.wpList_append_run _ rfl _ _ _ _ rfl _ _ rfl rfl _ _ (hrz _) ?_)
    all_goals (go_ret; exact ⟨rfl, rfl⟩)

theorem c_Grow (n : Nat) (hn : n ≤ 1000000) : Det Tryz.prog 196 [.sl (some false) [], .int .i64 n] (.osl false 2 []) := by
  refine ⟨Tryz.call196, fun w S vs b BF hl ha _ _ => ?_⟩
  have hv : vs = #[.slice none 0 0, .int .i64 n] := by
    have h0 := ha 0 (by simp)
    have h1 := ha 1 (by simp)
    have e0 : vs.getD 0 undef = .slice none 0 0 := by
      rcases h0 with h0 | h0
      · revert h0
        generalize vs.getD 0 undef = v
        generalize hb : ([AV.sl (some false) [], AV.int .i64 n] : List AV).getD 0 .top = bb
        intro h0
        cases h0 with
        | nil nn hn => rfl
        | empty a cap nn hn => cases hb; exact absurd rfl hn
        | slice b o cap sz nn es f hn => cases hb; exact absurd rfl hn
        | _ => cases hb
      · exact absurd h0.1 (by simp)
    have e1 : vs.getD 1 undef = .int .i64 n := by
      rcases h1 with h1 | h1
      · revert h1
        generalize vs.getD 1 undef = v
        generalize hb : ([AV.sl (some false) [], AV.int .i64 n] : List AV).getD 1 .top = bb
        intro h1
        cases h1 with
        | int k m => cases hb; rfl
        | _ => cases hb
      · exact absurd h1.1 (by simp)
    have hsz : vs.size = 2 := hl
    apply Array.ext
    · exact hsz
    · intro i h1 h2
      have : i = 0 ∨ i = 1 := by omega
      rcases this with rfl | rfl
      · simpa [Array.getD, hsz] using e0
      · simpa [Array.getD, hsz] using e1
  obtain ⟨z, hz, hc⟩ := w_Grow n w hn
  rw [hv]
  refine hc.mono ?_
  rintro e w' (⟨rfl, rfl, rfl⟩ | ⟨hp, rfl, rfl⟩)
  · exact ⟨_, .osl false 2 [], [], fun _ => False, fun _ _ => False, rfl, rfl, ⟨rfl, rfl, rfl, Nat.le_refl _, fun _ _ _ => rfl⟩,
      .part _ _ _ (.cell _ _ _ (.osl _ _ _ _ _ ⟨by decide, by simp, .inl ⟨rfl, rfl, rfl, fun _ h => h⟩⟩)), by simp, by simp [BoxM], by simp [BoxM]⟩
  · have hge := grownCap_ge w n 0 132
    refine ⟨_, .osl false 2 [], [], fun x => x = w.heap.size, fun _ _ => False, rfl, rfl, ⟨rfl, rfl, rfl, ?_, fun x hx _ => ?_⟩, .part _ _ _ (.cell _ _ _ (.osl _ _ _ _ _ ⟨by decide, by simp, .inr ⟨w.heap.size, grownCap w n 0 132, _, 132, fun _ _ _ => False, rfl, by simpa using heap_alloc_new w.drew _, ?_, by simp, by simp, by simp, by simp, by simp⟩⟩)), by simp, by simp [BoxM], by simp [BoxM]⟩
    · simp
    · exact Below.heap_alloc w.drew _ x hx
    · simp only [Array.size_append, size_zeroCells, hz, ← Nat.add_mul, List.size_toArray, List.length_nil]
      congr 1; omega

/-- A list of slices. -/
def encSl (xs : List Entry) : List AV := [.sl none (rows encE xs)]

theorem flatten_take {α : Type} (L : List (List α)) (i : Nat) (h : i < L.length) : (L.take (i + 1)).flatten = (L.take i).flatten ++ L[i] := by
  rw [take_snoc _ _ h, List.flatten_append]; simp

theorem c_Concat (n1 : Option Bool) (L : List (List Entry)) (hL : L.length ≤ 1000) (hF : L.flatten.length ≤ 1000000) : Det Tryz.prog 191 [.sl n1 (rows encSl L)] (.osl false 2 (rows encE L.flatten)) := by
  refine fspec_det tab_ok Tryz.call191 Tryz.func191 rfl 36 Tryz.ntmps191 (of_decide_eq_true rfl) fun B => codeK_sound tab_ok _ _ _ ?_
  have hle : ∀ i, (L.take i).flatten.length ≤ L.flatten.length := fun i => by
    have := congrArg (fun l : List (List Entry) => l.flatten.length) (List.take_append_drop i L)
    simp only [List.flatten_append, List.length_append] at this
    omega
  simp (config := { maxSteps := 4000000 }) only [go_sem, simprocAttr, ↓dnA, Tryz.f191, rows_length]
  refine semL_for tab_ok (fun i : Nat => ⟨36, [(0, .sl n1 (rows encSl L)), (3, .int .i64 (L.take i).flatten.length), (9, .sl n1 (rows encSl L)), (10, .int .i64 L.length), (11, .int .i64 i)], []⟩) (fun i => L.length - i)
    (fun i => i ≤ L.length) 0 [] (Weak.of (by rfl) ?_ ?_ (by rfl)) (by omega) ?_
  · trivial
  · simp (config := { maxSteps := 4000000 }) only [go_sem, simprocAttr, ↓dnA, Tryz.f191, rows_length, frW, wk2, wk1, wkL, wkB, hpW, List.mem_cons, Prod.mk.injEq, exists_eq_left, exists_eq_right, exists_eq]
    try rfl
  · rintro i hi
    by_cases h : i < L.length
    · have hst := flatten_take L i h
      have h1 := hle (i + 1)
      rw [hst, List.length_append] at h1
      have hw : IntKind.i64.wrap ((i : Int) + 1) = ((i + 1 : Nat) : Int) := wsucc h (by omega)
      have hw2 : IntKind.i64.wrap (((L.take i).flatten.length : Int) + (L[i].length : Int)) = (((L.take i).flatten.length + L[i].length : Nat) : Int) := by rw [wrap_small _ (by omega) (by omega)]; omega
      simp (config := { maxSteps := 4000000 }) only [go_sem, simprocAttr, ↓dnA, Tryz.f191, rows_length, nlt h, h, rows_get _ _ _ h, encSl, nn0, hw, hw2]
      have hnn : decide ((((L.take i).flatten.length + L[i].length : Nat) : Int) < 0) = false := by simp; omega
      rw [hnn]
      refine ⟨fun hc => by simp at hc, fun _ => ?_⟩
      refine ⟨i + 1, [], by omega, by dsimp only; omega, Weak.of (by rfl) ?_ ?_ (by rfl)⟩
      · trivial
      · simp (config := { maxSteps := 4000000 }) only [go_sem, simprocAttr, ↓dnA, Tryz.f191, rows_length, hst, List.length_append, frW, wk2, wk1, wkL, wkB, hpW, List.mem_cons, Prod.mk.injEq, exists_eq_left, exists_eq_right, exists_eq]
    · have hi' : i = L.length := by omega
      subst hi'
      simp (config := { maxSteps := 4000000 }) only [go_sem, simprocAttr, ↓dnA, Tryz.f191, rows_length, nlf h, List.take_length]
      refine CallTo.det (c_Grow _ hF) fun _ => ?_
      simp (config := { maxSteps := 4000000 }) only [go_sem, simprocAttr, ↓dnA, Tryz.f191, rows_length, nlf h, List.take_length]
      refine semL_for tab_ok (fun i : Nat => ⟨36, [(6, .row 600 (L.take i).flatten.length), (25, .sl n1 (rows encSl L)), (26, .int .i64 L.length), (27, .int .i64 i)], [(600, .row true false 2 (rows encE (L.take i).flatten))]⟩) (fun i => L.length - i)
        (fun i => i ≤ L.length) 0 [(25000, 600)] (Weak.of (by rfl) ?_ ?_ (by rfl)) (by omega) ?_
      · simp (config := { maxSteps := 4000000 }) only [go_sem, simprocAttr, ↓dnA, Tryz.f191, rows_length, frW, wk2, wk1, wkL, wkB, hpW, List.mem_cons, Prod.mk.injEq, exists_eq_left, exists_eq_right, exists_eq]
        try rfl
      · simp (config := { maxSteps := 4000000 }) only [go_sem, simprocAttr, ↓dnA, Tryz.f191, rows_length, frW, wk2, wk1, wkL, wkB, hpW, List.mem_cons, Prod.mk.injEq, exists_eq_left, exists_eq_right, exists_eq]
        try rfl
      · rintro i hi
        by_cases h : i < L.length
        · have hst := flatten_take L i h
          have h1 := hle (i + 1)
          rw [hst, List.length_append] at h1
          have hw : IntKind.i64.wrap ((i : Int) + 1) = ((i + 1 : Nat) : Int) := wsucc h (by omega)
          have htk : (rows encE (L.take i).flatten).take (L.take i).flatten.length = rows encE (L.take i).flatten := by rw [List.take_of_length_le]; rw [rows_length]; omega
          have b1 := all_rows encE AV.flat (fun _ => rfl) L[i]
          have b2 := all_rows encE AV.one (fun _ => rfl) L[i]
          have b3 := sz0_rows encE 2 (fun _ => rfl) L[i]
          simp (config := { maxSteps := 4000000 }) only [go_sem, simprocAttr, ↓dnA, Tryz.f191, rows_length, nlt h, h, rows_get _ _ _ h, encSl, nn0, hw, htk]
          repeat refine And.intro (by first | omega | (simp; done) | (simp; omega) | assumption) ?_
          refine ⟨i + 1, [(33, 600)], by omega, by dsimp only; omega, Weak.of (by rfl) ?_ ?_ (by rfl)⟩
          · simp (config := { maxSteps := 4000000 }) only [go_sem, simprocAttr, ↓dnA, Tryz.f191, rows_length, hst, List.length_append, frW, wk2, wk1, wkL, wkB, hpW, List.mem_cons, Prod.mk.injEq, exists_eq_left, exists_eq_right, exists_eq]
            simp [rows]
          · simp (config := { maxSteps := 4000000 }) only [go_sem, simprocAttr, ↓dnA, Tryz.f191, rows_length, hst, List.length_append, frW, wk2, wk1, wkL, wkB, hpW, List.mem_cons, Prod.mk.injEq, exists_eq_left, exists_eq_right, exists_eq]
        · have hi' : i = L.length := by omega
          subst hi'
          simp (config := { maxSteps := 4000000 }) only [go_sem, simprocAttr, ↓dnA, Tryz.f191, rows_length, nlf h, List.take_length]

end Go.Proofs.YthcfafpjkbbaoaaGreat

/- Contracts: the sums of effects. -/
set_option linter.unusedSimpArgs false
set_option linter.unusedVariables false
set_option maxRecDepth 20000
set_option maxHeartbeats 4000000
namespace Go.Proofs.YthcfafpjkbbaoaaGreat
open Go Go.RowKit

def flatE (es : List Entry) : List Int := es.flatMap fun e => [e.key, e.value]
theorem flatE_len : ∀ es : List Entry, (flatE es).length = 2 * es.length
  | [] => rfl
  | e :: r => by
    have := flatE_len r
    simp only [flatE, List.flatMap_cons, List.length_append, List.length_cons, List.length_nil] at this ⊢
    omega
theorem flatE_take (es : List Entry) (i : Nat) (h : i < es.length) : flatE (es.take (i + 1)) = flatE (es.take i) ++ [es[i].key, es[i].value] := by
  unfold flatE
  rw [take_snoc _ _ h, List.flatMap_append]
  simp

/-- What is summed of an effect. -/
def effectL (e : Effect) : List Int := [if e.done then 1 else 0, (e.reads.length : Int)] ++ flatE (e.reads ++ e.writes)
def effectSum (e : Effect) : Int := sumOf 3 (effectL e)
def effectsSum (es : List Effect) : Int := if es.length > 10 then -1 else sumOf 4 (es.map effectSum)

theorem c_impl_EffectSum (e : Effect) (h1 : e.reads.length ≤ 100000) (h2 : e.writes.length ≤ 100000) : Det Tryz.prog 180 [.agg (encF1 e)] (.int .i64 (effectSum e)) := by
  refine fspec_det tab_ok Tryz.call180 Tryz.func180 rfl 35 Tryz.ntmps180 (of_decide_eq_true rfl) fun B => codeK_sound tab_ok _ _ _ ?_
  have hcc : [e.reads, e.writes].flatten = e.reads ++ e.writes := by simp
  have hcat := c_Concat (some true) [e.reads, e.writes] (by simp) (by rw [hcc, List.length_append]; omega)
  rw [hcc] at hcat
  obtain ⟨dn, rd, wr⟩ := e
  dsimp only at h1 h2 hcat
  have hl : (rd ++ wr).length = rd.length + wr.length := List.length_append
  have hx : effectL ⟨dn, rd, wr⟩ = (if dn then 1 else 0) :: (rd.length : Int) :: flatE (rd ++ wr) := rfl
  generalize hes : rd ++ wr = es at hcat hl hx
  generalize hd : (if dn then (1 : Int) else 0) = dv at hx
  cases dn
  all_goals (simp (config := { maxSteps := 4000000 }) only [go_sem, simprocAttr, ↓dnA, Tryz.f180, rows_length, encF1, encF, nn0])
  all_goals refine CallTo.det hcat fun _ => ?_
  all_goals (simp (config := { maxSteps := 4000000 }) only [go_sem, simprocAttr, ↓dnA, Tryz.f180, rows_length, encF1, encF, nn0])
  all_goals simp only [Bool.false_eq_true, if_false, if_true] at hd
  all_goals
   refine semL_for tab_ok (fun i : Nat => ⟨35, [(3, .row 600 (2 + 2 * i)), (19, .row 20000 es.length), (20, .int .i64 es.length), (21, .int .i64 i)],
      [(20000, .row true false 2 (rows encE es)), (600, .row true true 1 (rows encI (dv :: (rd.length : Int) :: flatE (es.take i))))]⟩) (fun i => es.length - i)
    (fun i => i ≤ es.length) 0 [(20000, 20000), (9, 600)] (Weak.of (by rfl) ?_ ?_ (by rfl)) (by omega) ?_
  · subst hd; simp (config := { maxSteps := 4000000 }) only [go_sem, simprocAttr, ↓dnA, Tryz.f180, rows_length, frW, wk2, wk1, wkL, wkB, hpW, List.mem_cons, Prod.mk.injEq, exists_eq_left, exists_eq_right, exists_eq]
    rfl
  · simp (config := { maxSteps := 4000000 }) only [go_sem, simprocAttr, ↓dnA, Tryz.f180, rows_length, frW, wk2, wk1, wkL, wkB, hpW, List.mem_cons, Prod.mk.injEq, exists_eq_left, exists_eq_right, exists_eq]
  · rintro i hi
    by_cases h : i < es.length
    · have hst := flatE_take es i h
      have hw : IntKind.i64.wrap ((i : Int) + 1) = ((i + 1 : Nat) : Int) := wsucc h (by omega)
      have hfl := flatE_len (es.take i)
      rw [List.length_take, show min i es.length = i by omega] at hfl
      generalize flatE (es.take i) = u at hst hfl
      have hlu : (rows encI (dv :: (rd.length : Int) :: u)).length = 2 + 2 * i := by rw [rows_length, List.length_cons, List.length_cons]; omega
      have htk : (rows encI (dv :: (rd.length : Int) :: u)).take (2 + 2 * i) = rows encI (dv :: (rd.length : Int) :: u) := by rw [List.take_of_length_le]; omega
      simp (config := { maxSteps := 4000000 }) only [go_sem, simprocAttr, ↓dnA, Tryz.f180, rows_length, nlt h, h, rows_get _ _ _ h, encE, nn0, hw, htk, hlu]
      repeat refine And.intro (by first | omega | (simp; done) | (simp; omega) | assumption) ?_
      refine ⟨i + 1, [(20000, 20000), (31, 600)], by omega, by dsimp only; omega, Weak.of (by rfl) ?_ ?_ (by rfl)⟩
      · simp (config := { maxSteps := 4000000 }) only [go_sem, simprocAttr, ↓dnA, Tryz.f180, rows_length, hst, frW, wk2, wk1, wkL, wkB, hpW, List.mem_cons, Prod.mk.injEq, exists_eq_left, exists_eq_right, exists_eq]
        simp [rows, encI]
      · simp (config := { maxSteps := 4000000 }) only [go_sem, simprocAttr, ↓dnA, Tryz.f180, rows_length, hst, frW, wk2, wk1, wkL, wkB, hpW, List.mem_cons, Prod.mk.injEq, exists_eq_left, exists_eq_right, exists_eq]
        congr 1
    · have hi' : i = es.length := by omega
      subst hi'
      rw [List.take_length]
      have hfl := flatE_len es
      have hlu : (dv :: (rd.length : Int) :: flatE es).length = 2 + 2 * es.length := by rw [List.length_cons, List.length_cons]; omega
      simp (config := { maxSteps := 4000000 }) only [go_sem, simprocAttr, ↓dnA, Tryz.f180, rows_length, nlf h, hlu]
      refine CallTo.det (c_impl_SumOf 3 (some true) (dv :: (rd.length : Int) :: flatE es) (by rw [hlu]; omega)) fun _ => ?_
      simp (config := { maxSteps := 4000000 }) only [go_sem, simprocAttr, ↓dnA, Tryz.f180, rows_length, nlf h, hlu]
      unfold effectSum
      rw [hx]
  · subst hd; simp (config := { maxSteps := 4000000 }) only [go_sem, simprocAttr, ↓dnA, Tryz.f180, rows_length, frW, wk2, wk1, wkL, wkB, hpW, List.mem_cons, Prod.mk.injEq, exists_eq_left, exists_eq_right, exists_eq]
    rfl
  · simp (config := { maxSteps := 4000000 }) only [go_sem, simprocAttr, ↓dnA, Tryz.f180, rows_length, frW, wk2, wk1, wkL, wkB, hpW, List.mem_cons, Prod.mk.injEq, exists_eq_left, exists_eq_right, exists_eq]
  · rintro i hi
    by_cases h : i < es.length
    · have hst := flatE_take es i h
      have hw : IntKind.i64.wrap ((i : Int) + 1) = ((i + 1 : Nat) : Int) := wsucc h (by omega)
      have hfl := flatE_len (es.take i)
      rw [List.length_take, show min i es.length = i by omega] at hfl
      generalize flatE (es.take i) = u at hst hfl
      have hlu : (rows encI (dv :: (rd.length : Int) :: u)).length = 2 + 2 * i := by rw [rows_length, List.length_cons, List.length_cons]; omega
      have htk : (rows encI (dv :: (rd.length : Int) :: u)).take (2 + 2 * i) = rows encI (dv :: (rd.length : Int) :: u) := by rw [List.take_of_length_le]; omega
      simp (config := { maxSteps := 4000000 }) only [go_sem, simprocAttr, ↓dnA, Tryz.f180, rows_length, nlt h, h, rows_get _ _ _ h, encE, nn0, hw, htk, hlu]
      repeat refine And.intro (by first | omega | (simp; done) | (simp; omega) | assumption) ?_
      refine ⟨i + 1, [(20000, 20000), (31, 600)], by omega, by dsimp only; omega, Weak.of (by rfl) ?_ ?_ (by rfl)⟩
      · simp (config := { maxSteps := 4000000 }) only [go_sem, simprocAttr, ↓dnA, Tryz.f180, rows_length, hst, frW, wk2, wk1, wkL, wkB, hpW, List.mem_cons, Prod.mk.injEq, exists_eq_left, exists_eq_right, exists_eq]
        simp [rows, encI]
      · simp (config := { maxSteps := 4000000 }) only [go_sem, simprocAttr, ↓dnA, Tryz.f180, rows_length, hst, frW, wk2, wk1, wkL, wkB, hpW, List.mem_cons, Prod.mk.injEq, exists_eq_left, exists_eq_right, exists_eq]
        congr 1
    · have hi' : i = es.length := by omega
      subst hi'
      rw [List.take_length]
      have hfl := flatE_len es
      have hlu : (dv :: (rd.length : Int) :: flatE es).length = 2 + 2 * es.length := by rw [List.length_cons, List.length_cons]; omega
      simp (config := { maxSteps := 4000000 }) only [go_sem, simprocAttr, ↓dnA, Tryz.f180, rows_length, nlf h, hlu]
      refine CallTo.det (c_impl_SumOf 3 (some true) (dv :: (rd.length : Int) :: flatE es) (by rw [hlu]; omega)) fun _ => ?_
      simp (config := { maxSteps := 4000000 }) only [go_sem, simprocAttr, ↓dnA, Tryz.f180, rows_length, nlf h, hlu]
      unfold effectSum
      rw [hx]

theorem c_spec_EffectSum (e : Effect) (h1 : e.reads.length ≤ 100000) (h2 : e.writes.length ≤ 100000) : Det Tryz.prog 174 [.agg (encF1 e)] (.int .i64 (effectSum e)) := by
  refine fspec_det tab_ok Tryz.call174 Tryz.func174 rfl 60 Tryz.ntmps174 (of_decide_eq_true rfl) fun B => codeK_sound tab_ok _ _ _ ?_
  obtain ⟨dn, rd, wr⟩ := e
  dsimp only at h1 h2
  have hx : effectL ⟨dn, rd, wr⟩ = (if dn then 1 else 0) :: (rd.length : Int) :: (flatE rd ++ flatE wr) := by
    show _ :: _ :: flatE (rd ++ wr) = _
    simp [flatE]
  generalize hd : (if dn then (1 : Int) else 0) = dv at hx
  have lr := flatE_len rd
  have lw := flatE_len wr
  cases dn
  all_goals simp only [Bool.false_eq_true, if_false, if_true] at hd
  all_goals (simp (config := { maxSteps := 4000000 }) only [go_sem, simprocAttr, ↓dnA, Tryz.f174, rows_length, encF1, encF, nn0])
  · refine semL_for tab_ok (fun i : Nat => ⟨60, [(1, .loc 1 0), (3, .row 600 (2 + 2 * i)), (4, .int .i64 i)],
        [(1, .var [.bool false, .sl none (rows encE rd), .sl none (rows encE wr)]), (600, .row true true 1 (rows encI (dv :: (rd.length : Int) :: flatE (rd.take i))))]⟩) (fun i => rd.length - i)
      (fun i => i ≤ rd.length) 0 [(1, 1), (9, 600)] (Weak.of (by rfl) ?_ ?_ (by rfl)) (by omega) ?_
    · subst hd; simp (config := { maxSteps := 4000000 }) only [go_sem, simprocAttr, ↓dnA, Tryz.f174, rows_length, frW, wk2, wk1, wkL, wkB, hpW, List.mem_cons, Prod.mk.injEq, exists_eq_left, exists_eq_right, exists_eq]
      rfl
    · simp (config := { maxSteps := 4000000 }) only [go_sem, simprocAttr, ↓dnA, Tryz.f174, rows_length, frW, wk2, wk1, wkL, wkB, hpW, List.mem_cons, Prod.mk.injEq, exists_eq_left, exists_eq_right, exists_eq]
    · rintro i hi
      by_cases h : i < rd.length
      · have hst := flatE_take rd i h
        have hw : IntKind.i64.wrap ((i : Int) + 1) = ((i + 1 : Nat) : Int) := wsucc h (by omega)
        have hfl := flatE_len (rd.take i)
        rw [List.length_take, show min i rd.length = i by omega] at hfl
        generalize flatE (rd.take i) = u at hst hfl
        have hlu : (rows encI (dv :: (rd.length : Int) :: u)).length = 2 + 2 * i := by rw [rows_length, List.length_cons, List.length_cons]; omega
        have htk : (rows encI (dv :: (rd.length : Int) :: u)).take (2 + 2 * i) = rows encI (dv :: (rd.length : Int) :: u) := by rw [List.take_of_length_le]; omega
        simp (config := { maxSteps := 4000000 }) only [go_sem, simprocAttr, ↓dnA, Tryz.f174, rows_length, nlt h, h, rows_get _ _ _ h, encE, nn0, hw, htk, hlu]
        refine semL_drawL tab_ok 15 mixed_ rfl (ord := [(0, []), (1, []), (2, []), (3, []), (4, []), (5, []), (6, []), (7, []), (8, []), (9, []), (10, []), (11, []), (12, []), (13, [0]), (14, [])]) (by dsimp only; decide +kernel) ?_
        simp (config := { maxSteps := 4000000 }) only [go_sem, simprocAttr, ↓dnA, Tryz.f174, rows_length, nlt h, h, rows_get _ _ _ h, encE, nn0, hw, htk, hlu]
        repeat refine And.intro (by first | omega | (simp; done) | (simp; omega) | assumption) ?_
        refine ⟨i + 1, [(1, 1), (35, 600)], by omega, by dsimp only; omega, Weak.of (by rfl) ?_ ?_ (by rfl)⟩
        · simp (config := { maxSteps := 4000000 }) only [go_sem, simprocAttr, ↓dnA, Tryz.f174, rows_length, hst, frW, wk2, wk1, wkL, wkB, hpW, List.mem_cons, Prod.mk.injEq, exists_eq_left, exists_eq_right, exists_eq]
          simp [rows, encI]
        · simp (config := { maxSteps := 4000000 }) only [go_sem, simprocAttr, ↓dnA, Tryz.f174, rows_length, hst, frW, wk2, wk1, wkL, wkB, hpW, List.mem_cons, Prod.mk.injEq, exists_eq_left, exists_eq_right, exists_eq]
          congr 1
      · have hi' : i = rd.length := by omega
        subst hi'
        rw [List.take_length]
        simp (config := { maxSteps := 4000000 }) only [go_sem, simprocAttr, ↓dnA, Tryz.f174, rows_length, nlf h]
        refine semL_for tab_ok (fun i : Nat => ⟨60, [(1, .loc 1 0), (3, .row 600 (2 + 2 * rd.length + 2 * i)), (5, .int .i64 i)],
            [(1, .var [.bool false, .sl none (rows encE rd), .sl none (rows encE wr)]), (600, .row true true 1 (rows encI (dv :: (rd.length : Int) :: (flatE rd ++ flatE (wr.take i)))))]⟩) (fun i => wr.length - i)
          (fun i => i ≤ wr.length) 0 [(1, 1), (600, 600)] (Weak.of (by rfl) ?_ ?_ (by rfl)) (by omega) ?_
        · simp (config := { maxSteps := 4000000 }) only [go_sem, simprocAttr, ↓dnA, Tryz.f174, rows_length, frW, wk2, wk1, wkL, wkB, hpW, List.mem_cons, Prod.mk.injEq, exists_eq_left, exists_eq_right, exists_eq]
          simp [flatE]
        · simp (config := { maxSteps := 4000000 }) only [go_sem, simprocAttr, ↓dnA, Tryz.f174, rows_length, frW, wk2, wk1, wkL, wkB, hpW, List.mem_cons, Prod.mk.injEq, exists_eq_left, exists_eq_right, exists_eq]
          try rfl
        · rintro i hi
          by_cases h : i < wr.length
          · have hst := flatE_take wr i h
            have hw : IntKind.i64.wrap ((i : Int) + 1) = ((i + 1 : Nat) : Int) := wsucc h (by omega)
            have hfl := flatE_len (wr.take i)
            rw [List.length_take, show min i wr.length = i by omega] at hfl
            generalize flatE (wr.take i) = u at hst hfl
            have hlu : (rows encI (dv :: (rd.length : Int) :: (flatE rd ++ u))).length = 2 + 2 * rd.length + 2 * i := by rw [rows_length, List.length_cons, List.length_cons, List.length_append]; omega
            have htk : (rows encI (dv :: (rd.length : Int) :: (flatE rd ++ u))).take (2 + 2 * rd.length + 2 * i) = rows encI (dv :: (rd.length : Int) :: (flatE rd ++ u)) := by rw [List.take_of_length_le]; omega
            simp (config := { maxSteps := 4000000 }) only [go_sem, simprocAttr, ↓dnA, Tryz.f174, rows_length, nlt h, h, rows_get _ _ _ h, encE, nn0, hw, htk, hlu]
            refine semL_drawL tab_ok 15 mixed_ rfl (ord := [(0, []), (1, []), (2, []), (3, []), (4, []), (5, []), (6, []), (7, []), (8, []), (9, []), (10, []), (11, []), (12, []), (13, [0]), (14, [])]) (by dsimp only; decide +kernel) ?_
            simp (config := { maxSteps := 4000000 }) only [go_sem, simprocAttr, ↓dnA, Tryz.f174, rows_length, nlt h, h, rows_get _ _ _ h, encE, nn0, hw, htk, hlu]
            repeat refine And.intro (by first | omega | (simp; done) | (simp; omega) | assumption) ?_
            refine ⟨i + 1, [(1, 1), (57, 600)], by omega, by dsimp only; omega, Weak.of (by rfl) ?_ ?_ (by rfl)⟩
            · simp (config := { maxSteps := 4000000 }) only [go_sem, simprocAttr, ↓dnA, Tryz.f174, rows_length, hst, frW, wk2, wk1, wkL, wkB, hpW, List.mem_cons, Prod.mk.injEq, exists_eq_left, exists_eq_right, exists_eq]
              simp [rows, encI]
            · simp (config := { maxSteps := 4000000 }) only [go_sem, simprocAttr, ↓dnA, Tryz.f174, rows_length, hst, frW, wk2, wk1, wkL, wkB, hpW, List.mem_cons, Prod.mk.injEq, exists_eq_left, exists_eq_right, exists_eq]
              congr 1
          · have hi' : i = wr.length := by omega
            subst hi'
            rw [List.take_length]
            have hlu : (dv :: (rd.length : Int) :: (flatE rd ++ flatE wr)).length = 2 + 2 * rd.length + 2 * wr.length := by rw [List.length_cons, List.length_cons, List.length_append]; omega
            simp (config := { maxSteps := 4000000 }) only [go_sem, simprocAttr, ↓dnA, Tryz.f174, rows_length, nlf h, hlu]
            refine CallTo.det (c_spec_SumOf 3 (some true) (dv :: (rd.length : Int) :: (flatE rd ++ flatE wr)) (by rw [hlu]; omega)) fun _ => ?_
            simp (config := { maxSteps := 4000000 }) only [go_sem, simprocAttr, ↓dnA, Tryz.f174, rows_length, nlf h, hlu]
            unfold effectSum
            rw [hx]
  · refine semL_for tab_ok (fun i : Nat => ⟨60, [(1, .loc 1 0), (3, .row 600 (2 + 2 * i)), (4, .int .i64 i)],
        [(1, .var [.bool true, .sl none (rows encE rd), .sl none (rows encE wr)]), (600, .row true true 1 (rows encI (dv :: (rd.length : Int) :: flatE (rd.take i))))]⟩) (fun i => rd.length - i)
      (fun i => i ≤ rd.length) 0 [(1, 1), (9, 600)] (Weak.of (by rfl) ?_ ?_ (by rfl)) (by omega) ?_
    · subst hd; simp (config := { maxSteps := 4000000 }) only [go_sem, simprocAttr, ↓dnA, Tryz.f174, rows_length, frW, wk2, wk1, wkL, wkB, hpW, List.mem_cons, Prod.mk.injEq, exists_eq_left, exists_eq_right, exists_eq]
      rfl
    · simp (config := { maxSteps := 4000000 }) only [go_sem, simprocAttr, ↓dnA, Tryz.f174, rows_length, frW, wk2, wk1, wkL, wkB, hpW, List.mem_cons, Prod.mk.injEq, exists_eq_left, exists_eq_right, exists_eq]
    · rintro i hi
      by_cases h : i < rd.length
      · have hst := flatE_take rd i h
        have hw : IntKind.i64.wrap ((i : Int) + 1) = ((i + 1 : Nat) : Int) := wsucc h (by omega)
        have hfl := flatE_len (rd.take i)
        rw [List.length_take, show min i rd.length = i by omega] at hfl
        generalize flatE (rd.take i) = u at hst hfl
        have hlu : (rows encI (dv :: (rd.length : Int) :: u)).length = 2 + 2 * i := by rw [rows_length, List.length_cons, List.length_cons]; omega
        have htk : (rows encI (dv :: (rd.length : Int) :: u)).take (2 + 2 * i) = rows encI (dv :: (rd.length : Int) :: u) := by rw [List.take_of_length_le]; omega
        simp (config := { maxSteps := 4000000 }) only [go_sem, simprocAttr, ↓dnA, Tryz.f174, rows_length, nlt h, h, rows_get _ _ _ h, encE, nn0, hw, htk, hlu]
        refine semL_drawL tab_ok 15 mixed_ rfl (ord := [(0, []), (1, []), (2, []), (3, []), (4, []), (5, []), (6, []), (7, []), (8, []), (9, []), (10, []), (11, []), (12, []), (13, [0]), (14, [])]) (by dsimp only; decide +kernel) ?_
        simp (config := { maxSteps := 4000000 }) only [go_sem, simprocAttr, ↓dnA, Tryz.f174, rows_length, nlt h, h, rows_get _ _ _ h, encE, nn0, hw, htk, hlu]
        repeat refine And.intro (by first | omega | (simp; done) | (simp; omega) | assumption) ?_
        refine ⟨i + 1, [(1, 1), (35, 600)], by omega, by dsimp only; omega, Weak.of (by rfl) ?_ ?_ (by rfl)⟩
        · simp (config := { maxSteps := 4000000 }) only [go_sem, simprocAttr, ↓dnA, Tryz.f174, rows_length, hst, frW, wk2, wk1, wkL, wkB, hpW, List.mem_cons, Prod.mk.injEq, exists_eq_left, exists_eq_right, exists_eq]
          simp [rows, encI]
        · simp (config := { maxSteps := 4000000 }) only [go_sem, simprocAttr, ↓dnA, Tryz.f174, rows_length, hst, frW, wk2, wk1, wkL, wkB, hpW, List.mem_cons, Prod.mk.injEq, exists_eq_left, exists_eq_right, exists_eq]
          congr 1
      · have hi' : i = rd.length := by omega
        subst hi'
        rw [List.take_length]
        simp (config := { maxSteps := 4000000 }) only [go_sem, simprocAttr, ↓dnA, Tryz.f174, rows_length, nlf h]
        refine semL_for tab_ok (fun i : Nat => ⟨60, [(1, .loc 1 0), (3, .row 600 (2 + 2 * rd.length + 2 * i)), (5, .int .i64 i)],
            [(1, .var [.bool true, .sl none (rows encE rd), .sl none (rows encE wr)]), (600, .row true true 1 (rows encI (dv :: (rd.length : Int) :: (flatE rd ++ flatE (wr.take i)))))]⟩) (fun i => wr.length - i)
          (fun i => i ≤ wr.length) 0 [(1, 1), (600, 600)] (Weak.of (by rfl) ?_ ?_ (by rfl)) (by omega) ?_
        · simp (config := { maxSteps := 4000000 }) only [go_sem, simprocAttr, ↓dnA, Tryz.f174, rows_length, frW, wk2, wk1, wkL, wkB, hpW, List.mem_cons, Prod.mk.injEq, exists_eq_left, exists_eq_right, exists_eq]
          simp [flatE]
        · simp (config := { maxSteps := 4000000 }) only [go_sem, simprocAttr, ↓dnA, Tryz.f174, rows_length, frW, wk2, wk1, wkL, wkB, hpW, List.mem_cons, Prod.mk.injEq, exists_eq_left, exists_eq_right, exists_eq]
          try rfl
        · rintro i hi
          by_cases h : i < wr.length
          · have hst := flatE_take wr i h
            have hw : IntKind.i64.wrap ((i : Int) + 1) = ((i + 1 : Nat) : Int) := wsucc h (by omega)
            have hfl := flatE_len (wr.take i)
            rw [List.length_take, show min i wr.length = i by omega] at hfl
            generalize flatE (wr.take i) = u at hst hfl
            have hlu : (rows encI (dv :: (rd.length : Int) :: (flatE rd ++ u))).length = 2 + 2 * rd.length + 2 * i := by rw [rows_length, List.length_cons, List.length_cons, List.length_append]; omega
            have htk : (rows encI (dv :: (rd.length : Int) :: (flatE rd ++ u))).take (2 + 2 * rd.length + 2 * i) = rows encI (dv :: (rd.length : Int) :: (flatE rd ++ u)) := by rw [List.take_of_length_le]; omega
            simp (config := { maxSteps := 4000000 }) only [go_sem, simprocAttr, ↓dnA, Tryz.f174, rows_length, nlt h, h, rows_get _ _ _ h, encE, nn0, hw, htk, hlu]
            refine semL_drawL tab_ok 15 mixed_ rfl (ord := [(0, []), (1, []), (2, []), (3, []), (4, []), (5, []), (6, []), (7, []), (8, []), (9, []), (10, []), (11, []), (12, []), (13, [0]), (14, [])]) (by dsimp only; decide +kernel) ?_
            simp (config := { maxSteps := 4000000 }) only [go_sem, simprocAttr, ↓dnA, Tryz.f174, rows_length, nlt h, h, rows_get _ _ _ h, encE, nn0, hw, htk, hlu]
            repeat refine And.intro (by first | omega | (simp; done) | (simp; omega) | assumption) ?_
            refine ⟨i + 1, [(1, 1), (57, 600)], by omega, by dsimp only; omega, Weak.of (by rfl) ?_ ?_ (by rfl)⟩
            · simp (config := { maxSteps := 4000000 }) only [go_sem, simprocAttr, ↓dnA, Tryz.f174, rows_length, hst, frW, wk2, wk1, wkL, wkB, hpW, List.mem_cons, Prod.mk.injEq, exists_eq_left, exists_eq_right, exists_eq]
              simp [rows, encI]
            · simp (config := { maxSteps := 4000000 }) only [go_sem, simprocAttr, ↓dnA, Tryz.f174, rows_length, hst, frW, wk2, wk1, wkL, wkB, hpW, List.mem_cons, Prod.mk.injEq, exists_eq_left, exists_eq_right, exists_eq]
              congr 1
          · have hi' : i = wr.length := by omega
            subst hi'
            rw [List.take_length]
            have hlu : (dv :: (rd.length : Int) :: (flatE rd ++ flatE wr)).length = 2 + 2 * rd.length + 2 * wr.length := by rw [List.length_cons, List.length_cons, List.length_append]; omega
            simp (config := { maxSteps := 4000000 }) only [go_sem, simprocAttr, ↓dnA, Tryz.f174, rows_length, nlf h, hlu]
            refine CallTo.det (c_spec_SumOf 3 (some true) (dv :: (rd.length : Int) :: (flatE rd ++ flatE wr)) (by rw [hlu]; omega)) fun _ => ?_
            simp (config := { maxSteps := 4000000 }) only [go_sem, simprocAttr, ↓dnA, Tryz.f174, rows_length, nlf h, hlu]
            unfold effectSum
            rw [hx]

def EffOk (es : List Effect) : Prop := ∀ e, e ∈ es → e.reads.length ≤ 100000 ∧ e.writes.length ≤ 100000

theorem c_impl_EffectsSum (n1 : Option Bool) (es : List Effect) (hl : es.length < 2 ^ 32) (hE : EffOk es) : Det Tryz.prog 147 [.sl n1 (rows encF1 es)] (.int .i64 (effectsSum es)) := by
  refine fspec_det tab_ok Tryz.call147 Tryz.func147 rfl 23 Tryz.ntmps147 (of_decide_eq_true rfl) fun B => codeK_sound tab_ok _ _ _ ?_
  unfold effectsSum
  have hg : decide ((es.length : Int) > 10) = decide (es.length > 10) := by simp; omega
  by_cases h10 : es.length > 10
  · have hd : decide ((es.length : Int) > 10) = true := by rw [hg]; simp [h10]
    simp (config := { maxSteps := 4000000 }) only [go_sem, simprocAttr, ↓dnA, Tryz.f147, rows_length, hd, h10]
  · have hd : decide ((es.length : Int) > 10) = false := by rw [hg]; simp [h10]
    rw [if_neg h10]
    simp (config := { maxSteps := 4000000 }) only [go_sem, simprocAttr, ↓dnA, Tryz.f147, rows_length, hd]
    refine semL_nilA 3 600 1 true (by rfl) (by rfl) (by decide) (by decide) ?_
    refine semL_for tab_ok (fun i : Nat => ⟨23, [(3, .row 600 i), (9, .sl n1 (rows encF1 es)), (10, .int .i64 es.length), (11, .int .i64 i)], [(600, .row true false 1 (rows encI ((es.take i).map effectSum)))]⟩) (fun i => es.length - i)
      (fun i => i ≤ es.length) 0 [(600, 600)] (Weak.of (by rfl) ?_ ?_ (by rfl)) (by omega) ?_
    · simp (config := { maxSteps := 4000000 }) only [go_sem, simprocAttr, ↓dnA, Tryz.f147, rows_length, frW, wk2, wk1, wkL, wkB, hpW, List.mem_cons, Prod.mk.injEq, exists_eq_left, exists_eq_right, exists_eq]
      try rfl
    · simp (config := { maxSteps := 4000000 }) only [go_sem, simprocAttr, ↓dnA, Tryz.f147, rows_length, frW, wk2, wk1, wkL, wkB, hpW, List.mem_cons, Prod.mk.injEq, exists_eq_left, exists_eq_right, exists_eq]
      try rfl
    · rintro i hi
      by_cases h : i < es.length
      · have hw : IntKind.i64.wrap ((i : Int) + 1) = ((i + 1 : Nat) : Int) := wsucc h (by omega)
        have hst : (es.take (i + 1)).map effectSum = (es.take i).map effectSum ++ [effectSum es[i]] := by rw [take_snoc _ _ h, List.map_append]; rfl
        have hlu : ((es.take i).map effectSum).length = i := by rw [List.length_map, List.length_take]; omega
        have he := hE _ (List.getElem_mem h)
        have hee : encF1 es[i] = [.bool es[i].done, .sl none (rows encE es[i].reads), .sl none (rows encE es[i].writes)] := rfl
        generalize (es.take i).map effectSum = u at hst hlu
        have htk : (rows encI u).take i = rows encI u := by rw [List.take_of_length_le]; rw [rows_length]; omega
        simp (config := { maxSteps := 4000000 }) only [go_sem, simprocAttr, ↓dnA, Tryz.f147, rows_length, nlt h, h, rows_get _ _ _ h, hee, nn0, hw, htk, hlu]
        refine CallTo.det (c_impl_EffectSum es[i] he.1 he.2) fun _ => ?_
        simp (config := { maxSteps := 4000000 }) only [go_sem, simprocAttr, ↓dnA, Tryz.f147, rows_length, nlt h, h, rows_get _ _ _ h, hee, nn0, hw, htk, hlu]
        repeat refine And.intro (by first | omega | (simp; done) | (simp; omega) | assumption) ?_
        refine ⟨i + 1, [(19, 600)], by omega, by dsimp only; omega, Weak.of (by rfl) ?_ ?_ (by rfl)⟩
        · simp (config := { maxSteps := 4000000 }) only [go_sem, simprocAttr, ↓dnA, Tryz.f147, rows_length, hst, frW, wk2, wk1, wkL, wkB, hpW, List.mem_cons, Prod.mk.injEq, exists_eq_left, exists_eq_right, exists_eq]
          simp [rows, encI]
        · simp (config := { maxSteps := 4000000 }) only [go_sem, simprocAttr, ↓dnA, Tryz.f147, rows_length, hst, frW, wk2, wk1, wkL, wkB, hpW, List.mem_cons, Prod.mk.injEq, exists_eq_left, exists_eq_right, exists_eq]
      · have hi' : i = es.length := by omega
        subst hi'
        rw [List.take_length]
        have hlu : (es.map effectSum).length = es.length := List.length_map ..
        simp (config := { maxSteps := 4000000 }) only [go_sem, simprocAttr, ↓dnA, Tryz.f147, rows_length, nlf h, hlu]
        refine CallTo.det (c_impl_SumOf 4 none (es.map effectSum) (by rw [hlu]; omega)) fun _ => ?_
        simp (config := { maxSteps := 4000000 }) only [go_sem, simprocAttr, ↓dnA, Tryz.f147, rows_length, nlf h, hlu]

theorem c_spec_EffectsSum (n1 : Option Bool) (es : List Effect) (hl : es.length < 2 ^ 32) (hE : EffOk es) : Det Tryz.prog 138 [.sl n1 (rows encF1 es)] (.int .i64 (effectsSum es)) := by
  refine fspec_det tab_ok Tryz.call138 Tryz.func138 rfl 25 Tryz.ntmps138 (of_decide_eq_true rfl) fun B => codeK_sound tab_ok _ _ _ ?_
  unfold effectsSum
  have hg : decide ((es.length : Int) > 10) = decide (es.length > 10) := by simp; omega
  simp (config := { maxSteps := 4000000 }) only [go_sem, simprocAttr, ↓dnA, Tryz.f138, rows_length]
  refine semL_for tab_ok (fun i : Nat => ⟨25, [(0, .sl n1 (rows encF1 es)), (3, .row 600 i), (4, .int .i64 i)], [(600, .row true true 1 (rows encI ((es.take i).map effectSum)))]⟩) (fun i => es.length - i)
    (fun i => i ≤ es.length) 0 [(5, 600)] (Weak.of (by rfl) ?_ ?_ (by rfl)) (by omega) ?_
  · simp (config := { maxSteps := 4000000 }) only [go_sem, simprocAttr, ↓dnA, Tryz.f138, rows_length, frW, wk2, wk1, wkL, wkB, hpW, List.mem_cons, Prod.mk.injEq, exists_eq_left, exists_eq_right, exists_eq]
    try rfl
  · simp (config := { maxSteps := 4000000 }) only [go_sem, simprocAttr, ↓dnA, Tryz.f138, rows_length, frW, wk2, wk1, wkL, wkB, hpW, List.mem_cons, Prod.mk.injEq, exists_eq_left, exists_eq_right, exists_eq]
    try rfl
  · rintro i hi
    by_cases h : i < es.length
    · have hw : IntKind.i64.wrap ((i : Int) + 1) = ((i + 1 : Nat) : Int) := wsucc h (by omega)
      have hst : (es.take (i + 1)).map effectSum = (es.take i).map effectSum ++ [effectSum es[i]] := by rw [take_snoc _ _ h, List.map_append]; rfl
      have hlu : ((es.take i).map effectSum).length = i := by rw [List.length_map, List.length_take]; omega
      have he := hE _ (List.getElem_mem h)
      have hee : encF1 es[i] = [.bool es[i].done, .sl none (rows encE es[i].reads), .sl none (rows encE es[i].writes)] := rfl
      generalize (es.take i).map effectSum = u at hst hlu
      have htk : (rows encI u).take i = rows encI u := by rw [List.take_of_length_le]; rw [rows_length]; omega
      simp (config := { maxSteps := 4000000 }) only [go_sem, simprocAttr, ↓dnA, Tryz.f138, rows_length, nlt h, h, rows_get _ _ _ h, hee, nn0, hw, htk, hlu]
      refine CallTo.det (c_spec_EffectSum es[i] he.1 he.2) fun _ => ?_
      simp (config := { maxSteps := 4000000 }) only [go_sem, simprocAttr, ↓dnA, Tryz.f138, rows_length, nlt h, h, rows_get _ _ _ h, hee, nn0, hw, htk, hlu]
      repeat refine And.intro (by first | omega | (simp; done) | (simp; omega) | assumption) ?_
      refine ⟨i + 1, [(19, 600)], by omega, by dsimp only; omega, Weak.of (by rfl) ?_ ?_ (by rfl)⟩
      · simp (config := { maxSteps := 4000000 }) only [go_sem, simprocAttr, ↓dnA, Tryz.f138, rows_length, hst, frW, wk2, wk1, wkL, wkB, hpW, List.mem_cons, Prod.mk.injEq, exists_eq_left, exists_eq_right, exists_eq]
        simp [rows, encI]
      · simp (config := { maxSteps := 4000000 }) only [go_sem, simprocAttr, ↓dnA, Tryz.f138, rows_length, hst, frW, wk2, wk1, wkL, wkB, hpW, List.mem_cons, Prod.mk.injEq, exists_eq_left, exists_eq_right, exists_eq]
    · have hi' : i = es.length := by omega
      subst hi'
      rw [List.take_length]
      have hlu : (es.map effectSum).length = es.length := List.length_map ..
      by_cases h10 : es.length > 10
      · have hd : decide ((es.length : Int) > 10) = true := by rw [hg]; simp [h10]
        rw [if_pos h10]
        simp (config := { maxSteps := 4000000 }) only [go_sem, simprocAttr, ↓dnA, Tryz.f138, rows_length, nlf h, hlu, hd]
      · have hd : decide ((es.length : Int) > 10) = false := by rw [hg]; simp [h10]
        rw [if_neg h10]
        simp (config := { maxSteps := 4000000 }) only [go_sem, simprocAttr, ↓dnA, Tryz.f138, rows_length, nlf h, hlu, hd]
        refine CallTo.det (c_spec_SumOf 4 _ (es.map effectSum) (by rw [hlu]; omega)) fun _ => ?_
        simp (config := { maxSteps := 4000000 }) only [go_sem, simprocAttr, ↓dnA, Tryz.f138, rows_length, nlf h, hlu, hd]

end Go.Proofs.YthcfafpjkbbaoaaGreat

/- Contracts: the block behind a block. -/
set_option linter.unusedSimpArgs false
set_option linter.unusedVariables false
set_option maxRecDepth 20000
set_option maxHeartbeats 4000000
namespace Go.Proofs.YthcfafpjkbbaoaaGreat
open Go Go.RowKit

/-- The block behind a block. -/
def nextBlock (b : Block) (s : List Entry) (v : Int) (l : List Action) : Block × Bool :=
  if blockValid b && (b.height != 100) && storeValid s && inB v (b.view + 1) 1000 && actionsValid l then (⟨blockSum b, b.height + 1, v, l, rootOf (runSerial s l).1, effectsSum (runSerial s l).2⟩, true) else (⟨0, 0, 0, [], 0, 0⟩, false)

theorem nextBlock_len (b : Block) (s : List Entry) (v : Int) (l : List Action) : (nextBlock b s v l).1.list.length ≤ l.length := by
  unfold nextBlock
  split
  · exact Nat.le_refl _
  · simp

theorem runE_rlen (a : Action) (v : List Int) : (runE a v).reads.length ≤ 2 := by
  show ((readsA a).map _).length ≤ 2
  rw [List.length_map]; exact readsA_len _

theorem runAllE_effOk (v : List Int) (l : List Action) : ∀ i, i ≤ l.length → EffOk (runAllE v (l.take i)).2
  | 0, _ => fun e he => by simp [runAllE] at he
  | i + 1, hi => by
    have ih := runAllE_effOk v l i (by omega)
    rw [runAllE_take _ _ _ (by omega)]
    intro e he
    unfold stepR at he
    rcases List.mem_append.1 he with he | he
    · exact ih e he
    · rw [List.mem_singleton.1 he]
      have h1 := runE_rlen l[i] (runAllE v (l.take i)).1
      have h2 := runE_wlen l[i] (runAllE v (l.take i)).1
      omega

theorem runSerial_ok {s : List Entry} {l : List Action} (h1 : storeValid s = true) (h2 : actionsValid l = true) : storeValid (runSerial s l).1 = true ∧ (runSerial s l).2.length = l.length ∧ EffOk (runSerial s l).2 := by
  obtain ⟨ha, h10⟩ := actionsValid_ok h2
  have hV := valuesL_ok h1
  have hO := runAllE_ok ha hV l.length (Nat.le_refl _)
  have hE := runAllE_effOk (valuesL s) l l.length (Nat.le_refl _)
  rw [List.take_length] at hO hE
  unfold runSerial
  rw [h1, h2]
  exact ⟨storeL_valid hO.1, hO.2, hE⟩

theorem blockValid_bd {b : Block} (h : blockValid b = true) : (0 ≤ b.height ∧ b.height ≤ 100) ∧ (0 ≤ b.view ∧ b.view ≤ 1000) ∧ b.list.length ≤ 10 := by
  unfold blockValid at h
  simp only [Bool.and_eq_true] at h
  obtain ⟨⟨⟨⟨⟨_, _⟩, _⟩, h4⟩, h5⟩, h6⟩ := h
  exact ⟨inB_iff.1 h4, inB_iff.1 h5, (actionsValid_ok h6).2⟩

theorem c_impl_NextBlock (n n1 n2 : Option Bool) (b : Block) (s : List Entry) (v : Int) (l : List Action) (hb : b.list.length < 2 ^ 32) (hs : s.length < 2 ^ 32) (hl : l.length < 2 ^ 32) :
    Det Tryz.prog 88 [.agg (encBk n b), .sl n1 (rows encE s), .int .i64 v, .sl n2 (rows encA l)] (.tup [.agg (encBkF (nextBlock b s v l).1), .bool (nextBlock b s v l).2]) := by
  refine fspec_det tab_ok Tryz.call88 Tryz.func88 rfl 58 Tryz.ntmps88 (of_decide_eq_true rfl) fun B => codeK_sound tab_ok _ _ _ ?_
  unfold nextBlock
  simp (config := { maxSteps := 4000000 }) only [go_sem, simprocAttr, ↓dnA, Tryz.f88, rows_length, encBk]
  refine CallTo.det (c_impl_BlockValid n b (by omega)) fun _ => ?_
  cases h1 : blockValid b with
  | false => simp (config := { maxSteps := 4000000 }) only [go_sem, simprocAttr, ↓dnA, Tryz.f88, rows_length, encBk, encBkF, h1, rows_nil]
  | true =>
    obtain ⟨b1, b2, b3⟩ := blockValid_bd h1
    cases h2 : (b.height == 100) with
    | true =>
      have h2' : (b.height != 100) = false := by simpa using h2
      simp (config := { maxSteps := 4000000 }) only [go_sem, simprocAttr, ↓dnA, Tryz.f88, rows_length, encBk, encBkF, h1, h2, h2', rows_nil]
    | false =>
      have h2' : (b.height != 100) = true := by simpa using h2
      simp (config := { maxSteps := 4000000 }) only [go_sem, simprocAttr, ↓dnA, Tryz.f88, rows_length, encBk, encBkF, h1, h2, h2', rows_nil]
      refine CallTo.det (c_impl_StoreValid n1 s (by omega)) fun _ => ?_
      cases h3 : storeValid s with
      | false => simp (config := { maxSteps := 4000000 }) only [go_sem, simprocAttr, ↓dnA, Tryz.f88, rows_length, encBk, encBkF, h1, h2, h2', h3, rows_nil]
      | true =>
        have hw : IntKind.i64.wrap (b.view + 1) = b.view + 1 := wrap_small _ (by omega) (by omega)
        simp (config := { maxSteps := 4000000 }) only [go_sem, simprocAttr, ↓dnA, Tryz.f88, rows_length, encBk, encBkF, h1, h2, h2', h3, hw, rows_nil]
        refine CallTo.det (c_in _ _ _) fun _ => ?_
        cases h4 : inB v (b.view + 1) 1000 with
        | false => simp (config := { maxSteps := 4000000 }) only [go_sem, simprocAttr, ↓dnA, Tryz.f88, rows_length, encBk, encBkF, h1, h2, h2', h3, h4, hw, rows_nil]
        | true =>
          simp (config := { maxSteps := 4000000 }) only [go_sem, simprocAttr, ↓dnA, Tryz.f88, rows_length, encBk, encBkF, h1, h2, h2', h3, h4, hw, rows_nil]
          refine CallTo.det (c_impl_ActionsValid n2 l (by omega)) fun _ => ?_
          cases h5 : actionsValid l with
          | false => simp (config := { maxSteps := 4000000 }) only [go_sem, simprocAttr, ↓dnA, Tryz.f88, rows_length, encBk, encBkF, h1, h2, h2', h3, h4, h5, hw, rows_nil]
          | true =>
            obtain ⟨r1, r2, r3⟩ := runSerial_ok h3 h5
            obtain ⟨_, h10⟩ := actionsValid_ok h5
            have r4 := store_len r1
            simp (config := { maxSteps := 4000000 }) only [go_sem, simprocAttr, ↓dnA, Tryz.f88, rows_length, encBk, encBkF, h1, h2, h2', h3, h4, h5, hw, rows_nil]
            refine CallTo.det (c_impl_RunSerial n1 n2 s l hs hl) fun _ => ?_
            generalize runSerial s l = p at r1 r2 r3 r4
            obtain ⟨s', es⟩ := p
            dsimp only at r1 r2 r3 r4 ⊢
            simp (config := { maxSteps := 4000000 }) only [go_sem, simprocAttr, ↓dnA, Tryz.f88, rows_length, encBk, encBkF, h1, h2, h2', h3, h4, h5, hw, rows_nil]
            refine semL_draw tab_ok mixed_ rfl (ord := [(0, []), (2, []), (3, []), (4, []), (5, []), (6, []), (7, []), (9, []), (1, [2, 3, 4, 5, 6, 7, 9]), (8, [2, 3, 4, 5, 6, 9]), (10, [2, 3, 4, 5, 6]), (11, []), (12, []), (13, []), (14, [])]) (by dsimp only; decide +kernel) ?_
            have w1 : IntKind.i64.wrap (b.height + 1) = b.height + 1 := wrap_small _ (by omega) (by omega)
            simp (config := { maxSteps := 4000000 }) only [go_sem, simprocAttr, ↓dnA, Tryz.f88, rows_length, encBk, w1]
            refine CallTo.det (c_impl_BlockSum n b (by omega)) fun _ => ?_
            simp (config := { maxSteps := 4000000 }) only [go_sem, simprocAttr, ↓dnA, Tryz.f88, rows_length, encBk, w1]
            refine CallTo.det (c_impl_RootOf none s' (by omega)) fun _ => ?_
            simp (config := { maxSteps := 4000000 }) only [go_sem, simprocAttr, ↓dnA, Tryz.f88, rows_length, encBk, w1]
            refine CallTo.det (c_impl_EffectsSum none es (by omega) r3) fun _ => ?_
            simp (config := { maxSteps := 4000000 }) only [go_sem, simprocAttr, ↓dnA, Tryz.f88, rows_length, encBk, w1]
            refine CallTo.det (c_impl_Block_clone n2 ⟨blockSum b, b.height + 1, v, l, rootOf s', effectsSum es⟩ hl) fun _ => ?_
            simp (config := { maxSteps := 4000000 }) only [go_sem, simprocAttr, ↓dnA, Tryz.f88, rows_length, encBk, encBkF, w1, h2']

theorem c_spec_NextBlock (n n1 n2 : Option Bool) (b : Block) (s : List Entry) (v : Int) (l : List Action) (hb : b.list.length < 2 ^ 32) (hs : s.length < 2 ^ 32) (hl : l.length < 2 ^ 32) :
    Det Tryz.prog 91 [.agg (encBk n b), .sl n1 (rows encE s), .int .i64 v, .sl n2 (rows encA l)] (.tup [.agg (encBkF (nextBlock b s v l).1), .bool (nextBlock b s v l).2]) := by
  refine fspec_det tab_ok Tryz.call91 Tryz.func91 rfl 59 Tryz.ntmps91 (of_decide_eq_true rfl) fun B => codeK_sound tab_ok _ _ _ ?_
  unfold nextBlock
  simp (config := { maxSteps := 4000000 }) only [go_sem, simprocAttr, ↓dnA, Tryz.f91, rows_length, encBk]
  refine CallTo.det (c_spec_BlockValid n b (by omega)) fun _ => ?_
  cases h1 : blockValid b with
  | false => simp (config := { maxSteps := 4000000 }) only [go_sem, simprocAttr, ↓dnA, Tryz.f91, rows_length, encBk, encBkF, h1, rows_nil]
  | true =>
    obtain ⟨b1, b2, b3⟩ := blockValid_bd h1
    cases h2 : (b.height == 100) with
    | true =>
      have h2' : (b.height != 100) = false := by simpa using h2
      simp (config := { maxSteps := 4000000 }) only [go_sem, simprocAttr, ↓dnA, Tryz.f91, rows_length, encBk, encBkF, h1, h2, h2', rows_nil]
    | false =>
      have h2' : (b.height != 100) = true := by simpa using h2
      simp (config := { maxSteps := 4000000 }) only [go_sem, simprocAttr, ↓dnA, Tryz.f91, rows_length, encBk, encBkF, h1, h2, h2', rows_nil]
      refine CallTo.det (c_spec_StoreValid n1 s (by omega)) fun _ => ?_
      cases h3 : storeValid s with
      | false => simp (config := { maxSteps := 4000000 }) only [go_sem, simprocAttr, ↓dnA, Tryz.f91, rows_length, encBk, encBkF, h1, h2, h2', h3, rows_nil]
      | true =>
        have hw : IntKind.i64.wrap (b.view + 1) = b.view + 1 := wrap_small _ (by omega) (by omega)
        simp (config := { maxSteps := 4000000 }) only [go_sem, simprocAttr, ↓dnA, Tryz.f91, rows_length, encBk, encBkF, h1, h2, h2', h3, hw, rows_nil]
        refine CallTo.det (c_l1In _ _ _) fun _ => ?_
        cases h4 : inB v (b.view + 1) 1000 with
        | false => simp (config := { maxSteps := 4000000 }) only [go_sem, simprocAttr, ↓dnA, Tryz.f91, rows_length, encBk, encBkF, h1, h2, h2', h3, h4, hw, rows_nil]
        | true =>
          simp (config := { maxSteps := 4000000 }) only [go_sem, simprocAttr, ↓dnA, Tryz.f91, rows_length, encBk, encBkF, h1, h2, h2', h3, h4, hw, rows_nil]
          refine CallTo.det (c_spec_ActionsValid n2 l (by omega)) fun _ => ?_
          cases h5 : actionsValid l with
          | false => simp (config := { maxSteps := 4000000 }) only [go_sem, simprocAttr, ↓dnA, Tryz.f91, rows_length, encBk, encBkF, h1, h2, h2', h3, h4, h5, hw, rows_nil]
          | true =>
            obtain ⟨r1, r2, r3⟩ := runSerial_ok h3 h5
            obtain ⟨_, h10⟩ := actionsValid_ok h5
            have r4 := store_len r1
            simp (config := { maxSteps := 4000000 }) only [go_sem, simprocAttr, ↓dnA, Tryz.f91, rows_length, encBk, encBkF, h1, h2, h2', h3, h4, h5, hw, rows_nil]
            refine CallTo.det (c_spec_RunSerial n1 n2 s l hs hl) fun _ => ?_
            generalize runSerial s l = p at r1 r2 r3 r4
            obtain ⟨s', es⟩ := p
            dsimp only at r1 r2 r3 r4 ⊢
            simp (config := { maxSteps := 4000000 }) only [go_sem, simprocAttr, ↓dnA, Tryz.f91, rows_length, encBk, encBkF, h1, h2, h2', h3, h4, h5, hw, rows_nil]
            refine semL_draw tab_ok mixed_ rfl (ord := [(0, []), (2, []), (3, []), (4, []), (5, []), (7, []), (9, []), (11, []), (1, [2, 3, 4, 5, 7, 9, 11]), (6, [0, 2, 3, 4, 5, 7, 9, 11]), (8, [2, 3, 4, 5, 9, 11]), (10, [2, 3, 4, 5, 11]), (12, [2, 3, 4, 5]), (13, []), (14, []), (15, [])]) (by dsimp only; decide +kernel) ?_
            have a1 := all_rows encA AV.flat (fun _ => rfl) l
            have a2 := all_rows encA AV.one (fun _ => rfl) l
            have a3 := sz0_rows encA 4 (fun _ => rfl) l
            have w1 : IntKind.i64.wrap (b.height + 1) = b.height + 1 := wrap_small _ (by omega) (by omega)
            simp (config := { maxSteps := 4000000 }) only [go_sem, simprocAttr, ↓dnA, Tryz.f91, rows_length, encBk, w1]
            refine CallTo.det (c_spec_BlockSum n b (by omega)) fun _ => ?_
            simp (config := { maxSteps := 4000000 }) only [go_sem, simprocAttr, ↓dnA, Tryz.f91, rows_length, encBk, w1]
            repeat refine And.intro (by first | omega | (simp; done) | (simp; omega) | assumption) ?_
            refine CallTo.det (c_spec_RootOf _ s' (by omega)) fun _ => ?_
            simp (config := { maxSteps := 4000000 }) only [go_sem, simprocAttr, ↓dnA, Tryz.f91, rows_length, encBk, w1]
            refine CallTo.det (c_spec_EffectsSum _ es (by omega) r3) fun _ => ?_
            simp (config := { maxSteps := 4000000 }) only [go_sem, simprocAttr, ↓dnA, Tryz.f91, rows_length, encBk, encBkF, w1, h2']

end Go.Proofs.YthcfafpjkbbaoaaGreat

/- Contracts: putting blocks, growing trees. -/
set_option linter.unusedSimpArgs false
set_option linter.unusedVariables false
set_option maxRecDepth 20000
set_option maxHeartbeats 4000000
namespace Go.Proofs.YthcfafpjkbbaoaaGreat
open Go Go.RowKit

def putT (t : Tree) (b : Block) : Tree := ⟨t.base, t.blocks ++ [b], t.before ++ [findB t.blocks b.before]⟩
open Classical in
noncomputable def putBlock (t : Tree) (b : Block) : Tree × Bool := if treeValid t then (if treeValid (putT t b) then (putT t b, true) else (t, false)) else (⟨[], [], []⟩, false)

theorem c_impl_PutBlock (n n1 n2 n3 : Option Bool) (t : Tree) (b : Block) (hx : TreeS32 t) (hb : b.list.length < 2 ^ 32) :
    Det Tryz.prog 90 [.agg (encT n1 n2 n3 t), .agg (encBk n b)] (.tup [.agg (encTF (putBlock t b).1), .bool (putBlock t b).2]) := by
  refine fspec_det tab_ok Tryz.call90 Tryz.func90 rfl 35 Tryz.ntmps90 (of_decide_eq_true rfl) fun B => codeK_sound tab_ok _ _ _ ?_
  unfold putBlock
  simp (config := { maxSteps := 4000000 }) only [go_sem, simprocAttr, ↓dnA, Tryz.f90, rows_length, encT, encBk]
  refine CallTo.det (c_impl_BlockTreeValid n1 n2 n3 t hx.sz) fun _ => ?_
  cases h1 : treeValid t with
  | false => simp (config := { maxSteps := 4000000 }) only [go_sem, simprocAttr, ↓dnA, Tryz.f90, rows_length, encT, encTF, h1, rows_nil]
  | true =>
    have ht := treeOk_of h1
    have hlen := ht.len
    have hbl := ht.bef
    simp (config := { maxSteps := 4000000 }) only [go_sem, simprocAttr, ↓dnA, Tryz.f90, rows_length, encT, encBk, h1]
    refine CallTo.det (c_impl_Tree_clone n1 n2 n3 t hx) fun _ => ?_
    simp (config := { maxSteps := 4000000 }) only [go_sem, simprocAttr, ↓dnA, Tryz.f90, rows_length, encT, encTF, encBk, h1]
    refine semL_draw tab_ok mixed_ rfl (ord := [(0, []), (1, []), (2, []), (3, [0, 1]), (4, [0, 1]), (5, []), (6, []), (7, [])]) (by dsimp only; decide +kernel) ?_
    simp (config := { maxSteps := 4000000 }) only [go_sem, simprocAttr, ↓dnA, Tryz.f90, rows_length, encT, encBk, h1]
    refine CallTo.det (c_impl_Block_clone n b hb) fun _ => ?_
    have tk1 : (rows encB1 t.blocks).take t.blocks.length = rows encB1 t.blocks := by rw [List.take_of_length_le]; rw [rows_length]; omega
    have tk2 : (rows encI t.before).take t.before.length = rows encI t.before := by rw [List.take_of_length_le]; rw [rows_length]; omega
    simp (config := { maxSteps := 4000000 }) only [go_sem, simprocAttr, ↓dnA, Tryz.f90, rows_length, encT, encBk, encBkF, h1, tk1]
    repeat refine And.intro (by first | omega | (simp; done) | (simp; omega) | assumption) ?_
    refine semL_draw tab_ok mixed_ rfl (ord := [(0, []), (1, []), (2, []), (3, []), (4, []), (5, [0, 1]), (6, [0, 1]), (7, []), (8, []), (9, [])]) (by dsimp only; decide +kernel) ?_
    simp (config := { maxSteps := 4000000 }) only [go_sem, simprocAttr, ↓dnA, Tryz.f90, rows_length, encT, encBk, h1]
    refine CallTo.det (c_impl_find n1 n2 n3 t b.before hx.sz) fun _ => ?_
    have e1 : rows encB1 t.blocks ++ [[AV.int IntKind.i64 b.before, AV.int IntKind.i64 b.height, AV.int IntKind.i64 b.view, AV.sl none (rows encA b.list), AV.int IntKind.i64 b.root, AV.int IntKind.i64 b.effects]] = rows encB1 (t.blocks ++ [b]) := by
      rw [← rows_snoc]; rfl
    have e2 : rows encI t.before ++ [[AV.int IntKind.i64 (findB t.blocks b.before)]] = rows encI (t.before ++ [findB t.blocks b.before]) := by
      rw [← rows_snoc]; rfl
    have l1 : (t.blocks ++ [b]).length = t.blocks.length + 1 := by simp
    have l2 : (t.before ++ [findB t.blocks b.before]).length = t.before.length + 1 := by simp
    have hu : TreeSz (putT t b) := ⟨hx.sz.base, by show (t.blocks ++ [b]).length < _; rw [l1]; omega, by show (t.before ++ [findB t.blocks b.before]).length < _; rw [l2]; omega, fun c hc => by
      rcases List.mem_append.1 hc with e | e
      · exact hx.sz.list c e
      · rw [List.mem_singleton.1 e]; omega⟩
    have hv := c_impl_BlockTreeValid none (some true) (some true) (putT t b) hu
    have hf : encTF (putT t b) = [.osl false 2 (rows encE t.base), .osl false 6 (rows encB1 (t.blocks ++ [b])), .osl false 1 (rows encI (t.before ++ [findB t.blocks b.before]))] := rfl
    simp (config := { maxSteps := 4000000 }) only [go_sem, simprocAttr, ↓dnA, Tryz.f90, rows_length, encT, encBk, h1, tk2, e1, e2, l1, l2]
    repeat refine And.intro (by first | omega | (simp; done) | (simp; omega) | assumption) ?_
    refine CallTo.det hv fun _ => ?_
    cases h2 : treeValid (putT t b) with
    | false =>
      simp (config := { maxSteps := 4000000 }) only [go_sem, simprocAttr, ↓dnA, Tryz.f90, rows_length, encT, encBk, h1, h2]
      refine CallTo.det (c_impl_Tree_clone n1 n2 n3 t hx) fun _ => ?_
      simp (config := { maxSteps := 4000000 }) only [go_sem, simprocAttr, ↓dnA, Tryz.f90, rows_length, encT, encTF, h1, h2]
    | true =>
      simp (config := { maxSteps := 4000000 }) only [go_sem, simprocAttr, ↓dnA, Tryz.f90, rows_length, encT, encBk, h1, h2, hf, tk2, e1, e2, l1, l2]

open Classical in
/-- A tree with the block behind the block n, of actions on the store there. -/
noncomputable def growTree (t : Tree) (n v : Int) (l : List Action) : Tree × Bool :=
  if treeValid t then (if inB n 0 ((t.blocks.length : Int) - 1) then (if (nextBlock (t.blk n.toNat) (storeOf t n) v l).2 then putBlock t (nextBlock (t.blk n.toNat) (storeOf t n) v l).1 else (t, false)) else (t, false)) else (⟨[], [], []⟩, false)

theorem c_impl_GrowTree (n0 n1 n2 n3 : Option Bool) (t : Tree) (n v : Int) (l : List Action) (hx : TreeS32 t) (hl : l.length < 2 ^ 32) :
    Det Tryz.prog 29 [.agg (encT n1 n2 n3 t), .int .i64 n, .int .i64 v, .sl n0 (rows encA l)] (.tup [.agg (encTF (growTree t n v l).1), .bool (growTree t n v l).2]) := by
  refine fspec_det tab_ok Tryz.call29 Tryz.func29 rfl 45 Tryz.ntmps29 (of_decide_eq_true rfl) fun B => codeK_sound tab_ok _ _ _ ?_
  unfold growTree
  simp (config := { maxSteps := 4000000 }) only [go_sem, simprocAttr, ↓dnA, Tryz.f29, rows_length, encT]
  refine CallTo.det (c_impl_BlockTreeValid n1 n2 n3 t hx.sz) fun _ => ?_
  cases h1 : treeValid t with
  | false => simp (config := { maxSteps := 4000000 }) only [go_sem, simprocAttr, ↓dnA, Tryz.f29, rows_length, encT, encTF, h1, rows_nil]
  | true =>
    have ht := treeOk_of h1
    have hlen := ht.len
    simp (config := { maxSteps := 4000000 }) only [go_sem, simprocAttr, ↓dnA, Tryz.f29, rows_length, encT, h1]
    refine CallTo.det (c_impl_has n1 n2 n3 t n hx.sz) fun _ => ?_
    cases h2 : inB n 0 ((t.blocks.length : Int) - 1) with
    | false =>
      simp (config := { maxSteps := 4000000 }) only [go_sem, simprocAttr, ↓dnA, Tryz.f29, rows_length, encT, h1, h2]
      refine CallTo.det (c_impl_Tree_clone n1 n2 n3 t hx) fun _ => ?_
      simp (config := { maxSteps := 4000000 }) only [go_sem, simprocAttr, ↓dnA, Tryz.f29, rows_length, encT, encTF, h1, h2]
    | true =>
      have hb := inB_iff.1 h2
      obtain ⟨k, hk⟩ : ∃ k : Nat, n = (k : Int) := ⟨n.toNat, by omega⟩
      subst hk
      have hkl : k < t.blocks.length := by omega
      have hbk := t.blk_get k hkl
      have hbl := hx.list _ (List.getElem_mem hkl)
      rw [hbk] at hbl
      have hso : (storeOf t (k : Int)).length ≤ 32 := by
        have := store_len (storeL_valid (afterV_ok ht (n := (k : Int)) (by omega)))
        unfold storeOf
        rw [h1, h2]
        exact this
      rw [Int.toNat_natCast]
      simp (config := { maxSteps := 4000000 }) only [go_sem, simprocAttr, ↓dnA, Tryz.f29, rows_length, encT, h1, h2]
      refine semL_draw tab_ok mixed_ rfl (ord := [(0, []), (1, []), (2, []), (3, []), (4, []), (5, []), (6, []), (8, []), (9, []), (7, [0, 1, 2, 3, 4, 8, 9]), (10, []), (11, []), (12, []), (13, []), (14, [0, 1, 2, 3, 4, 5, 6, 8, 9, 11, 12, 13]), (15, [13]), (16, [])]) (by dsimp only; decide +kernel) ?_
      simp (config := { maxSteps := 4000000 }) only [go_sem, simprocAttr, ↓dnA, Tryz.f29, rows_length, encT, h1, h2, nlt hkl, hkl, rows_get _ _ _ hkl, hbk, encB1, encBk, nn0]
      refine CallTo.det (c_impl_StoreOf n1 n2 n3 t k hx.sz) fun _ => ?_
      simp (config := { maxSteps := 4000000 }) only [go_sem, simprocAttr, ↓dnA, Tryz.f29, rows_length, encT, h1, h2, nlt hkl, hkl, rows_get _ _ _ hkl, hbk, encB1, encBk, nn0]
      have hpl := nextBlock_len (t.blk k) (storeOf t k) v l
      refine CallTo.det (c_impl_NextBlock none none n0 (t.blk k) (storeOf t k) v l hbl (by omega) hl) fun _ => ?_
      generalize nextBlock (t.blk k) (storeOf t k) v l = p at hpl
      obtain ⟨nb, ok⟩ := p
      dsimp only at hpl ⊢
      cases ok with
      | false =>
        simp (config := { maxSteps := 4000000 }) only [go_sem, simprocAttr, ↓dnA, Tryz.f29, rows_length, encT, h1, h2, nlt hkl, hkl, rows_get _ _ _ hkl, hbk, encB1, encBk, encBkF, nn0]
        refine CallTo.det (c_impl_Tree_clone n1 n2 n3 t hx) fun _ => ?_
        simp (config := { maxSteps := 4000000 }) only [go_sem, simprocAttr, ↓dnA, Tryz.f29, rows_length, encT, encTF, h1, h2, encBkF]
      | true =>
        simp (config := { maxSteps := 4000000 }) only [go_sem, simprocAttr, ↓dnA, Tryz.f29, rows_length, encT, h1, h2, nlt hkl, hkl, rows_get _ _ _ hkl, hbk, encB1, encBk, encBkF, nn0]
        refine CallTo.det (c_impl_PutBlock none n1 n2 n3 t nb hx (by omega)) fun _ => ?_
        simp (config := { maxSteps := 4000000 }) only [go_sem, simprocAttr, ↓dnA, Tryz.f29, rows_length, encT, encTF, h1, h2, encBkF]

end Go.Proofs.YthcfafpjkbbaoaaGreat

/- Trees that grow from one store: plain lemmas. -/
set_option linter.unusedSimpArgs false
set_option linter.unusedVariables false
set_option maxRecDepth 20000
set_option maxHeartbeats 4000000
namespace Go.Proofs.YthcfafpjkbbaoaaGreat
open Go Go.RowKit

theorem pairUp_bd : ∀ (l : List Int), ∀ x, x ∈ pairUp l → 0 ≤ x ∧ x ≤ 1000002
  | a :: b :: r => by
    intro x hx
    rcases List.mem_cons.1 hx with rfl | hx
    · have := moreI_bd (moreI 19 a) b
      show 0 ≤ moreI (moreI 19 a) b ∧ moreI (moreI 19 a) b ≤ 1000002
      omega
    · exact pairUp_bd r x hx
  | [] => fun x hx => by cases hx
  | [_] => fun x hx => by cases hx

theorem rootOf_bd {s : List Entry} (h : storeValid s = true) : 0 ≤ rootOf s ∧ rootOf s ≤ 1000002 := by
  unfold rootOf
  rw [if_pos h]
  have hl := upN_len1 s
  have hb := pairUp_bd (upN 4 (leaves s))
  rw [← upN_succ 4] at hb
  match hq : upN 5 (leaves s), hl with
  | [x], _ =>
    rw [hq] at hb
    exact hb x (by simp)

theorem firstBlock_valid {s : List Entry} (h : storeValid s = true) : blockValid (firstBlock s) = true := by
  have hr := rootOf_bd h
  unfold firstBlock
  rw [if_pos h]
  unfold blockValid
  simp only [Bool.and_eq_true]
  refine ⟨⟨⟨⟨⟨by decide, inB_iff.2 hr⟩, by decide⟩, by decide⟩, by decide⟩, by decide⟩

theorem treeOf_ok {s : List Entry} (h : storeValid s = true) : TreeOk (treeOf s) := by
  have ht : treeOf s = ⟨s, [firstBlock s], [-1]⟩ := by unfold treeOf; rw [if_pos h]
  rw [ht]
  refine ⟨h, ⟨by simp, by simp⟩, rfl, rfl, rfl, ?_, ?_, ?_⟩
  · intro i hi
    simp only [List.length_cons, List.length_nil] at hi
    obtain rfl : i = 0 := by omega
    exact firstBlock_valid h
  · intro i j hij hj
    simp only [List.length_cons, List.length_nil] at hj
    omega
  · intro k hk hk'
    simp only [List.length_cons, List.length_nil] at hk'
    omega

theorem lsum_le : ∀ (bs : List Block), (∀ b, b ∈ bs → b.list.length ≤ 10) → lsum bs ≤ 10 * bs.length
  | [], _ => Nat.le_refl _
  | b :: r, h => by
    have h1 := h b (List.mem_cons_self ..)
    have h2 := lsum_le r fun c hc => h c (List.mem_cons_of_mem _ hc)
    unfold lsum
    rw [List.length_cons]
    omega

theorem treeOk_s32 {t : Tree} (ht : TreeOk t) : TreeS32 t := by
  have h1 := store_len ht.store
  have h2 := ht.len
  have h3 := ht.bef
  have h4 := lsum_le t.blocks fun b hb => by
    obtain ⟨i, hi, rfl⟩ := List.getElem_of_mem hb
    rw [t.blk_get i hi]
    exact (blk_acts ht hi).2.1
  exact ⟨by unfold tsz; omega⟩

end Go.Proofs.YthcfafpjkbbaoaaGreat

