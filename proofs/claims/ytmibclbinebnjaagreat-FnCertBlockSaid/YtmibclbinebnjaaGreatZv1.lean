/- FnCertBlock (part 1): W111, C17 -/
import Derived.Test.YtmibclbinebnjaaGreatRows
import Derived.ProofKit
import Derived.Test.YtmibclbinebnjaaGreatV2

set_option linter.unusedSimpArgs false
set_option linter.unusedVariables false

/- Contracts: drawn certificates; FnCertBlock, FnCertifiedBlocks. -/
set_option linter.unusedSimpArgs false
set_option linter.unusedVariables false
set_option maxRecDepth 20000
set_option maxHeartbeats 4000000
namespace Go.Proofs.YtmibclbinebnjaaGreat
open Go Go.RowKit

def CertQ (nb : Option Bool) (bs : List Int) (p : Int) (r : AV) (b : List AV) : Prop := ∃ (c : Cert) (q : Int), r = .agg (encC c) ∧ b = rd nb bs q ∧ p ≤ q ∧ q ≤ p + 20

theorem c_spec_l20Cert (nb : Option Bool) (bs : List Int) (p n : Int) (n1 n2 n3 : Option Bool) (t : Tree) (h : RdOk bs p) (hp : p ≤ 999999000) (hn : 0 ≤ n ∧ n ≤ 1000000) (hts : tsz t ≤ 300) (hl1 : 1 ≤ t.blocks.length) :
    FSpec Tryz.prog 103 [.loc 0 0, .agg (encT n1 n2 n3 t), .int .i64 n] true (rd nb bs p) (CertQ nb bs p) := by
  refine fspec_rel tab_ok Tryz.call103 Tryz.func103 rfl 67 Tryz.ntmps103 (of_decide_eq_true rfl) fun B => codeK_sound tab_ok _ _ _ ?_
  unfold rd
  simp (config := { maxSteps := 4000000 }) only [go_sem, simprocAttr, ↓dnA, Tryz.f103, rows_length, tn0, tn1, tn2, tn3, tn4, encT]
  refine semL_draw tab_ok mixed_ rfl (ord := [(0, []), (1, []), (2, []), (3, []), (4, []), (5, []), (6, [0, 1]), (7, []), (8, []), (9, [0, 1, 2, 3, 4, 5, 7, 8]), (10, [])]) (by dsimp only; decide +kernel) ?_
  simp (config := { maxSteps := 4000000 }) only [go_sem, simprocAttr, ↓dnA, Tryz.f103, rows_length, tn0, tn1, tn2, tn3, tn4, encT]
  refine CallTo.of (c_spec_pick nb bs p (t.blocks.length : Int) h) ?_
  rintro r b ⟨m, rfl, rfl, hm⟩
  have hr1 := h.step (q := p + 1) (by omega) (by omega)
  obtain ⟨k, rfl⟩ : ∃ k : Nat, m = (k : Int) := ⟨m.toNat, by omega⟩
  have hk : k < t.blocks.length := by omega
  have hbk : (rows encB1 t.blocks).getD k [] = encB1 (t.blk k) := rows_gd encB1 t.blocks k hk
  have hkl : (t.blk k).list.length ≤ 300 := by
    have := lsum_mem t.blocks (t.blk k) (by rw [← t.blk_get k hk]; exact List.getElem_mem hk)
    unfold tsz at hts; omega
  generalize t.blk k = x at hbk hkl
  have hB := c_spec_BlockSum none x (by omega)
  generalize blockSum x = sm at hB
  simp (config := { maxSteps := 4000000 }) only [go_sem, simprocAttr, ↓dnA, Tryz.f103, rows_length, tn0, tn1, tn2, tn3, tn4, encT, rd, nlt hk, hk, nn0, hbk, encB1, encBk]
  refine semL_mid (fun a : Cert => ⟨67, [(0, .loc 900 0), (2, .int .i64 n), (4, .loc 4 0), (6, .loc 6 0), (7, .loc 7 0), (8, .loc 8 0)],
    [(900, .var (rd nb bs (p + 1 + 1 + 1))), (4, .var (encT n1 n2 n3 t)), (6, .var [.int .i64 0, .int .i64 0, .int .i64 0]), (7, .var (encBk none x)), (8, .var (encC a))]⟩) (fun _ => True) ?_ ?_
  · refine semL_slots tab_ok 9 [11] mixed_ rfl (by decide) (os := [([0, 7, 8, 1, 2, 3, 4, 5, 9, 10, 6, 11, 12, 13, 14, 15, 16], [(0, []), (3, []), (4, []), (5, []), (6, []), (7, []), (10, []), (1, [3, 4, 5, 6, 7, 10]), (2, []), (8, [3, 4, 5, 6, 10, 2]), (9, [3, 4, 5, 6, 10, 2]), (11, [3, 4, 5, 6, 2]), (12, []), (13, []), (14, []), (15, [0, 3, 4, 5, 6, 7, 10, 2, 12, 13, 14]), (16, [])]), ([0, 7, 8, 1, 2, 3, 4, 5, 9, 11, 6, 10, 12, 13, 14, 15, 16], [(0, []), (3, []), (4, []), (5, []), (6, []), (7, []), (10, []), (1, [3, 4, 5, 6, 7, 10]), (2, []), (8, [3, 4, 5, 6, 10, 2]), (11, [3, 4, 5, 6, 2]), (9, [3, 4, 5, 6, 2]), (12, []), (13, []), (14, []), (15, [0, 3, 4, 5, 6, 7, 10, 2, 12, 13, 14]), (16, [])])]) (by dsimp only; decide +kernel) ?_
    refine ⟨?_, ?_, trivial⟩
    all_goals
      simp (config := { maxSteps := 4000000 }) only [go_sem, simprocAttr, ↓dnA, Tryz.f103, rows_length, tn0, tn1, tn2, tn3, tn4, encT, rd, nlt hk, hk, nn0, hbk, encB1, encBk]
      refine CallTo.det hB fun _ => ?_
      simp (config := { maxSteps := 4000000 }) only [go_sem, simprocAttr, ↓dnA, Tryz.f103, rows_length, tn0, tn1, tn2, tn3, tn4, encT, rd, nlt hk, hk, nn0, hbk, encB1, encBk]
      refine CallTo.of (c_spec_pick nb bs (p + 1) 16 hr1) ?_
      rintro r b ⟨y, rfl, rfl, hy⟩
      have hr2 := h.step (q := p + 1 + 1) (by omega) (by omega)
      simp (config := { maxSteps := 4000000 }) only [go_sem, simprocAttr, ↓dnA, Tryz.f103, rows_length, tn0, tn1, tn2, tn3, tn4, encT, rd, nlt hk, hk, nn0, hbk, encB1, encBk]
      refine CallTo.of (c_spec_pick nb bs (p + 1 + 1) 5 hr2) ?_
      rintro r b ⟨z, rfl, rfl, hz⟩
      have hz5 : z = 0 ∨ z = 1 ∨ z = 2 ∨ z = 3 ∨ z = 4 := by omega
      rcases hz5 with rfl | rfl | rfl | rfl | rfl
      · simp (config := { maxSteps := 4000000 }) only [go_sem, simprocAttr, ↓dnA, Tryz.f103, rows_length, tn0, tn1, tn2, tn3, tn4, encT, rd, nlt hk, hk, nn0, hbk, encB1, encBk]
        refine ⟨⟨(if sm > 0 then sm else 0), (if (if x.view < 1000 then x.view else 1000) > 0 then (if x.view < 1000 then x.view else 1000) else 0), 7⟩, [(900, 900), (4, 4), (6, 6), (7, 7), (8, 8)], trivial, Weak.of (by rfl) ?_ ?_ (by rfl)⟩
        · simp (config := { maxSteps := 4000000 }) only [go_sem, simprocAttr, ↓dnA, Tryz.f103, rows_length, tn0, tn1, tn2, tn3, tn4, encT, rd, encBk, encC, frW, wk2, wk1, wkL, wkB, hpW, List.mem_cons, Prod.mk.injEq, exists_eq_left, exists_eq_right, exists_eq]
          try rfl
        · simp (config := { maxSteps := 4000000 }) only [go_sem, simprocAttr, ↓dnA, Tryz.f103, rows_length, tn0, tn1, tn2, tn3, tn4, encT, rd, frW, wk2, wk1, wkL, wkB, hpW, List.mem_cons, Prod.mk.injEq, exists_eq_left, exists_eq_right, exists_eq]
          try rfl
      · simp (config := { maxSteps := 4000000 }) only [go_sem, simprocAttr, ↓dnA, Tryz.f103, rows_length, tn0, tn1, tn2, tn3, tn4, encT, rd, nlt hk, hk, nn0, hbk, encB1, encBk]
        refine ⟨⟨(if sm > 0 then sm else 0), (if (if x.view < 1000 then x.view else 1000) > 0 then (if x.view < 1000 then x.view else 1000) else 0), 11⟩, [(900, 900), (4, 4), (6, 6), (7, 7), (8, 8)], trivial, Weak.of (by rfl) ?_ ?_ (by rfl)⟩
        · simp (config := { maxSteps := 4000000 }) only [go_sem, simprocAttr, ↓dnA, Tryz.f103, rows_length, tn0, tn1, tn2, tn3, tn4, encT, rd, encBk, encC, frW, wk2, wk1, wkL, wkB, hpW, List.mem_cons, Prod.mk.injEq, exists_eq_left, exists_eq_right, exists_eq]
          try rfl
        · simp (config := { maxSteps := 4000000 }) only [go_sem, simprocAttr, ↓dnA, Tryz.f103, rows_length, tn0, tn1, tn2, tn3, tn4, encT, rd, frW, wk2, wk1, wkL, wkB, hpW, List.mem_cons, Prod.mk.injEq, exists_eq_left, exists_eq_right, exists_eq]
          try rfl
      · simp (config := { maxSteps := 4000000 }) only [go_sem, simprocAttr, ↓dnA, Tryz.f103, rows_length, tn0, tn1, tn2, tn3, tn4, encT, rd, nlt hk, hk, nn0, hbk, encB1, encBk]
        refine ⟨⟨(if sm > 0 then sm else 0), (if (if x.view < 1000 then x.view else 1000) > 0 then (if x.view < 1000 then x.view else 1000) else 0), 14⟩, [(900, 900), (4, 4), (6, 6), (7, 7), (8, 8)], trivial, Weak.of (by rfl) ?_ ?_ (by rfl)⟩
        · simp (config := { maxSteps := 4000000 }) only [go_sem, simprocAttr, ↓dnA, Tryz.f103, rows_length, tn0, tn1, tn2, tn3, tn4, encT, rd, encBk, encC, frW, wk2, wk1, wkL, wkB, hpW, List.mem_cons, Prod.mk.injEq, exists_eq_left, exists_eq_right, exists_eq]
          try rfl
        · simp (config := { maxSteps := 4000000 }) only [go_sem, simprocAttr, ↓dnA, Tryz.f103, rows_length, tn0, tn1, tn2, tn3, tn4, encT, rd, frW, wk2, wk1, wkL, wkB, hpW, List.mem_cons, Prod.mk.injEq, exists_eq_left, exists_eq_right, exists_eq]
          try rfl
      · simp (config := { maxSteps := 4000000 }) only [go_sem, simprocAttr, ↓dnA, Tryz.f103, rows_length, tn0, tn1, tn2, tn3, tn4, encT, rd, nlt hk, hk, nn0, hbk, encB1, encBk]
        refine ⟨⟨(if sm > 0 then sm else 0), (if (if x.view < 1000 then x.view else 1000) > 0 then (if x.view < 1000 then x.view else 1000) else 0), 15⟩, [(900, 900), (4, 4), (6, 6), (7, 7), (8, 8)], trivial, Weak.of (by rfl) ?_ ?_ (by rfl)⟩
        · simp (config := { maxSteps := 4000000 }) only [go_sem, simprocAttr, ↓dnA, Tryz.f103, rows_length, tn0, tn1, tn2, tn3, tn4, encT, rd, encBk, encC, frW, wk2, wk1, wkL, wkB, hpW, List.mem_cons, Prod.mk.injEq, exists_eq_left, exists_eq_right, exists_eq]
          try rfl
        · simp (config := { maxSteps := 4000000 }) only [go_sem, simprocAttr, ↓dnA, Tryz.f103, rows_length, tn0, tn1, tn2, tn3, tn4, encT, rd, frW, wk2, wk1, wkL, wkB, hpW, List.mem_cons, Prod.mk.injEq, exists_eq_left, exists_eq_right, exists_eq]
          try rfl
      · simp (config := { maxSteps := 4000000 }) only [go_sem, simprocAttr, ↓dnA, Tryz.f103, rows_length, tn0, tn1, tn2, tn3, tn4, encT, rd, nlt hk, hk, nn0, hbk, encB1, encBk]
        refine ⟨⟨(if sm > 0 then sm else 0), (if (if x.view < 1000 then x.view else 1000) > 0 then (if x.view < 1000 then x.view else 1000) else 0), y⟩, [(900, 900), (4, 4), (6, 6), (7, 7), (8, 8)], trivial, Weak.of (by rfl) ?_ ?_ (by rfl)⟩
        · simp (config := { maxSteps := 4000000 }) only [go_sem, simprocAttr, ↓dnA, Tryz.f103, rows_length, tn0, tn1, tn2, tn3, tn4, encT, rd, encBk, encC, frW, wk2, wk1, wkL, wkB, hpW, List.mem_cons, Prod.mk.injEq, exists_eq_left, exists_eq_right, exists_eq]
          try rfl
        · simp (config := { maxSteps := 4000000 }) only [go_sem, simprocAttr, ↓dnA, Tryz.f103, rows_length, tn0, tn1, tn2, tn3, tn4, encT, rd, frW, wk2, wk1, wkL, wkB, hpW, List.mem_cons, Prod.mk.injEq, exists_eq_left, exists_eq_right, exists_eq]
          try rfl
  rintro c -
  have hr3 := h.step (q := p + 1 + 1 + 1) (by omega) (by omega)
  obtain ⟨sm1, vi1, sg1⟩ := c
  simp (config := { maxSteps := 4000000 }) only [go_sem, simprocAttr, ↓dnA, Tryz.f103, rows_length, tn0, tn1, tn2, tn3, tn4, encC, rd]
  refine CallTo.of (c_spec_odd nb bs (p + 1 + 1 + 1) 9 hr3 (by omega)) ?_
  rintro r b ⟨g1, q1, rfl, rfl, hq1, hq1'⟩
  have hr4 := h.step (q := q1) (by omega) (by omega)
  obtain ⟨vi2, hv2⟩ : ∃ v, v = IntKind.i64.wrap (vi1 + 1) := ⟨_, rfl⟩
  cases g1
  all_goals
    simp (config := { maxSteps := 4000000 }) only [go_sem, simprocAttr, ↓dnA, Tryz.f103, rows_length, tn0, tn1, tn2, tn3, tn4, encC, rd, ← hv2]
    refine CallTo.of (c_spec_odd nb bs q1 n hr4 hn) ?_
    rintro r b ⟨g2, q2, rfl, rfl, hq2, hq2'⟩
    have hr5 := h.step (q := q2) (by omega) (by omega)
    cases g2 with
    | false =>
      simp (config := { maxSteps := 4000000 }) only [go_sem, simprocAttr, ↓dnA, Tryz.f103, rows_length, tn0, tn1, tn2, tn3, tn4, encC, rd, ← hv2]
      exact .same ⟨⟨_, _, _⟩, q2, rfl, rfl, by omega, by omega⟩
    | true =>
      simp (config := { maxSteps := 4000000 }) only [go_sem, simprocAttr, ↓dnA, Tryz.f103, rows_length, tn0, tn1, tn2, tn3, tn4, encC, rd, ← hv2]
      refine CallTo.of (c_spec_pick nb bs q2 3 hr5) ?_
      rintro r b ⟨z, rfl, rfl, hz⟩
      have hr6 := h.step (q := q2 + 1) (by omega) (by omega)
      have hz3 : z = 0 ∨ z = 1 ∨ z = 2 := by omega
      rcases hz3 with rfl | rfl | rfl
      all_goals
        simp (config := { maxSteps := 4000000 }) only [go_sem, simprocAttr, ↓dnA, Tryz.f103, rows_length, tn0, tn1, tn2, tn3, tn4, encC, rd, ← hv2]
        refine CallTo.of (c_spec_pick nb bs (q2 + 1) 2 hr6) ?_
        rintro r b ⟨y, rfl, rfl, hy⟩
        have hy2 : y = 0 ∨ y = 1 := by omega
        rcases hy2 with rfl | rfl
        all_goals
          simp (config := { maxSteps := 4000000 }) only [go_sem, simprocAttr, ↓dnA, Tryz.f103, rows_length, tn0, tn1, tn2, tn3, tn4, encC, rd, ← hv2]
          exact .same ⟨⟨_, _, _⟩, q2 + 1 + 1, rfl, rfl, by omega, by omega⟩

def DrawCBQ (r : AV) (b : List AV) : Prop := ∃ (t : Tree) (c : Cert), r = .tup [.agg (encT none none none t), .agg (encC c)] ∧ tsz t ≤ 300 ∧ 1 ≤ t.blocks.length

theorem c_spec_DrawCertBlock (nb : Option Bool) (bs : List Int) (h : CodeOk bs) : FSpec Tryz.prog 24 [.sl nb (rows encB bs)] false [] DrawCBQ := by
  refine fspec_rel tab_ok Tryz.call24 Tryz.func24 rfl 14 Tryz.ntmps24 (of_decide_eq_true rfl) fun B => codeK_sound tab_ok _ _ _ ?_
  simp (config := { maxSteps := 4000000 }) only [go_sem, simprocAttr, ↓dnA, Tryz.f24, rows_length]
  refine CallTo.of (c_spec_l20Open nb bs h) ?_
  rintro r b rfl
  unfold rd
  simp (config := { maxSteps := 4000000 }) only [go_sem, simprocAttr, ↓dnA, Tryz.f24, rows_length]
  have h0 := code_take h
  generalize bs.take 2000 = bs at h0
  refine CallTo.of (c_spec_l20TreeP nb _ 0 12 h0 (by omega) (by omega)) ?_
  rintro r b ⟨t, q, rfl, rfl, hq1, hq2, hts, hl1, hl2⟩
  have hq := h0.step (q := q) (by omega) (by omega)
  simp (config := { maxSteps := 4000000 }) only [go_sem, simprocAttr, ↓dnA, Tryz.f24, rows_length, rd, encT]
  refine semL_draw tab_ok mixed_ rfl (ord := [(0, []), (1, []), (2, []), (3, [0]), (4, []), (5, [])]) (by dsimp only; decide +kernel) ?_
  simp (config := { maxSteps := 4000000 }) only [go_sem, simprocAttr, ↓dnA, Tryz.f24, rows_length, rd, encT]
  refine CallTo.of (c_spec_l20Cert nb bs q 9 none none none t hq (by omega) (by omega) hts hl1) ?_
  rintro r b ⟨c, q2, rfl, rfl, _, _⟩
  simp (config := { maxSteps := 4000000 }) only [go_sem, simprocAttr, ↓dnA, Tryz.f24, rows_length, rd, encT, encC]
  exact .same ⟨t, c, by simp [encT, encC], hts, hl1⟩

theorem certBlock_facts {t : Tree} {c : Cert} {i : Nat} (h : certBlock t c = (i : Int)) : i < t.blocks.length ∧ blockSum (t.blk i) = c.sum ∧ (t.blk i).view = c.view ∧ certCounts c = true := by
  unfold certBlock at h
  split at h
  · rename_i h1
    split at h
    · omega
    · rename_i h2
      split at h
      · rename_i h3
        rcases findB_cases t c.sum with ⟨h4, _⟩ | ⟨j, hj, h4, h5, _⟩
        · omega
        · rw [h4] at h h3
          have e : j = i := by omega
          subst e
          rw [Int.toNat_natCast] at h3
          exact ⟨hj, h5, h3, h1⟩
      · omega
  · omega
theorem certBlock_none (t : Tree) (s v : Int) : certBlock t ⟨s, v, 0⟩ = -1 := by
  have : certCounts ⟨s, v, 0⟩ = false := by
    have e : many 0 = 0 := by decide
    show (certValid ⟨s, v, 0⟩ && decide (many 0 ≥ 3)) = false
    rw [e]
    simp
  unfold certBlock
  rw [this]; rfl

theorem c_laws_FnCertBlock (nb : Option Bool) (bs : List Int) (h : ∀ b, b ∈ bs → 0 ≤ b ∧ b ≤ 255) : Det Tryz.prog 4 [.sl nb (rows encB bs)] (.bool true) := by
  refine fspec_det tab_ok Tryz.call4 Tryz.func4 rfl 70 Tryz.ntmps4 (of_decide_eq_true rfl) fun B => codeK_sound tab_ok _ _ _ ?_
  simp (config := { maxSteps := 4000000 }) only [go_sem, simprocAttr, ↓dnA, Tryz.f4, rows_length]
  intro hl
  have hc : CodeOk bs := ⟨h, by simp at hl; omega⟩
  refine CallTo.of (c_spec_DrawCertBlock nb bs hc) ?_
  rintro r b ⟨t, c, rfl, hts, hl1⟩
  have hx : TreeSz t := tsz_sz (m := 300) hts (by decide)
  have hI := c_impl_CertBlock none none none t c hx
  have hS := c_spec_CertBlock none none none t c hx
  have hq : (if treeValid t then certBlock t c else -1) = -1 ∨ ∃ i : Nat, treeValid t = true ∧ certBlock t c = (i : Int) ∧ (if treeValid t then certBlock t c else -1) = (i : Int) := by
    split
    · rename_i hv
      rcases certBlock_cases t c with e | ⟨i, _, e⟩
      · exact .inl e
      · exact .inr ⟨i, hv, e, e⟩
    · exact .inl rfl
  generalize (if treeValid t then certBlock t c else -1) = q at hI hS hq
  have hqq : (q != q) = false := by simp
  simp (config := { maxSteps := 4000000 }) only [go_sem, simprocAttr, ↓dnA, Tryz.f4, rows_length, encT, encC]
  refine CallTo.det hI fun _ => ?_
  simp (config := { maxSteps := 4000000 }) only [go_sem, simprocAttr, ↓dnA, Tryz.f4, rows_length, encT, encC]
  refine CallTo.det hS fun _ => ?_
  rcases hq with rfl | ⟨i, hv, hcb, rfl⟩
  · simp (config := { maxSteps := 4000000 }) only [go_sem, simprocAttr, ↓dnA, Tryz.f4, rows_length, encT, encC, hqq]
    refine CallTo.det c_laws_alive fun _ => ?_
    simp (config := { maxSteps := 4000000 }) only [go_sem, simprocAttr, ↓dnA, Tryz.f4, rows_length, encT, encC, hqq]
  · obtain ⟨f1, f2, f3, f4⟩ := certBlock_facts hcb
    have hbk : (rows encB1 t.blocks).getD i [] = encB1 (t.blk i) := rows_gd encB1 t.blocks i f1
    have hkl : (t.blk i).list.length ≤ 300 := by
      have := lsum_mem t.blocks (t.blk i) (by rw [← t.blk_get i f1]; exact List.getElem_mem f1)
      unfold tsz at hts; omega
    generalize t.blk i = x at hbk hkl f2 f3
    have hB := c_impl_BlockSum none x (by omega)
    have hC := c_impl_CertCounts c
    rw [f4] at hC
    have hN := c_impl_CertBlock none none none t ⟨c.sum, c.view, 0⟩ hx
    rw [if_pos hv, certBlock_none] at hN
    have e1 : (blockSum x == c.sum) = true := by simp [f2]
    have e2 : (x.view == c.view) = true := by simp [f3]
    have hneg : ((i : Int) < 0) = False := by simp
    simp (config := { maxSteps := 4000000 }) only [go_sem, simprocAttr, ↓dnA, Tryz.f4, rows_length, encT, encC, hqq, hneg]
    refine semL_draw tab_ok mixed_ rfl (ord := [(0, []), (1, []), (2, []), (3, []), (4, []), (5, []), (6, []), (7, []), (8, []), (9, []), (10, []), (12, []), (13, []), (11, [12, 13]), (14, []), (15, []), (16, []), (17, []), (18, []), (19, []), (20, []), (21, []), (22, []), (23, []), (24, []), (25, []), (26, []), (27, []), (28, []), (29, []), (30, []), (31, []), (32, []), (33, []), (34, []), (35, []), (36, []), (37, []), (38, []), (39, []), (40, []), (41, [])]) (by dsimp only; decide +kernel) ?_
    simp (config := { maxSteps := 4000000 }) only [go_sem, simprocAttr, ↓dnA, Tryz.f4, rows_length, encT, encC, hqq, hneg, nlt f1, f1, nn0, hbk, encB1, encBk]
    refine CallTo.det hB fun _ => ?_
    simp (config := { maxSteps := 4000000 }) only [go_sem, simprocAttr, ↓dnA, Tryz.f4, rows_length, encT, encC, hqq, hneg, nlt f1, f1, nn0, hbk, encB1, encBk, e1, e2]
    refine CallTo.det hC fun _ => ?_
    simp (config := { maxSteps := 4000000 }) only [go_sem, simprocAttr, ↓dnA, Tryz.f4, rows_length, encT, encC, hqq, hneg, nlt f1, f1, nn0, hbk, encB1, encBk, e1, e2]
    refine CallTo.det hN fun _ => ?_
    simp (config := { maxSteps := 4000000 }) only [go_sem, simprocAttr, ↓dnA, Tryz.f4, rows_length, encT, encC, hqq, hneg, nlt f1, f1, nn0, hbk, encB1, encBk, e1, e2]

end Go.Proofs.YtmibclbinebnjaaGreat

/- The law FnCertBlock, and its closed facts. -/
namespace Go.Proofs.YtmibclbinebnjaaGreat
open Go Go.ChangeShapes Go.WideShapes Go.ChangeAt Go.RowKit

theorem fnCertBlock_named : Tryz.pinned.checked.prog.funcNamed Rows.fnCertBlockRow.func = some 4 := by kernel_rfl
theorem fnCertBlock_inst : Tryz.f4.isInstance Tryz.pinned.checked.prog Rows.fnCertBlockRow.origin Rows.fnCertBlockRow.targs := of_decide_eq_true (by kernel_rfl)
theorem fnCertBlock_wrap : Tryz.f4.isWrapper Tryz.pinned.checked.prog Rows.fnCertBlockRow.wrapper Rows.fnCertBlockRow.mainSum := by
  unfold Func.isWrapper; first | (rw [if_pos (by decide +kernel)]; kernel_rfl) | (rw [if_neg (by decide +kernel)]; exact ⟨rfl, rfl⟩)
set_option maxRecDepth 100000 in
set_option maxHeartbeats 4000000 in
theorem fnCertBlock_closed : joinedFacts Tryz.pinned.checked.prog 4 Tryz.f4 Rows.fnCertBlockSpec Rows.fnCertBlockRow = true := by
  unfold joinedFacts
  simp only [Bool.and_eq_true]
  repeat' apply And.intro
  all_goals first
    | with_reducible exact c_enter
    | (rw [c_final]; as_aux_lemma => kernel_rfl)
    | (rw [c_make]; as_aux_lemma => kernel_rfl)
    | (as_aux_lemma => kernel_rfl)

end Go.Proofs.YtmibclbinebnjaaGreat

