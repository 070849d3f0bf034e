/- Shared texts H (part 6): W111, W115, W27, W30, W31, W67, W70, W74, W77, W78, W79, W113, W72, W80, W73, W98, W65, W105, W110, W125, Ty1, Ty4, Ty5, Ty6 -/
import Derived.Test.YtehbgjikmchaoaaGreatH5

set_option linter.unusedSimpArgs false
set_option linter.unusedVariables false

/- Contracts: drawn certificates; FnCertBlock, FnCertifiedBlocks. -/
set_option linter.unusedSimpArgs false
set_option linter.unusedVariables false
set_option maxRecDepth 20000
set_option maxHeartbeats 4000000
namespace Go.Proofs.YtehbgjikmchaoaaGreat
open Go Go.RowKit

def CertQ (nb : Option Bool) (bs : List Int) (p : Int) (r : AV) (b : List AV) : Prop := ∃ (c : Cert) (q : Int), r = .agg (encC c) ∧ b = rd nb bs q ∧ p ≤ q ∧ q ≤ p + 20

theorem c_spec_l20Cert (nb : Option Bool) (bs : List Int) (p n : Int) (n1 n2 n3 : Option Bool) (t : Tree) (h : RdOk bs p) (hp : p ≤ 999999000) (hn : 0 ≤ n ∧ n ≤ 1000000) (hts : tsz t ≤ 300) (hl1 : 1 ≤ t.blocks.length) :
    FSpec Tryz.prog 78 [.loc 0 0, .agg (encT n1 n2 n3 t), .int .i64 n] true (rd nb bs p) (CertQ nb bs p) := by
  refine fspec_rel tab_ok Tryz.call78 Tryz.func78 rfl 67 Tryz.ntmps78 (of_decide_eq_true rfl) fun B => codeK_sound tab_ok _ _ _ ?_
  unfold rd
  simp (config := { maxSteps := 4000000 }) only [go_sem, simprocAttr, ↓dnA, Tryz.f78, rows_length, tn0, tn1, tn2, tn3, tn4, encT]
  refine semL_draw tab_ok mixed_ rfl (ord := [(0, []), (1, []), (2, []), (3, []), (4, []), (5, []), (6, [0, 1]), (7, []), (8, []), (9, [0, 1, 2, 3, 4, 5, 7, 8]), (10, [])]) (by dsimp only; decide +kernel) ?_
  simp (config := { maxSteps := 4000000 }) only [go_sem, simprocAttr, ↓dnA, Tryz.f78, rows_length, tn0, tn1, tn2, tn3, tn4, encT]
  refine CallTo.of (c_spec_pick nb bs p (t.blocks.length : Int) h) ?_
  rintro r b ⟨m, rfl, rfl, hm⟩
  have hr1 := h.step (q := p + 1) (by omega) (by omega)
  obtain ⟨k, rfl⟩ : ∃ k : Nat, m = (k : Int) := ⟨m.toNat, by omega⟩
  have hk : k < t.blocks.length := by omega
  have hbk : (rows encB1 t.blocks).getD k [] = encB1 (t.blk k) := rows_gd encB1 t.blocks k hk
  have hkl : (t.blk k).list.length ≤ 300 := by
    have := lsum_mem t.blocks (t.blk k) (by rw [← t.blk_get k hk]; exact List.getElem_mem hk)
    unfold tsz at hts; omega
  generalize t.blk k = x at hbk hkl
  have hB := c_spec_BlockSum none x (by omega)
  generalize blockSum x = sm at hB
  simp (config := { maxSteps := 4000000 }) only [go_sem, simprocAttr, ↓dnA, Tryz.f78, rows_length, tn0, tn1, tn2, tn3, tn4, encT, rd, nlt hk, hk, nn0, hbk, encB1, encBk]
  refine semL_mid (fun a : Cert => ⟨67, [(0, .loc 900 0), (2, .int .i64 n), (4, .loc 4 0), (6, .loc 6 0), (7, .loc 7 0), (8, .loc 8 0)],
    [(900, .var (rd nb bs (p + 1 + 1 + 1))), (4, .var (encT n1 n2 n3 t)), (6, .var [.int .i64 0, .int .i64 0, .int .i64 0]), (7, .var (encBk none x)), (8, .var (encC a))]⟩) (fun _ => True) ?_ ?_
  · refine semL_slots tab_ok 9 [11] mixed_ rfl (by decide) (os := [([0, 7, 8, 1, 2, 3, 4, 5, 9, 10, 6, 11, 12, 13, 14, 15, 16], [(0, []), (3, []), (4, []), (5, []), (6, []), (7, []), (10, []), (1, [3, 4, 5, 6, 7, 10]), (2, []), (8, [3, 4, 5, 6, 10, 2]), (9, [3, 4, 5, 6, 10, 2]), (11, [3, 4, 5, 6, 2]), (12, []), (13, []), (14, []), (15, [0, 3, 4, 5, 6, 7, 10, 2, 12, 13, 14]), (16, [])]), ([0, 7, 8, 1, 2, 3, 4, 5, 9, 11, 6, 10, 12, 13, 14, 15, 16], [(0, []), (3, []), (4, []), (5, []), (6, []), (7, []), (10, []), (1, [3, 4, 5, 6, 7, 10]), (2, []), (8, [3, 4, 5, 6, 10, 2]), (11, [3, 4, 5, 6, 2]), (9, [3, 4, 5, 6, 2]), (12, []), (13, []), (14, []), (15, [0, 3, 4, 5, 6, 7, 10, 2, 12, 13, 14]), (16, [])])]) (by dsimp only; decide +kernel) ?_
    refine ⟨?_, ?_, trivial⟩
    all_goals
      simp (config := { maxSteps := 4000000 }) only [go_sem, simprocAttr, ↓dnA, Tryz.f78, rows_length, tn0, tn1, tn2, tn3, tn4, encT, rd, nlt hk, hk, nn0, hbk, encB1, encBk]
      refine CallTo.det hB fun _ => ?_
      simp (config := { maxSteps := 4000000 }) only [go_sem, simprocAttr, ↓dnA, Tryz.f78, rows_length, tn0, tn1, tn2, tn3, tn4, encT, rd, nlt hk, hk, nn0, hbk, encB1, encBk]
      refine CallTo.of (c_spec_pick nb bs (p + 1) 16 hr1) ?_
      rintro r b ⟨y, rfl, rfl, hy⟩
      have hr2 := h.step (q := p + 1 + 1) (by omega) (by omega)
      simp (config := { maxSteps := 4000000 }) only [go_sem, simprocAttr, ↓dnA, Tryz.f78, rows_length, tn0, tn1, tn2, tn3, tn4, encT, rd, nlt hk, hk, nn0, hbk, encB1, encBk]
      refine CallTo.of (c_spec_pick nb bs (p + 1 + 1) 5 hr2) ?_
      rintro r b ⟨z, rfl, rfl, hz⟩
      have hz5 : z = 0 ∨ z = 1 ∨ z = 2 ∨ z = 3 ∨ z = 4 := by omega
      rcases hz5 with rfl | rfl | rfl | rfl | rfl
      · simp (config := { maxSteps := 4000000 }) only [go_sem, simprocAttr, ↓dnA, Tryz.f78, rows_length, tn0, tn1, tn2, tn3, tn4, encT, rd, nlt hk, hk, nn0, hbk, encB1, encBk]
        refine ⟨⟨(if sm > 0 then sm else 0), (if (if x.view < 1000 then x.view else 1000) > 0 then (if x.view < 1000 then x.view else 1000) else 0), 7⟩, [(900, 900), (4, 4), (6, 6), (7, 7), (8, 8)], trivial, Weak.of (by rfl) ?_ ?_ (by rfl)⟩
        · simp (config := { maxSteps := 4000000 }) only [go_sem, simprocAttr, ↓dnA, Tryz.f78, rows_length, tn0, tn1, tn2, tn3, tn4, encT, rd, encBk, encC, frW, wk2, wk1, wkL, wkB, hpW, List.mem_cons, Prod.mk.injEq, exists_eq_left, exists_eq_right, exists_eq]
          try rfl
        · simp (config := { maxSteps := 4000000 }) only [go_sem, simprocAttr, ↓dnA, Tryz.f78, rows_length, tn0, tn1, tn2, tn3, tn4, encT, rd, frW, wk2, wk1, wkL, wkB, hpW, List.mem_cons, Prod.mk.injEq, exists_eq_left, exists_eq_right, exists_eq]
          try rfl
      · simp (config := { maxSteps := 4000000 }) only [go_sem, simprocAttr, ↓dnA, Tryz.f78, rows_length, tn0, tn1, tn2, tn3, tn4, encT, rd, nlt hk, hk, nn0, hbk, encB1, encBk]
        refine ⟨⟨(if sm > 0 then sm else 0), (if (if x.view < 1000 then x.view else 1000) > 0 then (if x.view < 1000 then x.view else 1000) else 0), 11⟩, [(900, 900), (4, 4), (6, 6), (7, 7), (8, 8)], trivial, Weak.of (by rfl) ?_ ?_ (by rfl)⟩
        · simp (config := { maxSteps := 4000000 }) only [go_sem, simprocAttr, ↓dnA, Tryz.f78, rows_length, tn0, tn1, tn2, tn3, tn4, encT, rd, encBk, encC, frW, wk2, wk1, wkL, wkB, hpW, List.mem_cons, Prod.mk.injEq, exists_eq_left, exists_eq_right, exists_eq]
          try rfl
        · simp (config := { maxSteps := 4000000 }) only [go_sem, simprocAttr, ↓dnA, Tryz.f78, rows_length, tn0, tn1, tn2, tn3, tn4, encT, rd, frW, wk2, wk1, wkL, wkB, hpW, List.mem_cons, Prod.mk.injEq, exists_eq_left, exists_eq_right, exists_eq]
          try rfl
      · simp (config := { maxSteps := 4000000 }) only [go_sem, simprocAttr, ↓dnA, Tryz.f78, rows_length, tn0, tn1, tn2, tn3, tn4, encT, rd, nlt hk, hk, nn0, hbk, encB1, encBk]
        refine ⟨⟨(if sm > 0 then sm else 0), (if (if x.view < 1000 then x.view else 1000) > 0 then (if x.view < 1000 then x.view else 1000) else 0), 14⟩, [(900, 900), (4, 4), (6, 6), (7, 7), (8, 8)], trivial, Weak.of (by rfl) ?_ ?_ (by rfl)⟩
        · simp (config := { maxSteps := 4000000 }) only [go_sem, simprocAttr, ↓dnA, Tryz.f78, rows_length, tn0, tn1, tn2, tn3, tn4, encT, rd, encBk, encC, frW, wk2, wk1, wkL, wkB, hpW, List.mem_cons, Prod.mk.injEq, exists_eq_left, exists_eq_right, exists_eq]
          try rfl
        · simp (config := { maxSteps := 4000000 }) only [go_sem, simprocAttr, ↓dnA, Tryz.f78, rows_length, tn0, tn1, tn2, tn3, tn4, encT, rd, frW, wk2, wk1, wkL, wkB, hpW, List.mem_cons, Prod.mk.injEq, exists_eq_left, exists_eq_right, exists_eq]
          try rfl
      · simp (config := { maxSteps := 4000000 }) only [go_sem, simprocAttr, ↓dnA, Tryz.f78, rows_length, tn0, tn1, tn2, tn3, tn4, encT, rd, nlt hk, hk, nn0, hbk, encB1, encBk]
        refine ⟨⟨(if sm > 0 then sm else 0), (if (if x.view < 1000 then x.view else 1000) > 0 then (if x.view < 1000 then x.view else 1000) else 0), 15⟩, [(900, 900), (4, 4), (6, 6), (7, 7), (8, 8)], trivial, Weak.of (by rfl) ?_ ?_ (by rfl)⟩
        · simp (config := { maxSteps := 4000000 }) only [go_sem, simprocAttr, ↓dnA, Tryz.f78, rows_length, tn0, tn1, tn2, tn3, tn4, encT, rd, encBk, encC, frW, wk2, wk1, wkL, wkB, hpW, List.mem_cons, Prod.mk.injEq, exists_eq_left, exists_eq_right, exists_eq]
          try rfl
        · simp (config := { maxSteps := 4000000 }) only [go_sem, simprocAttr, ↓dnA, Tryz.f78, rows_length, tn0, tn1, tn2, tn3, tn4, encT, rd, frW, wk2, wk1, wkL, wkB, hpW, List.mem_cons, Prod.mk.injEq, exists_eq_left, exists_eq_right, exists_eq]
          try rfl
      · simp (config := { maxSteps := 4000000 }) only [go_sem, simprocAttr, ↓dnA, Tryz.f78, rows_length, tn0, tn1, tn2, tn3, tn4, encT, rd, nlt hk, hk, nn0, hbk, encB1, encBk]
        refine ⟨⟨(if sm > 0 then sm else 0), (if (if x.view < 1000 then x.view else 1000) > 0 then (if x.view < 1000 then x.view else 1000) else 0), y⟩, [(900, 900), (4, 4), (6, 6), (7, 7), (8, 8)], trivial, Weak.of (by rfl) ?_ ?_ (by rfl)⟩
        · simp (config := { maxSteps := 4000000 }) only [go_sem, simprocAttr, ↓dnA, Tryz.f78, rows_length, tn0, tn1, tn2, tn3, tn4, encT, rd, encBk, encC, frW, wk2, wk1, wkL, wkB, hpW, List.mem_cons, Prod.mk.injEq, exists_eq_left, exists_eq_right, exists_eq]
          try rfl
        · simp (config := { maxSteps := 4000000 }) only [go_sem, simprocAttr, ↓dnA, Tryz.f78, rows_length, tn0, tn1, tn2, tn3, tn4, encT, rd, frW, wk2, wk1, wkL, wkB, hpW, List.mem_cons, Prod.mk.injEq, exists_eq_left, exists_eq_right, exists_eq]
          try rfl
  rintro c -
  have hr3 := h.step (q := p + 1 + 1 + 1) (by omega) (by omega)
  obtain ⟨sm1, vi1, sg1⟩ := c
  simp (config := { maxSteps := 4000000 }) only [go_sem, simprocAttr, ↓dnA, Tryz.f78, rows_length, tn0, tn1, tn2, tn3, tn4, encC, rd]
  refine CallTo.of (c_spec_odd nb bs (p + 1 + 1 + 1) 9 hr3 (by omega)) ?_
  rintro r b ⟨g1, q1, rfl, rfl, hq1, hq1'⟩
  have hr4 := h.step (q := q1) (by omega) (by omega)
  obtain ⟨vi2, hv2⟩ : ∃ v, v = IntKind.i64.wrap (vi1 + 1) := ⟨_, rfl⟩
  cases g1
  all_goals
    simp (config := { maxSteps := 4000000 }) only [go_sem, simprocAttr, ↓dnA, Tryz.f78, rows_length, tn0, tn1, tn2, tn3, tn4, encC, rd, ← hv2]
    refine CallTo.of (c_spec_odd nb bs q1 n hr4 hn) ?_
    rintro r b ⟨g2, q2, rfl, rfl, hq2, hq2'⟩
    have hr5 := h.step (q := q2) (by omega) (by omega)
    cases g2 with
    | false =>
      simp (config := { maxSteps := 4000000 }) only [go_sem, simprocAttr, ↓dnA, Tryz.f78, rows_length, tn0, tn1, tn2, tn3, tn4, encC, rd, ← hv2]
      exact .same ⟨⟨_, _, _⟩, q2, rfl, rfl, by omega, by omega⟩
    | true =>
      simp (config := { maxSteps := 4000000 }) only [go_sem, simprocAttr, ↓dnA, Tryz.f78, rows_length, tn0, tn1, tn2, tn3, tn4, encC, rd, ← hv2]
      refine CallTo.of (c_spec_pick nb bs q2 3 hr5) ?_
      rintro r b ⟨z, rfl, rfl, hz⟩
      have hr6 := h.step (q := q2 + 1) (by omega) (by omega)
      have hz3 : z = 0 ∨ z = 1 ∨ z = 2 := by omega
      rcases hz3 with rfl | rfl | rfl
      all_goals
        simp (config := { maxSteps := 4000000 }) only [go_sem, simprocAttr, ↓dnA, Tryz.f78, rows_length, tn0, tn1, tn2, tn3, tn4, encC, rd, ← hv2]
        refine CallTo.of (c_spec_pick nb bs (q2 + 1) 2 hr6) ?_
        rintro r b ⟨y, rfl, rfl, hy⟩
        have hy2 : y = 0 ∨ y = 1 := by omega
        rcases hy2 with rfl | rfl
        all_goals
          simp (config := { maxSteps := 4000000 }) only [go_sem, simprocAttr, ↓dnA, Tryz.f78, rows_length, tn0, tn1, tn2, tn3, tn4, encC, rd, ← hv2]
          exact .same ⟨⟨_, _, _⟩, q2 + 1 + 1, rfl, rfl, by omega, by omega⟩

end Go.Proofs.YtehbgjikmchaoaaGreat

/- Contracts: drawn lists of certificates; FnCertifiedBlocks. -/
set_option linter.unusedSimpArgs false
set_option linter.unusedVariables false
set_option maxRecDepth 20000
set_option maxHeartbeats 4000000
namespace Go.Proofs.YtehbgjikmchaoaaGreat
open Go Go.RowKit

def CertsQ (nb : Option Bool) (bs : List Int) (p : Int) (r : AV) (b : List AV) : Prop := ∃ (cs : List Cert) (q : Int), r = .osl true 3 (rows encC cs) ∧ b = rd nb bs q ∧ p ≤ q ∧ q ≤ p + 200 ∧ cs.length ≤ 40

theorem c_spec_l20Certs (nb : Option Bool) (bs : List Int) (p : Int) (n1 n2 n3 : Option Bool) (t : Tree) (h : RdOk bs p) (hp : p ≤ 999998000) (hts : tsz t ≤ 300) (hl1 : 1 ≤ t.blocks.length) (hl2 : t.blocks.length ≤ 14) :
    FSpec Tryz.prog 42 [.loc 0 0, .agg (encT n1 n2 n3 t)] true (rd nb bs p) (CertsQ nb bs p) := by
  refine fspec_rel tab_ok Tryz.call42 Tryz.func42 rfl 53 Tryz.ntmps42 (of_decide_eq_true rfl) fun B => codeK_sound tab_ok _ _ _ ?_
  unfold rd
  simp (config := { maxSteps := 4000000 }) only [go_sem, simprocAttr, ↓dnA, Tryz.f42, rows_length, tn0, tn1, tn2, tn3, tn4, encT]
  refine semL_for tab_ok (fun s : List Cert × Nat × Int => ⟨53, [(0, .loc 900 0), (3, .loc 3 0), (4, .sl (some false) []), (5, .row 600 s.1.length), (6, .int .i64 s.2.1)],
      [(900, .var (rd nb bs s.2.2)), (3, .var (encT n1 n2 n3 t)), (600, .row true true 3 (rows encC s.1))]⟩) (fun s => t.blocks.length - s.2.1)
    (fun s => s.2.1 ≤ t.blocks.length ∧ s.1.length ≤ s.2.1 ∧ p ≤ s.2.2 ∧ s.2.2 ≤ p + 2 * s.2.1) ([], 1, p) [(900, 900), (3, 3), (7, 600)] (Weak.of (by rfl) ?_ ?_ (by rfl)) ⟨by dsimp only; omega, by dsimp only; simp, by dsimp only; omega, by dsimp only; omega⟩ ?_
  · simp (config := { maxSteps := 4000000 }) only [go_sem, simprocAttr, ↓dnA, Tryz.f42, rows_length, tn0, tn1, tn2, tn3, tn4, rd, encT, frW, wk2, wk1, wkL, wkB, hpW, List.mem_cons, Prod.mk.injEq, exists_eq_left, exists_eq_right, exists_eq]
    try rfl
  · simp (config := { maxSteps := 4000000 }) only [go_sem, simprocAttr, ↓dnA, Tryz.f42, rows_length, tn0, tn1, tn2, tn3, tn4, rd, List.length_nil, frW, wk2, wk1, wkL, wkB, hpW, List.mem_cons, Prod.mk.injEq, exists_eq_left, exists_eq_right, exists_eq]
    try rfl
  · rintro ⟨cs, i, q⟩ ⟨i1, i2, i3, i4⟩
    dsimp only at i1 i2 i3 i4 ⊢
    have hq := h.step (q := q) (by omega) (by omega)
    have htk : (rows encC cs).take cs.length = rows encC cs := by rw [List.take_of_length_le]; rw [rows_length]; omega
    by_cases hi : i < t.blocks.length
    · have hw : IntKind.i64.wrap ((i : Int) + 1) = ((i + 1 : Nat) : Int) := wsucc hi (by omega)
      have hbk : (rows encB1 t.blocks).getD i [] = encB1 (t.blk i) := rows_gd encB1 t.blocks i hi
      have hkl : (t.blk i).list.length ≤ 300 := by
        have := lsum_mem t.blocks (t.blk i) (by rw [← t.blk_get i hi]; exact List.getElem_mem hi)
        unfold tsz at hts; omega
      generalize t.blk i = x at hbk hkl
      have hB := c_spec_BlockSum none x (by omega)
      generalize blockSum x = sm at hB
      simp (config := { maxSteps := 4000000 }) only [go_sem, simprocAttr, ↓dnA, Tryz.f42, rows_length, tn0, tn1, tn2, tn3, tn4, rd, encT, nlt hi]
      refine CallTo.of (c_spec_pick nb bs q 6 hq) ?_
      rintro r b ⟨z, rfl, rfl, hz⟩
      have hr1 := h.step (q := q + 1) (by omega) (by omega)
      cases hz0 : decide (z > 0) with
      | false =>
        simp (config := { maxSteps := 4000000 }) only [go_sem, simprocAttr, ↓dnA, Tryz.f42, rows_length, tn0, tn1, tn2, tn3, tn4, rd, encT, nlt hi, hz0, hw]
        refine ⟨(cs, i + 1, q + 1), [(900, 900), (3, 3), (600, 600)], ⟨by dsimp only; omega, by dsimp only; omega, by dsimp only; omega, by dsimp only; omega⟩, by dsimp only; omega, Weak.of (by rfl) ?_ ?_ (by rfl)⟩
        · simp (config := { maxSteps := 4000000 }) only [go_sem, simprocAttr, ↓dnA, Tryz.f42, rows_length, tn0, tn1, tn2, tn3, tn4, rd, encT, frW, wk2, wk1, wkL, wkB, hpW, List.mem_cons, Prod.mk.injEq, exists_eq_left, exists_eq_right, exists_eq]
          try rfl
        · simp (config := { maxSteps := 4000000 }) only [go_sem, simprocAttr, ↓dnA, Tryz.f42, rows_length, tn0, tn1, tn2, tn3, tn4, rd, frW, wk2, wk1, wkL, wkB, hpW, List.mem_cons, Prod.mk.injEq, exists_eq_left, exists_eq_right, exists_eq]
          try rfl
      | true =>
        simp (config := { maxSteps := 4000000 }) only [go_sem, simprocAttr, ↓dnA, Tryz.f42, rows_length, tn0, tn1, tn2, tn3, tn4, rd, encT, nlt hi, hz0, hw]
        refine semL_slotsL tab_ok 15 [6, 17] 23 mixed_ rfl (by decide) (os := [([0, 1, 2, 3, 4, 5, 15, 16, 6, 7, 8, 9, 10, 11, 12, 14, 13, 17, 18, 19, 20, 21, 22], [(0, []), (1, []), (2, []), (3, []), (4, []), (5, []), (8, []), (9, []), (10, []), (11, []), (12, []), (13, []), (14, []), (16, []), (15, [0, 1, 2, 3, 4, 5, 8, 9, 10, 11, 12, 13, 14, 16]), (6, [0, 8, 9, 10, 11, 12, 13, 14, 16]), (7, []), (17, [0, 8, 9, 10, 11, 12, 13, 14, 7]), (18, []), (19, []), (20, []), (21, [0]), (22, [])]), ([0, 1, 2, 3, 4, 5, 14, 15, 6, 7, 8, 9, 10, 11, 12, 16, 13, 17, 18, 19, 20, 21, 22], [(0, []), (1, []), (2, []), (3, []), (4, []), (5, []), (8, []), (9, []), (10, []), (11, []), (12, []), (13, []), (14, []), (16, []), (6, [0, 8, 9, 10, 11, 12, 13, 14, 16]), (7, []), (15, [0, 8, 9, 10, 11, 12, 13, 14, 16, 7]), (17, [0, 8, 9, 10, 11, 12, 13, 14, 7]), (18, []), (19, []), (20, []), (21, [0]), (22, [])]), ([0, 1, 2, 3, 4, 5, 14, 15, 6, 7, 8, 9, 10, 11, 12, 17, 13, 16, 18, 19, 20, 21, 22], [(0, []), (1, []), (2, []), (3, []), (4, []), (5, []), (8, []), (9, []), (10, []), (11, []), (12, []), (13, []), (14, []), (16, []), (6, [0, 8, 9, 10, 11, 12, 13, 14, 16]), (7, []), (17, [0, 8, 9, 10, 11, 12, 13, 14, 7]), (15, [0, 8, 9, 10, 11, 12, 13, 14, 7]), (18, []), (19, []), (20, []), (21, [0]), (22, [])])]) (by dsimp only; decide +kernel) ?_
        refine ⟨?_, ?_, ?_, trivial⟩
        all_goals
          simp (config := { maxSteps := 4000000 }) only [go_sem, simprocAttr, ↓dnA, Tryz.f42, rows_length, tn0, tn1, tn2, tn3, tn4, rd, encT, nlt hi, hi, nn0, hbk, encB1, encBk, hz0, hw]
          refine CallTo.det hB fun _ => ?_
          simp (config := { maxSteps := 4000000 }) only [go_sem, simprocAttr, ↓dnA, Tryz.f42, rows_length, tn0, tn1, tn2, tn3, tn4, rd, encT, nlt hi, hi, nn0, hbk, encB1, encBk, hz0, hw]
          refine CallTo.of (c_spec_pick nb bs (q + 1) 4 hr1) ?_
          rintro r b ⟨y, rfl, rfl, hy⟩
          have hy4 : y = 0 ∨ y = 1 ∨ y = 2 ∨ y = 3 := by omega
          rcases hy4 with rfl | rfl | rfl | rfl
          · simp (config := { maxSteps := 4000000 }) only [go_sem, simprocAttr, ↓dnA, Tryz.f42, rows_length, tn0, tn1, tn2, tn3, tn4, rd, encT, nlt hi, hi, nn0, hbk, encB1, encBk, hz0, hw, htk]
            repeat refine And.intro (by first | omega | (simp; done) | (simp; omega) | assumption) ?_
            refine ⟨(cs ++ [⟨(if sm > 0 then sm else 0), (if x.view > 0 then x.view else 0), 7⟩], i + 1, q + 1 + 1), [(900, 900), (3, 3), (40, 600)], ⟨by dsimp only; omega, by dsimp only; simp; omega, by dsimp only; omega, by dsimp only; omega⟩, by dsimp only; omega, Weak.of (by rfl) ?_ ?_ (by rfl)⟩
            · simp (config := { maxSteps := 4000000 }) only [go_sem, simprocAttr, ↓dnA, Tryz.f42, rows_length, tn0, tn1, tn2, tn3, tn4, rd, encT, ← rows_snoc, encC, frW, wk2, wk1, wkL, wkB, hpW, List.mem_cons, Prod.mk.injEq, exists_eq_left, exists_eq_right, exists_eq]
              try rfl
            · simp (config := { maxSteps := 4000000 }) only [go_sem, simprocAttr, ↓dnA, Tryz.f42, rows_length, tn0, tn1, tn2, tn3, tn4, rd, List.length_append, frW, wk2, wk1, wkL, wkB, hpW, List.mem_cons, Prod.mk.injEq, exists_eq_left, exists_eq_right, exists_eq]
              try rfl
          · simp (config := { maxSteps := 4000000 }) only [go_sem, simprocAttr, ↓dnA, Tryz.f42, rows_length, tn0, tn1, tn2, tn3, tn4, rd, encT, nlt hi, hi, nn0, hbk, encB1, encBk, hz0, hw, htk]
            repeat refine And.intro (by first | omega | (simp; done) | (simp; omega) | assumption) ?_
            refine ⟨(cs ++ [⟨(if sm > 0 then sm else 0), (if x.view > 0 then x.view else 0), 13⟩], i + 1, q + 1 + 1), [(900, 900), (3, 3), (40, 600)], ⟨by dsimp only; omega, by dsimp only; simp; omega, by dsimp only; omega, by dsimp only; omega⟩, by dsimp only; omega, Weak.of (by rfl) ?_ ?_ (by rfl)⟩
            · simp (config := { maxSteps := 4000000 }) only [go_sem, simprocAttr, ↓dnA, Tryz.f42, rows_length, tn0, tn1, tn2, tn3, tn4, rd, encT, ← rows_snoc, encC, frW, wk2, wk1, wkL, wkB, hpW, List.mem_cons, Prod.mk.injEq, exists_eq_left, exists_eq_right, exists_eq]
              try rfl
            · simp (config := { maxSteps := 4000000 }) only [go_sem, simprocAttr, ↓dnA, Tryz.f42, rows_length, tn0, tn1, tn2, tn3, tn4, rd, List.length_append, frW, wk2, wk1, wkL, wkB, hpW, List.mem_cons, Prod.mk.injEq, exists_eq_left, exists_eq_right, exists_eq]
              try rfl
          · simp (config := { maxSteps := 4000000 }) only [go_sem, simprocAttr, ↓dnA, Tryz.f42, rows_length, tn0, tn1, tn2, tn3, tn4, rd, encT, nlt hi, hi, nn0, hbk, encB1, encBk, hz0, hw, htk]
            repeat refine And.intro (by first | omega | (simp; done) | (simp; omega) | assumption) ?_
            refine ⟨(cs ++ [⟨(if sm > 0 then sm else 0), (if x.view > 0 then x.view else 0), 15⟩], i + 1, q + 1 + 1), [(900, 900), (3, 3), (40, 600)], ⟨by dsimp only; omega, by dsimp only; simp; omega, by dsimp only; omega, by dsimp only; omega⟩, by dsimp only; omega, Weak.of (by rfl) ?_ ?_ (by rfl)⟩
            · simp (config := { maxSteps := 4000000 }) only [go_sem, simprocAttr, ↓dnA, Tryz.f42, rows_length, tn0, tn1, tn2, tn3, tn4, rd, encT, ← rows_snoc, encC, frW, wk2, wk1, wkL, wkB, hpW, List.mem_cons, Prod.mk.injEq, exists_eq_left, exists_eq_right, exists_eq]
              try rfl
            · simp (config := { maxSteps := 4000000 }) only [go_sem, simprocAttr, ↓dnA, Tryz.f42, rows_length, tn0, tn1, tn2, tn3, tn4, rd, List.length_append, frW, wk2, wk1, wkL, wkB, hpW, List.mem_cons, Prod.mk.injEq, exists_eq_left, exists_eq_right, exists_eq]
              try rfl
          · simp (config := { maxSteps := 4000000 }) only [go_sem, simprocAttr, ↓dnA, Tryz.f42, rows_length, tn0, tn1, tn2, tn3, tn4, rd, encT, nlt hi, hi, nn0, hbk, encB1, encBk, hz0, hw, htk]
            repeat refine And.intro (by first | omega | (simp; done) | (simp; omega) | assumption) ?_
            refine ⟨(cs ++ [⟨(if sm > 0 then sm else 0), (if x.view > 0 then x.view else 0), 3⟩], i + 1, q + 1 + 1), [(900, 900), (3, 3), (40, 600)], ⟨by dsimp only; omega, by dsimp only; simp; omega, by dsimp only; omega, by dsimp only; omega⟩, by dsimp only; omega, Weak.of (by rfl) ?_ ?_ (by rfl)⟩
            · simp (config := { maxSteps := 4000000 }) only [go_sem, simprocAttr, ↓dnA, Tryz.f42, rows_length, tn0, tn1, tn2, tn3, tn4, rd, encT, ← rows_snoc, encC, frW, wk2, wk1, wkL, wkB, hpW, List.mem_cons, Prod.mk.injEq, exists_eq_left, exists_eq_right, exists_eq]
              try rfl
            · simp (config := { maxSteps := 4000000 }) only [go_sem, simprocAttr, ↓dnA, Tryz.f42, rows_length, tn0, tn1, tn2, tn3, tn4, rd, List.length_append, frW, wk2, wk1, wkL, wkB, hpW, List.mem_cons, Prod.mk.injEq, exists_eq_left, exists_eq_right, exists_eq]
              try rfl
    · have hi' : i = t.blocks.length := by omega
      simp (config := { maxSteps := 4000000 }) only [go_sem, simprocAttr, ↓dnA, Tryz.f42, rows_length, tn0, tn1, tn2, tn3, tn4, rd, encT, nlf hi]
      refine CallTo.of (c_spec_odd nb bs q 9 hq (by omega)) ?_
      rintro r b ⟨g1, q1, rfl, rfl, hq1, hq1'⟩
      have hr1 := h.step (q := q1) (by omega) (by omega)
      cases g1 with
      | false =>
        simp (config := { maxSteps := 4000000 }) only [go_sem, simprocAttr, ↓dnA, Tryz.f42, rows_length, tn0, tn1, tn2, tn3, tn4, rd, encT, nlf hi]
        refine CallTo.of (c_spec_odd nb bs q1 24 hr1 (by omega)) ?_
        rintro r b ⟨g2, q2, rfl, rfl, hq2, hq2'⟩
        cases g2 with
        | false =>
          simp (config := { maxSteps := 4000000 }) only [go_sem, simprocAttr, ↓dnA, Tryz.f42, rows_length, tn0, tn1, tn2, tn3, tn4, rd, encT, nlf hi]
          exact .same ⟨cs, q2, rfl, rfl, by omega, by omega, by omega⟩
        | true =>
          simp (config := { maxSteps := 4000000 }) only [go_sem, simprocAttr, ↓dnA, Tryz.f42, rows_length, tn0, tn1, tn2, tn3, tn4, rd, encT, nlf hi]
          exact .same ⟨List.replicate 31 ⟨0, 0, 0⟩, q2, by rw [← rows_replicate]; rfl, rfl, by omega, by omega, by simp⟩
      | true =>
        simp (config := { maxSteps := 4000000 }) only [go_sem, simprocAttr, ↓dnA, Tryz.f42, rows_length, tn0, tn1, tn2, tn3, tn4, rd, encT, nlf hi]
        refine CallTo.of (c_spec_l20Cert nb bs q1 2 n1 n2 n3 t hr1 (by omega) (by omega) hts hl1) ?_
        rintro r b ⟨c, q3, rfl, rfl, hq3, hq3'⟩
        have hr3 := h.step (q := q3) (by omega) (by omega)
        have hsn : rows encC cs ++ [[.int .i64 c.sum, .int .i64 c.view, .int .i64 c.signers]] = rows encC (cs ++ [c]) := by rw [← rows_snoc]; rfl
        have hll : (cs ++ [c]).length = cs.length + 1 := by simp
        simp (config := { maxSteps := 4000000 }) only [go_sem, simprocAttr, ↓dnA, Tryz.f42, rows_length, tn0, tn1, tn2, tn3, tn4, rd, encT, nlf hi, encC, htk, hsn, hll]
        repeat refine And.intro (by first | omega | (simp; done) | (simp; omega) | assumption) ?_
        refine CallTo.of (c_spec_odd nb bs q3 24 hr3 (by omega)) ?_
        rintro r b ⟨g2, q2, rfl, rfl, hq2, hq2'⟩
        cases g2 with
        | false =>
          simp (config := { maxSteps := 4000000 }) only [go_sem, simprocAttr, ↓dnA, Tryz.f42, rows_length, tn0, tn1, tn2, tn3, tn4, rd, encT, nlf hi, encC, htk, hsn, hll]
          exact .same ⟨cs ++ [c], q2, rfl, rfl, by omega, by omega, by rw [hll]; omega⟩
        | true =>
          simp (config := { maxSteps := 4000000 }) only [go_sem, simprocAttr, ↓dnA, Tryz.f42, rows_length, tn0, tn1, tn2, tn3, tn4, rd, encT, nlf hi, encC, htk, hsn, hll]
          exact .same ⟨List.replicate 31 ⟨0, 0, 0⟩, q2, by rw [← rows_replicate]; rfl, rfl, by omega, by omega, by simp⟩

def CertsP (nb : Option Bool) (bs : List Int) (p : Int) (r : AV) (b : List AV) : Prop := ∃ (cs : List Cert) (q : Int), r = .sl none (rows encC cs) ∧ b = rd nb bs q ∧ p ≤ q ∧ q ≤ p + 200 ∧ cs.length ≤ 40
theorem c_spec_l20CertsP (nb : Option Bool) (bs : List Int) (p : Int) (n1 n2 n3 : Option Bool) (t : Tree) (h : RdOk bs p) (hp : p ≤ 999998000) (hts : tsz t ≤ 300) (hl1 : 1 ≤ t.blocks.length) (hl2 : t.blocks.length ≤ 14) :
    FSpec Tryz.prog 42 [.loc 0 0, .agg (encT n1 n2 n3 t)] true (rd nb bs p) (CertsP nb bs p) := by
  refine (c_spec_l20Certs nb bs p n1 n2 n3 t h hp hts hl1 hl2).pureOne ?_
  rintro r b ⟨cs, q, rfl, rfl, h1, h2, h3⟩
  exact ⟨_, _, _, rfl, cs, q, rfl, rfl, h1, h2, h3⟩

def DrawCsQ (r : AV) (b : List AV) : Prop := ∃ (t : Tree) (cs : List Cert), r = .tup [.agg (encT none none none t), .sl none (rows encC cs)] ∧ tsz t ≤ 200 ∧ 1 ≤ t.blocks.length ∧ t.blocks.length ≤ 14 ∧ cs.length ≤ 40

theorem c_spec_DrawCertifiedBlocks (nb : Option Bool) (bs : List Int) (h : CodeOk bs) : FSpec Tryz.prog 21 [.sl nb (rows encB bs)] false [] DrawCsQ := by
  refine fspec_rel tab_ok Tryz.call21 Tryz.func21 rfl 14 Tryz.ntmps21 (of_decide_eq_true rfl) fun B => codeK_sound tab_ok _ _ _ ?_
  simp (config := { maxSteps := 4000000 }) only [go_sem, simprocAttr, ↓dnA, Tryz.f21, rows_length]
  refine CallTo.of (c_spec_l20Open nb bs h) ?_
  rintro r b rfl
  unfold rd
  simp (config := { maxSteps := 4000000 }) only [go_sem, simprocAttr, ↓dnA, Tryz.f21, rows_length]
  have h0 := code_take h
  generalize bs.take 2000 = bs at h0
  refine CallTo.of (c_spec_l20LineP nb _ 0 12 h0 (by omega) (by omega)) ?_
  rintro r b ⟨t, q, rfl, rfl, hq1, hq2, hts, hl1, hl2, _⟩
  have hq := h0.step (q := q) (by omega) (by omega)
  simp (config := { maxSteps := 4000000 }) only [go_sem, simprocAttr, ↓dnA, Tryz.f21, rows_length, rd, encT]
  refine semL_draw tab_ok mixed_ rfl (ord := [(0, []), (1, []), (2, []), (3, [0]), (4, []), (5, [])]) (by dsimp only; decide +kernel) ?_
  simp (config := { maxSteps := 4000000 }) only [go_sem, simprocAttr, ↓dnA, Tryz.f21, rows_length, rd, encT]
  refine CallTo.of (c_spec_l20CertsP nb bs q none none none t hq (by omega) (by omega) hl1 hl2) ?_
  rintro r b ⟨cs, q2, rfl, rfl, _, _, hcs⟩
  simp (config := { maxSteps := 4000000 }) only [go_sem, simprocAttr, ↓dnA, Tryz.f21, rows_length, rd, encT]
  exact .same ⟨t, cs, by simp [encT], hts, hl1, hl2, hcs⟩

end Go.Proofs.YtehbgjikmchaoaaGreat

/- Contracts: voters after their votes. -/
set_option linter.unusedSimpArgs false
set_option linter.unusedVariables false
set_option maxRecDepth 20000
set_option maxHeartbeats 4000000
namespace Go.Proofs.YtehbgjikmchaoaaGreat
open Go Go.RowKit

open Classical in
/-- A voter after its vote. -/
noncomputable def voteFor (v : Voter) (t : Tree) (c : List Bool) (n : Int) : Voter × Bool :=
  if voterValid v.last v.lock then (if mayVote v t c n then
    (⟨(t.blk n.toNat).view, if t.bef (t.bef n.toNat).toNat ≥ 0 then max v.lock (t.blk (t.bef (t.bef n.toNat).toNat).toNat).view else v.lock⟩, true) else (v, false)) else (⟨0, 0⟩, false)

theorem max_if (a b : Int) : (if b > a then b else a) = max a b := by
  rw [Int.max_def]; split <;> split <;> omega

/-- What is needed of the block before the one before. -/
theorem voteFor_ok {v : Voter} {t : Tree} {c : List Bool} {n : Int} (h0 : voterValid v.last v.lock = true) (h : mayVote v t c n = true) :
    ∃ j k : Nat, n = (j : Int) ∧ j < t.blocks.length ∧ j < t.before.length ∧ k < t.before.length ∧ (rows encI t.before).getD j [] = [.int .i64 (k : Int)] ∧ (rows encI t.before).getD k [] = [.int .i64 (t.bef k)] ∧
      (rows encB1 t.blocks).getD j [] = encB1 (t.blk j) ∧
      ((t.bef k < 0 ∧ decide (t.bef k ≥ 0) = false ∧ voteFor v t c n = (⟨(t.blk j).view, v.lock⟩, true)) ∨
       ∃ m : Nat, t.bef k = (m : Int) ∧ m < t.blocks.length ∧ (rows encB1 t.blocks).getD m [] = encB1 (t.blk m) ∧ voteFor v t c n = (⟨(t.blk j).view, max v.lock (t.blk m).view⟩, true)) := by
  have hm := mayOk_of h
  obtain ⟨j, k, rfl, hj0, hj, hjb, hkj, hk, g1, g2, g3, _⟩ := may_facts hm.tree hm.len hm.n1 hm.n2
  have hkb : k < t.before.length := by omega
  have g4 : (rows encI t.before).getD k [] = [.int .i64 (t.bef k)] := by rw [rows_get _ _ k hkb, t.bef_get k hkb]; rfl
  refine ⟨j, k, rfl, hj, hjb, hkb, g1, g4, g2, ?_⟩
  have hv : voteFor v t c (j : Int) = (⟨(t.blk j).view, if t.bef k ≥ 0 then max v.lock (t.blk (t.bef k).toNat).view else v.lock⟩, true) := by
    unfold voteFor
    rw [h0, h, if_pos rfl, if_pos rfl, Int.toNat_natCast, hk, Int.toNat_natCast]
  by_cases hb : t.bef k ≥ 0
  · obtain ⟨m, hmk⟩ : ∃ m : Nat, t.bef k = (m : Int) := ⟨(t.bef k).toNat, by omega⟩
    have hml : m < t.blocks.length := by
      by_cases hk0 : k = 0
      · subst hk0; rw [hm.tree.bef0] at hb; omega
      · have := (hm.tree.link k (by omega) (by omega)).hi; omega
    refine .inr ⟨m, hmk, hml, rows_gd _ _ m hml, ?_⟩
    rw [hv, if_pos hb, hmk, Int.toNat_natCast]
  · exact .inl ⟨by omega, by simp; omega, by rw [hv, if_neg hb]⟩

theorem c_spec_VoteFor (n1 n2 n3 n4 : Option Bool) (v : Voter) (t : Tree) (c : List Bool) (n : Int) (hx : TreeSz t) (hc : c.length < 2 ^ 62) :
    Det Tryz.prog 113 [.agg (encV v), .agg (encT n1 n2 n3 t), .sl n4 (boolRows c), .int .i64 n] (.tup [.agg (encV (voteFor v t c n).1), .bool (voteFor v t c n).2]) := by
  refine fspec_det tab_ok Tryz.call113 Tryz.func113 rfl 54 Tryz.ntmps113 (of_decide_eq_true rfl) fun B => codeK_sound tab_ok _ _ _ ?_
  unfold encT
  simp (config := { maxSteps := 4000000 }) only [go_sem, simprocAttr, ↓dnA, Tryz.f113, encV]
  refine CallTo.det (c_spec_VoterValid _ _) fun _ => ?_
  cases h1 : voterValid v.last v.lock with
  | false =>
    have hv : voteFor v t c n = (⟨0, 0⟩, false) := by unfold voteFor; rw [h1, if_neg Bool.false_ne_true]
    simp (config := { maxSteps := 4000000 }) only [go_sem, simprocAttr, ↓dnA, Tryz.f113, encV, h1, hv]
  | true =>
    simp (config := { maxSteps := 4000000 }) only [go_sem, simprocAttr, ↓dnA, Tryz.f113, encV, h1]
    refine CallTo.det (c_spec_MayVote n1 n2 n3 n4 v t c n hx hc) fun _ => ?_
    cases h2 : mayVote v t c n with
    | false =>
      have hv : voteFor v t c n = (v, false) := by unfold voteFor; rw [h1, h2, if_pos rfl, if_neg Bool.false_ne_true]
      simp (config := { maxSteps := 4000000 }) only [go_sem, simprocAttr, ↓dnA, Tryz.f113, encV, h1, h2, hv]
    | true =>
      obtain ⟨j, k, rfl, hj, hjb, hkb, g1, g4, g2, hcase⟩ := voteFor_ok h1 h2
      simp (config := { maxSteps := 4000000 }) only [go_sem, simprocAttr, ↓dnA, Tryz.f113, encV, h1, h2, rows_length, nn0, nlt hj, nlt hjb, nlt hkb, g1, g2, g4, encB1, encBk]
      refine semL_draw tab_ok mixed_ rfl (ord := [(0, []), (1, []), (2, []), (3, []), (4, []), (5, []), (6, []), (7, []), (8, []), (9, [0, 1, 2, 3, 4, 5, 6, 7, 8]), (10, [])]) (by dsimp only; decide +kernel) ?_
      simp (config := { maxSteps := 4000000 }) only [go_sem, simprocAttr, ↓dnA, Tryz.f113, encV, h1, h2, rows_length, nn0, nlt hj, nlt hjb, nlt hkb, g1, g2, g4, encB1, encBk]
      refine semL_draw tab_ok mixed_ rfl (ord := [(0, []), (1, []), (2, []), (3, []), (4, []), (5, []), (6, []), (7, []), (8, []), (9, [])]) (by dsimp only; decide +kernel) ?_
      rcases hcase with ⟨hb, hd, hv⟩ | ⟨m, hm, hml, g5, hv⟩
      · simp (config := { maxSteps := 4000000 }) only [go_sem, simprocAttr, ↓dnA, Tryz.f113, encV, h1, h2, rows_length, nn0, nlt hj, nlt hjb, nlt hkb, g1, g2, g4, encB1, encBk, hd, hv]
      · have hd : decide ((m : Int) ≥ 0) = true := by simp
        simp (config := { maxSteps := 4000000 }) only [go_sem, simprocAttr, ↓dnA, Tryz.f113, encV, h1, h2, rows_length, nn0, nlt hj, nlt hjb, nlt hkb, g1, g2, g4, encB1, encBk, hd, hm]
        refine semL_draw tab_ok mixed_ rfl (ord := [(0, []), (1, []), (2, []), (3, []), (4, []), (5, []), (6, []), (7, []), (8, []), (9, []), (10, [])]) (by dsimp only; decide +kernel) ?_
        simp (config := { maxSteps := 4000000 }) only [go_sem, simprocAttr, ↓dnA, Tryz.f113, encV, h1, h2, rows_length, nn0, nlt hml, g5, encB1, encBk, max_if, hv]

end Go.Proofs.YtehbgjikmchaoaaGreat

/- Contracts: worlds, and when they are valid. -/
set_option linter.unusedSimpArgs false
set_option linter.unusedVariables false
set_option maxRecDepth 20000
set_option maxHeartbeats 4000000
namespace Go.Proofs.YtehbgjikmchaoaaGreat
open Go Go.RowKit

structure Wld where
  tree : Tree
  voters : List Voter
  votes : List Int
deriving DecidableEq, Inhabited

def encW (n1 n2 n3 n4 n5 : Option Bool) (w : Wld) : List AV :=
  [.sl n1 (rows encE w.tree.base), .sl n2 (rows encB1 w.tree.blocks), .sl n3 (rows encI w.tree.before), .sl n4 (rows encV w.voters), .sl n5 (rows encI w.votes)]
structure WldSz (w : Wld) : Prop where
  tree : TreeSz w.tree
  voters : w.voters.length < 2 ^ 62
  votes : w.votes.length < 2 ^ 62

def voterOk (v : Voter) : Bool := voterValid v.last v.lock
noncomputable def worldValid (w : Wld) : Bool := ((((treeValid w.tree && decide (w.voters.length = 4)) && w.voters.all voterOk) && decide (w.votes.length = w.tree.blocks.length)) && w.votes.all fun n => inB n 0 15)

theorem c_impl_WorldValid1 (v : Voter) : Det Tryz.prog 64 [.agg (encV v)] (.bool (!voterOk v)) := by
  refine fspec_det tab_ok Tryz.call64 Tryz.func64 rfl 6 Tryz.ntmps64 (of_decide_eq_true rfl) fun B => codeK_sound tab_ok _ _ _ ?_
  simp (config := { maxSteps := 4000000 }) only [go_sem, simprocAttr, ↓dnA, Tryz.f64, encV]
  refine CallTo.det (c_impl_VoterValid _ _) fun _ => ?_
  simp (config := { maxSteps := 4000000 }) only [go_sem, simprocAttr, ↓dnA, Tryz.f64, encV, voterOk]

theorem c_impl_WorldValid2 (n : Int) : Det Tryz.prog 66 [.int .i64 n] (.bool (!inB n 0 15)) := by
  refine fspec_det tab_ok Tryz.call66 Tryz.func66 rfl 6 Tryz.ntmps66 (of_decide_eq_true rfl) fun B => codeK_sound tab_ok _ _ _ ?_
  simp (config := { maxSteps := 4000000 }) only [go_sem, simprocAttr, ↓dnA, Tryz.f66]
  refine CallTo.det (c_impl_isSigners _) fun _ => ?_
  simp (config := { maxSteps := 4000000 }) only [go_sem, simprocAttr, ↓dnA, Tryz.f66]

theorem c_slices_IndexFunc_Voter (n1 : Option Bool) (xs : List Voter) (k : FuncId) (p : Voter → Bool) (hx : xs.length < 2 ^ 62) (hm : mutB k = false) (hp : ∀ x, x ∈ xs → Det Tryz.prog k [.agg (encV x)] (.bool (p x))) :
    Det Tryz.prog 91 [.sl n1 (rows encV xs), .fn k []] (.int .i64 (idxF p xs 0)) := by
  simp only [mutB] at hm
  refine fspec_det tab_ok Tryz.call91 Tryz.func91 rfl 19 Tryz.ntmps91 (of_decide_eq_true rfl) fun B => codeK_sound tab_ok _ _ _ ?_
  simp (config := { maxSteps := 4000000 }) only [go_sem, simprocAttr, ↓dnA, Tryz.f91, rows_length, hm]
  refine semL_for tab_ok (fun i : Nat => ⟨19, [(0, .sl n1 (rows encV xs)), (1, .fn k []), (7, .int .i64 xs.length), (8, .int .i64 i)], []⟩) (fun i => xs.length - i)
    (fun i => i ≤ xs.length ∧ idxF p (xs.drop i) i = idxF p xs 0) 0 [] (Weak.of rfl trivial ?_ rfl) ⟨by omega, rfl⟩ ?_
  · simp (config := { maxSteps := 4000000 }) only [go_sem, simprocAttr, ↓dnA, Tryz.f91, frW, wk2, wk1, wkL, wkB, hpW, List.mem_cons, Prod.mk.injEq, exists_eq_left, exists_eq_right, exists_eq]
  · rintro i ⟨hi, hp'⟩
    by_cases h : i < xs.length
    · simp (config := { maxSteps := 4000000 }) only [go_sem, simprocAttr, ↓dnA, Tryz.f91, rows_length, rows_get _ _ _ h, encV, nlt h, nn0, hm]
      refine CallTo.det (hp _ (List.getElem_mem h)) fun _ => ?_
      rw [drop_cons xs i h] at hp'
      simp (config := { maxSteps := 4000000 }) only [go_sem, simprocAttr, ↓dnA, Tryz.f91, rows_length, rows_get _ _ _ h, encV, nlt h, hm]
      refine ⟨fun h => ?_, fun h' => ?_⟩
      · rw [← hp']; simp [idxF, h]
      · refine ⟨i + 1, [], ⟨by omega, ?_⟩, by dsimp only; omega, Weak.of rfl trivial ?_ rfl⟩
        · rw [← hp']; simp [idxF, h']
        · simp (config := { maxSteps := 4000000 }) only [go_sem, simprocAttr, ↓dnA, Tryz.f91, wsucc h hx, frW, wk2, wk1, wkL, wkB, hpW, List.mem_cons, Prod.mk.injEq, exists_eq_left, exists_eq_right, exists_eq]
    · have : i = xs.length := by omega
      subst this
      rw [List.drop_length] at hp'
      simp (config := { maxSteps := 4000000 }) only [go_sem, simprocAttr, ↓dnA, Tryz.f91, nlf h, hm]
      rw [← hp']
      rfl

theorem c_slices_ContainsFunc_Voter (n1 : Option Bool) (xs : List Voter) (k : FuncId) (p : Voter → Bool) (hx : xs.length < 2 ^ 62) (hm : mutB k = false) (hp : ∀ x, x ∈ xs → Det Tryz.prog k [.agg (encV x)] (.bool (p x))) :
    Det Tryz.prog 63 [.sl n1 (rows encV xs), .fn k []] (.bool (xs.any p)) := by
  refine fspec_det tab_ok Tryz.call63 Tryz.func63 rfl 9 Tryz.ntmps63 (of_decide_eq_true rfl) fun B => codeK_sound tab_ok _ _ _ ?_
  simp (config := { maxSteps := 4000000 }) only [go_sem, simprocAttr, ↓dnA, Tryz.f63]
  refine CallTo.det (c_slices_IndexFunc_Voter _ _ _ _ hx hm hp) fun _ => ?_
  simp (config := { maxSteps := 4000000 }) only [go_sem, simprocAttr, ↓dnA, Tryz.f63, idxF_any]


theorem eqN (a b : Nat) : (((a : Int)) == (b : Int)) = decide (a = b) := by
  rw [Bool.eq_iff_iff]; simp; omega

theorem eqN4 (a : Nat) : (((a : Int)) == 4) = decide (a = 4) := by
  rw [Bool.eq_iff_iff]; simp; omega

theorem c_impl_WorldValid (n1 n2 n3 n4 n5 : Option Bool) (w : Wld) (hx : WldSz w) : Det Tryz.prog 34 [.agg (encW n1 n2 n3 n4 n5 w)] (.bool (worldValid w)) := by
  refine fspec_det tab_ok Tryz.call34 Tryz.func34 rfl 34 Tryz.ntmps34 (of_decide_eq_true rfl) fun B => codeK_sound tab_ok _ _ _ ?_
  unfold worldValid
  have e1 : w.voters.any (fun v => !voterOk v) = !w.voters.all voterOk := any_not _ _
  have e2 : w.votes.any (fun n => !inB n 0 15) = !w.votes.all fun n => inB n 0 15 := any_not _ _
  simp (config := { maxSteps := 4000000 }) only [go_sem, simprocAttr, ↓dnA, Tryz.f34, encW]
  refine CallTo.det (c_impl_BlockTreeValid n1 n2 n3 w.tree hx.tree) fun _ => ?_
  cases h1 : treeValid w.tree with
  | false => simp (config := { maxSteps := 4000000 }) only [go_sem, simprocAttr, ↓dnA, Tryz.f34, h1]
  | true =>
    cases h2 : decide (w.voters.length = 4) with
    | false => simp (config := { maxSteps := 4000000 }) only [go_sem, simprocAttr, ↓dnA, Tryz.f34, h1, rows_length, eqN4, h2]
    | true =>
      simp (config := { maxSteps := 4000000 }) only [go_sem, simprocAttr, ↓dnA, Tryz.f34, h1, rows_length, eqN4, h2]
      refine CallTo.det (c_slices_ContainsFunc_Voter n4 w.voters _ _ hx.voters rfl fun v _ => c_impl_WorldValid1 v) fun _ => ?_
      cases h3 : w.voters.all voterOk with
      | false => simp (config := { maxSteps := 4000000 }) only [go_sem, simprocAttr, ↓dnA, Tryz.f34, h1, rows_length, eqN4, h2, e1, h3]
      | true =>
        cases h4 : decide (w.votes.length = w.tree.blocks.length) with
        | false => simp (config := { maxSteps := 4000000 }) only [go_sem, simprocAttr, ↓dnA, Tryz.f34, h1, rows_length, eqN4, h2, e1, h3, eqN, h4]
        | true =>
          simp (config := { maxSteps := 4000000 }) only [go_sem, simprocAttr, ↓dnA, Tryz.f34, h1, rows_length, eqN4, h2, e1, h3, eqN, h4]
          refine CallTo.det (c_slices_ContainsFunc_int n5 w.votes _ _ hx.votes rfl fun v _ => c_impl_WorldValid2 v) fun _ => ?_
          simp (config := { maxSteps := 4000000 }) only [go_sem, simprocAttr, ↓dnA, Tryz.f34, h1, rows_length, eqN4, h2, e1, h3, eqN, h4, e2, Bool.not_not]

theorem c_spec_WorldValid (n1 n2 n3 n4 n5 : Option Bool) (w : Wld) (hx : WldSz w) : Det Tryz.prog 19 [.agg (encW n1 n2 n3 n4 n5 w)] (.bool (worldValid w)) := by
  refine fspec_det tab_ok Tryz.call19 Tryz.func19 rfl 52 Tryz.ntmps19 (of_decide_eq_true rfl) fun B => codeK_sound tab_ok _ _ _ ?_
  have hf1 : w.voters.all voterOk = false → worldValid w = false := fun h => by unfold worldValid; rw [h]; simp
  have hf2 : w.votes.all (fun n => inB n 0 15) = false → worldValid w = false := fun h => by unfold worldValid; rw [h]; simp
  simp (config := { maxSteps := 4000000 }) only [go_sem, simprocAttr, ↓dnA, Tryz.f19, encW]
  refine semL_for tab_ok (fun i : Nat => ⟨52, [(1, .loc 1 0), (3, .int .i64 i)], [(1, .var (encW n1 n2 n3 n4 n5 w))]⟩) (fun i => w.voters.length - i)
    (fun i => i ≤ w.voters.length ∧ (w.voters.drop i).all voterOk = w.voters.all voterOk) 0 [(1, 1)] (Weak.of (by rfl) ?_ ?_ (by rfl)) ⟨by omega, rfl⟩ ?_
  · simp (config := { maxSteps := 4000000 }) only [go_sem, simprocAttr, ↓dnA, Tryz.f19, encW, frW, wk2, wk1, wkL, wkB, hpW, List.mem_cons, Prod.mk.injEq, exists_eq_left, exists_eq_right, exists_eq]
  · simp (config := { maxSteps := 4000000 }) only [go_sem, simprocAttr, ↓dnA, Tryz.f19, encW, frW, wk2, wk1, wkL, wkB, hpW, List.mem_cons, Prod.mk.injEq, exists_eq_left, exists_eq_right, exists_eq]
  rintro i ⟨hi, hp⟩
  by_cases h : i < w.voters.length
  · rw [drop_cons w.voters i h, List.all_cons] at hp
    simp (config := { maxSteps := 4000000 }) only [go_sem, simprocAttr, ↓dnA, Tryz.f19, encW, rows_length, rows_get _ _ _ h, encV, nlt h, nn0]
    refine CallTo.det (c_spec_VoterValid _ _) fun _ => ?_
    cases h1 : voterOk w.voters[i] with
    | false =>
      rw [h1, Bool.false_and] at hp
      have h1' : voterValid w.voters[i].last w.voters[i].lock = false := h1
      simp (config := { maxSteps := 4000000 }) only [go_sem, simprocAttr, ↓dnA, Tryz.f19, h1', hf1 hp.symm]
    | true =>
      rw [h1, Bool.true_and] at hp
      have h1' : voterValid w.voters[i].last w.voters[i].lock = true := h1
      simp (config := { maxSteps := 4000000 }) only [go_sem, simprocAttr, ↓dnA, Tryz.f19, h1']
      refine ⟨i + 1, [(1, 1)], ⟨by omega, hp⟩, by dsimp only; omega, Weak.of (by rfl) ?_ ?_ (by rfl)⟩
      · simp (config := { maxSteps := 4000000 }) only [go_sem, simprocAttr, ↓dnA, Tryz.f19, encW, frW, wk2, wk1, wkL, wkB, hpW, List.mem_cons, Prod.mk.injEq, exists_eq_left, exists_eq_right, exists_eq]
      · simp (config := { maxSteps := 4000000 }) only [go_sem, simprocAttr, ↓dnA, Tryz.f19, encW, wsucc h hx.voters, frW, wk2, wk1, wkL, wkB, hpW, List.mem_cons, Prod.mk.injEq, exists_eq_left, exists_eq_right, exists_eq]
  have hi' : i = w.voters.length := by omega
  subst hi'
  simp only [List.drop_length, List.all_nil] at hp
  simp (config := { maxSteps := 4000000 }) only [go_sem, simprocAttr, ↓dnA, Tryz.f19, encW, rows_length, nlf h]
  refine semL_for tab_ok (fun i : Nat => ⟨52, [(1, .loc 1 0), (4, .int .i64 i)], [(1, .var (encW n1 n2 n3 n4 n5 w))]⟩) (fun i => w.votes.length - i)
    (fun i => i ≤ w.votes.length ∧ (w.votes.drop i).all (fun n => inB n 0 15) = w.votes.all fun n => inB n 0 15) 0 [(1, 1)] (Weak.of (by rfl) ?_ ?_ (by rfl)) ⟨by omega, rfl⟩ ?_
  · simp (config := { maxSteps := 4000000 }) only [go_sem, simprocAttr, ↓dnA, Tryz.f19, encW, frW, wk2, wk1, wkL, wkB, hpW, List.mem_cons, Prod.mk.injEq, exists_eq_left, exists_eq_right, exists_eq]
  · simp (config := { maxSteps := 4000000 }) only [go_sem, simprocAttr, ↓dnA, Tryz.f19, encW, frW, wk2, wk1, wkL, wkB, hpW, List.mem_cons, Prod.mk.injEq, exists_eq_left, exists_eq_right, exists_eq]
  rintro i ⟨hi, hq⟩
  by_cases h : i < w.votes.length
  · rw [drop_cons w.votes i h, List.all_cons] at hq
    simp (config := { maxSteps := 4000000 }) only [go_sem, simprocAttr, ↓dnA, Tryz.f19, encW, rows_length, rows_get _ _ _ h, encI, nlt h, nn0]
    refine CallTo.det (c_l1In _ _ _) fun _ => ?_
    cases h1 : inB w.votes[i] 0 15 with
    | false =>
      rw [h1, Bool.false_and] at hq
      simp (config := { maxSteps := 4000000 }) only [go_sem, simprocAttr, ↓dnA, Tryz.f19, h1, hf2 hq.symm]
    | true =>
      rw [h1, Bool.true_and] at hq
      simp (config := { maxSteps := 4000000 }) only [go_sem, simprocAttr, ↓dnA, Tryz.f19, h1]
      refine ⟨i + 1, [(1, 1)], ⟨by omega, hq⟩, by dsimp only; omega, Weak.of (by rfl) ?_ ?_ (by rfl)⟩
      · simp (config := { maxSteps := 4000000 }) only [go_sem, simprocAttr, ↓dnA, Tryz.f19, encW, frW, wk2, wk1, wkL, wkB, hpW, List.mem_cons, Prod.mk.injEq, exists_eq_left, exists_eq_right, exists_eq]
      · simp (config := { maxSteps := 4000000 }) only [go_sem, simprocAttr, ↓dnA, Tryz.f19, encW, wsucc h hx.votes, frW, wk2, wk1, wkL, wkB, hpW, List.mem_cons, Prod.mk.injEq, exists_eq_left, exists_eq_right, exists_eq]
  have hi' : i = w.votes.length := by omega
  subst hi'
  simp only [List.drop_length, List.all_nil] at hq
  have hw : worldValid w = ((treeValid w.tree && decide (w.voters.length = 4)) && decide (w.votes.length = w.tree.blocks.length)) := by
    unfold worldValid; rw [← hp, ← hq]; simp
  rw [hw]
  simp (config := { maxSteps := 4000000 }) only [go_sem, simprocAttr, ↓dnA, Tryz.f19, encW, rows_length, nlf h]
  refine CallTo.det (c_spec_BlockTreeValid n1 n2 n3 w.tree hx.tree) fun _ => ?_
  cases h1 : treeValid w.tree with
  | false => simp (config := { maxSteps := 4000000 }) only [go_sem, simprocAttr, ↓dnA, Tryz.f19, encW, h1]
  | true =>
    cases h2 : decide (w.voters.length = 4) with
    | false => simp (config := { maxSteps := 4000000 }) only [go_sem, simprocAttr, ↓dnA, Tryz.f19, encW, h1, rows_length, eqN4, h2]
    | true => simp (config := { maxSteps := 4000000 }) only [go_sem, simprocAttr, ↓dnA, Tryz.f19, encW, h1, rows_length, eqN4, h2, eqN]

end Go.Proofs.YtehbgjikmchaoaaGreat

/- Contracts: FnExactWorldValid. -/
set_option linter.unusedSimpArgs false
set_option linter.unusedVariables false
set_option maxRecDepth 20000
set_option maxHeartbeats 4000000
namespace Go.Proofs.YtehbgjikmchaoaaGreat
open Go Go.RowKit

/-- How much a world is. -/
def wsz (w : Wld) : Nat := tsz w.tree + w.voters.length + w.votes.length
structure WldS32 (w : Wld) : Prop where
  sum : wsz w ≤ 1048576
theorem WldS32.tree {w : Wld} (h : WldS32 w) : TreeS32 w.tree := ⟨by have := h.sum; unfold wsz at this; omega⟩
theorem WldS32.voters {w : Wld} (h : WldS32 w) : w.voters.length < 2 ^ 32 := by have := h.sum; unfold wsz at this; omega
theorem WldS32.votes {w : Wld} (h : WldS32 w) : w.votes.length < 2 ^ 32 := by have := h.sum; unfold wsz at this; omega

theorem WldS32.sz {w : Wld} (h : WldS32 w) : WldSz w := ⟨h.tree.sz, by have := h.voters; omega, by have := h.votes; omega⟩

end Go.Proofs.YtehbgjikmchaoaaGreat

/- Contracts: copies, sizes, tests and marks of certificates, bools, worlds. -/
set_option linter.unusedSimpArgs false
set_option linter.unusedVariables false
set_option maxRecDepth 20000
set_option maxHeartbeats 4000000
namespace Go.Proofs.YtehbgjikmchaoaaGreat
open Go Go.RowKit

def encBo (b : Bool) : List AV := [.bool b]
end Go.Proofs.YtehbgjikmchaoaaGreat

/- Worlds: new ones, their certificates, what is committed in them: plain. -/
set_option linter.unusedSimpArgs false
set_option linter.unusedVariables false
set_option maxRecDepth 20000
set_option maxHeartbeats 4000000
namespace Go.Proofs.YtehbgjikmchaoaaGreat
open Go Go.RowKit

def noW : Wld := ⟨⟨[], [], []⟩, [], []⟩
noncomputable def worldOf (t : Tree) : Wld := if treeValid t then ⟨t, List.replicate 4 ⟨0, 0⟩, List.replicate t.blocks.length 0⟩ else noW
def encWF (w : Wld) : List AV :=
  [.osl false 2 (rows encE w.tree.base), .osl false 6 (rows encB1 w.tree.blocks), .osl false 1 (rows encI w.tree.before), .osl false 2 (rows encV w.voters), .osl false 1 (rows encI w.votes)]

theorem worldValid_parts {w : Wld} (h : worldValid w = true) : TreeOk w.tree ∧ w.voters.length = 4 ∧ (∀ v, v ∈ w.voters → voterOk v = true) ∧ w.votes.length = w.tree.blocks.length ∧ ∀ n, n ∈ w.votes → 0 ≤ n ∧ n ≤ 15 := by
  unfold worldValid at h
  simp only [Bool.and_eq_true, decide_eq_true_eq, List.all_eq_true] at h
  exact ⟨treeOk_of h.1.1.1.1, h.1.1.1.2, h.1.1.2, h.1.2, fun n hn => inB_iff.1 (h.2 n hn)⟩

/-! Valid trees and worlds are small. -/
theorem tb_ent {lo : Int} : ∀ {s : List Entry} {last : Int}, -1 ≤ last → entOk lo last s = true → s = [] ∨ (s.length : Int) ≤ 31 - last
  | [], _, _, _ => .inl rfl
  | e :: r, last, hl, h => by
    simp only [entOk, Bool.and_eq_true, inB_iff] at h
    obtain ⟨⟨h1, h2⟩, h3⟩ := h
    rcases tb_ent (by omega) h3 with e1 | e1
    · subst e1; right; simp only [List.length_cons, List.length_nil]; omega
    · right; rw [List.length_cons]; omega
theorem tb_store {s : List Entry} (h : storeValid s = true) : s.length ≤ 32 := by
  rcases tb_ent (by omega) h with e | e
  · subst e; simp
  · omega
theorem tb_list {b : Block} (h : blockValid b = true) : b.list.length ≤ 10 := by
  unfold blockValid at h
  simp only [Bool.and_eq_true] at h
  obtain ⟨⟨⟨⟨⟨_, _⟩, _⟩, _⟩, _⟩, h6⟩ := h
  unfold actionsValid at h6
  rw [Bool.and_eq_true] at h6
  exact of_decide_eq_true h6.1
theorem tb_lsum : ∀ (bs : List Block), (∀ b, b ∈ bs → b.list.length ≤ 10) → lsum bs ≤ 10 * bs.length
  | [], _ => Nat.le_refl _
  | b :: r, h => by
    have h1 := h b (List.mem_cons_self ..)
    have h2 := tb_lsum r fun c hc => h c (List.mem_cons_of_mem _ hc)
    unfold lsum
    rw [List.length_cons]
    omega
theorem treeOk_tsz {t : Tree} (ht : TreeOk t) : tsz t ≤ 200 := by
  have h1 := tb_store ht.store
  have h2 := ht.len
  have h3 := ht.bef
  have h4 := tb_lsum t.blocks fun b hb => by
    obtain ⟨i, hi, rfl⟩ := List.getElem_of_mem hb
    rw [t.blk_get i hi]
    exact tb_list (ht.valid i hi)
  unfold tsz; omega
theorem tb_s32 {t : Tree} (ht : TreeOk t) : TreeS32 t := ⟨by have := treeOk_tsz ht; omega⟩
theorem worldOk_wsz {w : Wld} (h : worldValid w = true) : wsz w ≤ 218 := by
  obtain ⟨ht, h4, _, hl, _⟩ := worldValid_parts h
  have h1 := treeOk_tsz ht
  have h2 := ht.len
  unfold wsz; omega
theorem worldOk_s32 {w : Wld} (h : worldValid w = true) : WldS32 w := ⟨by have := worldOk_wsz h; omega⟩

/-- The certificate of the block k. -/
def certAt (w : Wld) (k : Nat) : Cert := ⟨blockSum (w.tree.blk k), (w.tree.blk k).view, w.votes.getD k 0⟩
/-- The certificates of the first k blocks. -/
def certsTo (w : Wld) : Nat → List Cert
  | 0 => []
  | k + 1 => if 0 < k ∧ 0 < w.votes.getD k 0 then certsTo w k ++ [certAt w k] else certsTo w k
noncomputable def worldCerts (w : Wld) : List Cert := if worldValid w then certsTo w w.votes.length else []

theorem certsTo_len (w : Wld) : ∀ k, (certsTo w k).length ≤ k - 1
  | 0 => by simp [certsTo]
  | k + 1 => by
    have := certsTo_len w k
    unfold certsTo
    split
    · rename_i h
      simp; omega
    · omega

noncomputable def headW (w : Wld) : Int := committedTo w.tree (certsTo w w.votes.length)
noncomputable def worldHead (w : Wld) : Int := if worldValid w then headW w else -1

theorem headW_bd {w : Wld} (h : worldValid w = true) : 0 ≤ headW w ∧ headW w < w.tree.blocks.length := by
  obtain ⟨ht, h4, hv, hl, hs⟩ := worldValid_parts h
  have hlen := ht.len
  have hc := certsTo_len w w.votes.length
  obtain ⟨e1, e2⟩ := certified_ne (treeValid_true ht) (cs := certsTo w w.votes.length) (by omega)
  unfold headW committedTo
  rw [if_neg e2]
  exact bestF_bd w.tree w.tree.blocks.length _ 0 (headsL_bd _ _) (by omega)

end Go.Proofs.YtehbgjikmchaoaaGreat

/- Contracts: copies of worlds, new worlds, their certificates and heads. -/
set_option linter.unusedSimpArgs false
set_option linter.unusedVariables false
set_option maxRecDepth 20000
set_option maxHeartbeats 4000000
namespace Go.Proofs.YtehbgjikmchaoaaGreat
open Go Go.RowKit

theorem rows_rep {α : Type} (e : α → List AV) (n : Nat) (x : α) : rows e (List.replicate n x) = List.replicate n (e x) := by simp [rows]
theorem c_spec_l18Copy (n1 n2 n3 n4 n5 : Option Bool) (w : Wld) (hx : TreeS32 w.tree) (h1 : w.voters.length < 2 ^ 32) (h2 : w.votes.length < 2 ^ 32) :
    Det Tryz.prog 89 [.agg (encW n1 n2 n3 n4 n5 w)] (.agg (encWF w)) := by
  refine fspec_det tab_ok Tryz.call89 Tryz.func89 rfl 15 Tryz.ntmps89 (of_decide_eq_true rfl) fun B => codeK_sound tab_ok _ _ _ ?_
  have a1 := all_rows encI AV.flat (fun _ => rfl) w.votes
  have a2 := all_rows encI AV.one (fun _ => rfl) w.votes
  have a3 := sz0_rows encI 1 (fun _ => rfl) w.votes
  have b1 := all_rows encV AV.flat (fun _ => rfl) w.voters
  have b2 := all_rows encV AV.one (fun _ => rfl) w.voters
  have b3 := sz0_rows encV 2 (fun _ => rfl) w.voters
  unfold encW encWF
  simp (config := { maxSteps := 4000000 }) only [go_sem, simprocAttr, ↓dnA, Tryz.f89, rows_length]
  refine semL_draw tab_ok mixed_ rfl (ord := [(0, []), (1, []), (4, []), (5, []), (8, []), (9, []), (2, [4, 5, 8, 9]), (3, [0, 1, 4, 5, 8, 9]), (6, [8, 9]), (7, [0, 1, 4, 5, 8, 9]), (10, []), (11, []), (12, [])]) (by dsimp only; decide +kernel) ?_
  simp (config := { maxSteps := 4000000 }) only [go_sem, simprocAttr, ↓dnA, Tryz.f89, rows_length]
  refine CallTo.det (c_spec_l13Copy n1 n2 n3 w.tree hx) fun _ => ?_
  simp (config := { maxSteps := 4000000 }) only [go_sem, simprocAttr, ↓dnA, Tryz.f89, rows_length, encTF]
  repeat refine And.intro (by first | omega | (simp; done) | (simp; omega) | assumption) ?_
  omega

theorem c_spec_WorldOf (n1 n2 n3 : Option Bool) (t : Tree) (hx : TreeS32 t) : Det Tryz.prog 58 [.agg (encT n1 n2 n3 t)] (.agg (encWF (worldOf t))) := by
  refine fspec_det tab_ok Tryz.call58 Tryz.func58 rfl 15 Tryz.ntmps58 (of_decide_eq_true rfl) fun B => codeK_sound tab_ok _ _ _ ?_
  unfold worldOf
  have hb := hx.blocks
  simp (config := { maxSteps := 4000000 }) only [go_sem, simprocAttr, ↓dnA, Tryz.f58, rows_length, encT]
  refine CallTo.det (c_spec_BlockTreeValid n1 n2 n3 t hx.sz) fun _ => ?_
  cases h0 : treeValid t with
  | false => simp (config := { maxSteps := 4000000 }) only [go_sem, simprocAttr, ↓dnA, Tryz.f58, rows_length, encT, h0, noW, encWF, rows_nil]
  | true =>
    simp (config := { maxSteps := 4000000 }) only [go_sem, simprocAttr, ↓dnA, Tryz.f58, rows_length, encT, h0]
    refine semL_draw tab_ok mixed_ rfl (ord := [(0, []), (3, []), (4, []), (5, [6]), (1, [3, 4, 5, 6]), (2, [0, 3, 4, 5, 6]), (6, [0]), (7, []), (8, [])]) (by dsimp only; decide +kernel) ?_
    simp (config := { maxSteps := 4000000 }) only [go_sem, simprocAttr, ↓dnA, Tryz.f58, rows_length, encT, h0]
    refine ⟨by omega, ?_⟩
    refine CallTo.det (c_spec_l13Copy n1 n2 n3 t hx) fun _ => ?_
    simp (config := { maxSteps := 4000000 }) only [go_sem, simprocAttr, ↓dnA, Tryz.f58, rows_length, encT, encTF, h0, encWF, rows_rep, encV, encI, List.length_replicate]
    repeat refine And.intro (by first | omega | (simp; done) | (simp; omega) | assumption) ?_
    rfl

end Go.Proofs.YtehbgjikmchaoaaGreat

/- Contracts: votes in worlds. -/
set_option linter.unusedSimpArgs false
set_option linter.unusedVariables false
set_option maxRecDepth 20000
set_option maxHeartbeats 4000000
namespace Go.Proofs.YtehbgjikmchaoaaGreat
open Go Go.RowKit

/-- Whether the member m is in a mask; the mask with it. -/
def hasB (v : Int) (m : Nat) : Bool := (v / 2 ^ m) % 2 == 1
def orB (v : Int) (m : Nat) : Int := if hasB v m then v else v + 2 ^ m
def andI (a b : Int) : Int := IntKind.i64.wrap ((BitVec.ofInt 64 a &&& BitVec.ofInt 64 b).toNat : Nat)
def orI (a b : Int) : Int := IntKind.i64.wrap ((BitVec.ofInt 64 a ||| BitVec.ofInt 64 b).toNat : Nat)
theorem intK_or (a b : Int) (K : AV → Prop) : intK .or .i64 .i64 a b K = K (.int .i64 (orI a b)) := propext ⟨fun h => h.2, fun h => ⟨rfl, h⟩⟩
theorem maskF : ∀ (a : Fin 16) (m : Fin 4), (andI ((a.val : Int).fdiv (2 ^ min m.val 64)) 1 == 1) = hasB a.val m.val ∧
    ((((a.val : Int).fdiv (2 ^ min m.val 64)).tmod 2 == 1) = hasB a.val m.val) ∧
    orI (a.val : Int) (IntKind.i64.wrap (1 * 2 ^ min m.val 64)) = orB a.val m.val ∧
    0 ≤ orB a.val m.val ∧ orB a.val m.val ≤ 15 := by decide +kernel
theorem mask_facts {v : Int} (h : 0 ≤ v ∧ v ≤ 15) {m : Nat} (hm : m < 4) : (andI (v.fdiv (2 ^ min m 64)) 1 == 1) = hasB v m ∧
    (((v.fdiv (2 ^ min m 64)).tmod 2 == 1) = hasB v m) ∧
    orI v (IntKind.i64.wrap (1 * 2 ^ min m 64)) = orB v m ∧ 0 ≤ orB v m ∧ orB v m ≤ 15 := by
  obtain ⟨a, rfl⟩ : ∃ a : Nat, v = (a : Int) := ⟨v.toNat, by omega⟩
  exact maskF ⟨a, by omega⟩ ⟨m, hm⟩

/-- Which blocks are certified by their votes. -/
def certW (w : Wld) : List Bool := (List.range w.votes.length).map fun i => i == 0 || decide (many (w.votes.getD i 0) ≥ 3)
theorem certW_len (w : Wld) : (certW w).length = w.votes.length := by simp [certW]
theorem certW_get (w : Wld) (i : Nat) (h : i < w.votes.length) : (certW w).getD i false = (i == 0 || decide (many w.votes[i] ≥ 3)) := by
  have hg : w.votes.getD i 0 = w.votes[i] := by rw [List.getD_eq_getElem?_getD, List.getElem?_eq_getElem h]; rfl
  rw [List.getD_eq_getElem?_getD]
  unfold certW
  rw [List.getElem?_map, List.getElem?_range h]
  show (i == 0 || decide (many (w.votes.getD i 0) ≥ 3)) = _
  rw [hg]
theorem certW_take (w : Wld) (i : Nat) (h : i < w.votes.length) : (certW w).take (i + 1) = (certW w).take i ++ [(certW w).getD i false] := take_succ_getD _ i false (by rw [certW_len]; exact h)

def VoteOk (w : Wld) (m n : Int) : Prop := (0 ≤ m ∧ m ≤ 3) ∧ (1 ≤ n ∧ n < w.votes.length) ∧ hasB (w.votes.getD n.toNat 0) m.toNat = false
def voted (w : Wld) (m n : Int) : List Int := w.votes.set n.toNat (orB (w.votes.getD n.toNat 0) m.toNat)
noncomputable def voteR (w : Wld) (m n : Int) : Voter × Bool := voteFor (w.voters.getD m.toNat ⟨0, 0⟩) w.tree (certW w) n
open Classical in
/-- A world after a vote. -/
noncomputable def voteW (w : Wld) (m n : Int) : Wld × Bool :=
  if VoteOk w m n then (if m = 3 then (⟨w.tree, w.voters, voted w m n⟩, true) else if (voteR w m n).2 then (⟨w.tree, w.voters.set m.toNat (voteR w m n).1, voted w m n⟩, true) else (w, false)) else (w, false)

theorem voteW_no {w : Wld} {m n : Int} (h : ¬ VoteOk w m n) : voteW w m n = (w, false) := by unfold voteW; rw [if_neg h]
theorem voteW_3 {w : Wld} {m n : Int} (h : VoteOk w m n) (h3 : m = 3) : voteW w m n = (⟨w.tree, w.voters, voted w m n⟩, true) := by unfold voteW; rw [if_pos h, if_pos h3]
theorem voteW_yes {w : Wld} {m n : Int} (h : VoteOk w m n) (h3 : m ≠ 3) (hr : (voteR w m n).2 = true) : voteW w m n = (⟨w.tree, w.voters.set m.toNat (voteR w m n).1, voted w m n⟩, true) := by unfold voteW; rw [if_pos h, if_neg h3, if_pos hr]
theorem voteW_not {w : Wld} {m n : Int} (h : VoteOk w m n) (h3 : m ≠ 3) (hr : (voteR w m n).2 = false) : voteW w m n = (w, false) := by unfold voteW; rw [if_pos h, if_neg h3, hr]; rfl

theorem voteW_wsz (w : Wld) (m n : Int) : wsz (voteW w m n).1 = wsz w := by
  unfold voteW
  split
  · split
    · simp [wsz, voted]
    · split
      · simp [wsz, voted]
      · rfl
  · rfl

theorem voterOk_iff (v : Voter) : voterOk v = true ↔ (0 ≤ v.last ∧ v.last ≤ 1000) ∧ 0 ≤ v.lock ∧ v.lock ≤ 1000 := by
  unfold voterOk voterValid
  simp only [Bool.and_eq_true, decide_eq_true_eq]

theorem voteFor_valid {v : Voter} {t : Tree} {c : List Bool} {n : Int} (h : (voteFor v t c n).2 = true) : voterOk (voteFor v t c n).1 = true := by
  cases h0 : voterValid v.last v.lock with
  | false => unfold voteFor at h; rw [h0, if_neg Bool.false_ne_true] at h; cases h
  | true =>
    cases h1 : mayVote v t c n with
    | false => unfold voteFor at h; rw [h0, h1, if_pos rfl, if_neg Bool.false_ne_true] at h; cases h
    | true =>
      have hm := mayOk_of h1
      have hv := (voterOk_iff v).1 h0
      obtain ⟨j, k, rfl, hj, hjb, hkb, g1, g4, g2, hcase⟩ := voteFor_ok h0 h1
      have hbj := view_bd (hm.tree.valid j hj)
      rcases hcase with ⟨hb, hd, he⟩ | ⟨i, hi, hil, g5, he⟩
      · rw [he, voterOk_iff]
        exact ⟨hbj, hv.2⟩
      · have hbi := view_bd (hm.tree.valid i hil)
        rw [he, voterOk_iff]
        refine ⟨hbj, ?_⟩
        show 0 ≤ max v.lock (t.blk i).view ∧ max v.lock (t.blk i).view ≤ 1000
        omega

theorem voteW_valid {w : Wld} (h : worldValid w = true) (m n : Int) : worldValid (voteW w m n).1 = true := by
  obtain ⟨ht, h4, hvo, hvl, hvs⟩ := worldValid_parts h
  have mk : ∀ (vs : List Voter) (ns : List Int), vs.length = 4 → (∀ v, v ∈ vs → voterOk v = true) → ns.length = w.tree.blocks.length → (∀ n, n ∈ ns → 0 ≤ n ∧ n ≤ 15) → worldValid ⟨w.tree, vs, ns⟩ = true := by
    intro vs ns a1 a2 a3 a4
    unfold worldValid
    simp only [Bool.and_eq_true, decide_eq_true_eq, List.all_eq_true]
    exact ⟨⟨⟨⟨treeValid_true ht, a1⟩, a2⟩, a3⟩, fun n hn => inB_iff.2 (a4 n hn)⟩
  by_cases hok : VoteOk w m n
  · obtain ⟨⟨h1, h2⟩, ⟨h3, h5⟩, h6⟩ := hok
    have hnl : n.toNat < w.votes.length := by omega
    have hvb : 0 ≤ w.votes.getD n.toNat 0 ∧ w.votes.getD n.toNat 0 ≤ 15 := by
      rw [List.getD_eq_getElem?_getD, List.getElem?_eq_getElem hnl]
      exact hvs _ (List.getElem_mem hnl)
    have hor := (mask_facts hvb (m := m.toNat) (by omega)).2.2.2
    have hvd : ∀ x, x ∈ voted w m n → 0 ≤ x ∧ x ≤ 15 := fun x hx => by
      unfold voted at hx
      rcases List.mem_or_eq_of_mem_set hx with e | e
      · exact hvs x e
      · rw [e]; exact hor
    have hvdl : (voted w m n).length = w.tree.blocks.length := by unfold voted; rw [List.length_set]; exact hvl
    by_cases hm3 : m = 3
    · rw [voteW_3 ⟨⟨h1, h2⟩, ⟨h3, h5⟩, h6⟩ hm3]
      exact mk _ _ h4 hvo hvdl hvd
    · cases hr : (voteR w m n).2 with
      | false => rw [voteW_not ⟨⟨h1, h2⟩, ⟨h3, h5⟩, h6⟩ hm3 hr]; exact h
      | true =>
        rw [voteW_yes ⟨⟨h1, h2⟩, ⟨h3, h5⟩, h6⟩ hm3 hr]
        refine mk _ _ (by rw [List.length_set]; exact h4) (fun v hv => ?_) hvdl hvd
        rcases List.mem_or_eq_of_mem_set hv with e | e
        · exact hvo v e
        · rw [e]; exact voteFor_valid hr
  · rw [voteW_no hok]; exact h

theorem c_spec_l18Certified (n1 n2 n3 n4 n5 : Option Bool) (w : Wld) (hvt : w.votes.length < 2 ^ 32) (hvs : ∀ n, n ∈ w.votes → 0 ≤ n ∧ n ≤ 15) :
    Det Tryz.prog 114 [.agg (encW n1 n2 n3 n4 n5 w)] (.osl true 1 (boolRows (certW w))) := by
  refine fspec_det tab_ok Tryz.call114 Tryz.func114 rfl 28 Tryz.ntmps114 (of_decide_eq_true rfl) fun B => codeK_sound tab_ok _ _ _ ?_
  simp (config := { maxSteps := 4000000 }) only [go_sem, simprocAttr, ↓dnA, Tryz.f114, rows_length, boolRows_length, encW]
  refine semL_for tab_ok (fun i : Nat => ⟨28, [(1, .loc 1 0), (3, .row 600 i), (4, .int .i64 i)], [(1, .var (encW n1 n2 n3 n4 n5 w)), (600, .row true true 1 (boolRows ((certW w).take i)))]⟩) (fun i => w.votes.length - i)
    (fun i => i ≤ w.votes.length) 0 [(1, 1), (5, 600)] (Weak.of (by rfl) ?_ ?_ (by rfl)) (by omega) ?_
  · simp (config := { maxSteps := 4000000 }) only [go_sem, simprocAttr, ↓dnA, Tryz.f114, rows_length, boolRows_length, encW, frW, wk2, wk1, wkL, wkB, hpW, List.mem_cons, Prod.mk.injEq, exists_eq_left, exists_eq_right, exists_eq]
    try rfl
  · simp (config := { maxSteps := 4000000 }) only [go_sem, simprocAttr, ↓dnA, Tryz.f114, rows_length, boolRows_length, nc0, frW, wk2, wk1, wkL, wkB, hpW, List.mem_cons, Prod.mk.injEq, exists_eq_left, exists_eq_right, exists_eq]
  · rintro i hi
    have hcl := certW_len w
    by_cases h : i < w.votes.length
    · have hw : IntKind.i64.wrap ((i : Int) + 1) = ((i + 1 : Nat) : Int) := wsucc h (by omega)
      have hg := certW_get w i h
      have hst := certW_take w i h
      have htl : ((certW w).take i).length = i := by rw [List.length_take]; omega
      have htk : (boolRows ((certW w).take i)).take i = boolRows ((certW w).take i) := by rw [List.take_of_length_le]; rw [boolRows_length, htl]; omega
      have hsn : ∀ b : Bool, boolRows ((certW w).take i) ++ [[.bool b]] = boolRows ((certW w).take i ++ [b]) := fun b => rows_snoc encBo _ b
      by_cases h0 : i = 0
      · have hz : ((i : Int) == 0) = true := by simp; omega
        have hgt : (certW w).getD i false = true := by rw [hg]; simp [h0]
        rw [hgt] at hst
        simp (config := { maxSteps := 4000000 }) only [go_sem, simprocAttr, ↓dnA, Tryz.f114, rows_length, boolRows_length, encW, nlt h, h, nn0, hz, htl, htk, hw]
        repeat refine And.intro (by first | omega | (simp; done) | (simp; omega) | assumption) ?_
        refine ⟨i + 1, [(1, 1), (26, 600)], by omega, by dsimp only; omega, Weak.of (by rfl) ?_ ?_ (by rfl)⟩
        · simp (config := { maxSteps := 4000000 }) only [go_sem, simprocAttr, ↓dnA, Tryz.f114, rows_length, boolRows_length, encW, hst, hsn, frW, wk2, wk1, wkL, wkB, hpW, List.mem_cons, Prod.mk.injEq, exists_eq_left, exists_eq_right, exists_eq]
        · simp (config := { maxSteps := 4000000 }) only [go_sem, simprocAttr, ↓dnA, Tryz.f114, rows_length, boolRows_length, frW, wk2, wk1, wkL, wkB, hpW, List.mem_cons, Prod.mk.injEq, exists_eq_left, exists_eq_right, exists_eq]
      · have hz : ((i : Int) == 0) = false := by simp; omega
        have hb := hvs _ (List.getElem_mem h)
        have hgt : (certW w).getD i false = decide (many w.votes[i] ≥ 3) := by rw [hg]; simp [h0]
        rw [hgt] at hst
        simp (config := { maxSteps := 4000000 }) only [go_sem, simprocAttr, ↓dnA, Tryz.f114, rows_length, boolRows_length, encW, nlt h, h, nn0, hz, rows_get _ _ _ h, encI]
        refine CallTo.det (c_spec_l15Many _ hb) fun _ => ?_
        simp (config := { maxSteps := 4000000 }) only [go_sem, simprocAttr, ↓dnA, Tryz.f114, rows_length, boolRows_length, encW, nlt h, h, nn0, hz, rows_get _ _ _ h, encI, htl, htk, hw]
        repeat refine And.intro (by first | omega | (simp; done) | (simp; omega) | assumption) ?_
        refine ⟨i + 1, [(1, 1), (26, 600)], by omega, by dsimp only; omega, Weak.of (by rfl) ?_ ?_ (by rfl)⟩
        · simp (config := { maxSteps := 4000000 }) only [go_sem, simprocAttr, ↓dnA, Tryz.f114, rows_length, boolRows_length, encW, hst, hsn, frW, wk2, wk1, wkL, wkB, hpW, List.mem_cons, Prod.mk.injEq, exists_eq_left, exists_eq_right, exists_eq]
        · simp (config := { maxSteps := 4000000 }) only [go_sem, simprocAttr, ↓dnA, Tryz.f114, rows_length, boolRows_length, frW, wk2, wk1, wkL, wkB, hpW, List.mem_cons, Prod.mk.injEq, exists_eq_left, exists_eq_right, exists_eq]
    · have hi' : i = w.votes.length := by omega
      subst hi'
      have htl : (certW w).take w.votes.length = certW w := by rw [List.take_of_length_le]; omega
      simp (config := { maxSteps := 4000000 }) only [go_sem, simprocAttr, ↓dnA, Tryz.f114, rows_length, boolRows_length, encW, nlf h, htl, hcl]

end Go.Proofs.YtehbgjikmchaoaaGreat

/- Contracts: worlds after a vote. -/
set_option linter.unusedSimpArgs false
set_option linter.unusedVariables false
set_option maxRecDepth 20000
set_option maxHeartbeats 4000000
namespace Go.Proofs.YtehbgjikmchaoaaGreat
open Go Go.RowKit

noncomputable def worldVote (w : Wld) (m n : Int) : Wld × Bool := if worldValid w then voteW w m n else (noW, false)
theorem worldVote_yes {w : Wld} (h : worldValid w = true) (m n : Int) : worldVote w m n = voteW w m n := by unfold worldVote; rw [if_pos h]
theorem worldVote_no {w : Wld} (h : worldValid w = false) (m n : Int) : worldVote w m n = (noW, false) := by unfold worldVote; rw [h]; rfl
theorem c_spec_WorldVote (n1 n2 n3 n4 n5 : Option Bool) (w : Wld) (m n : Int) (hx : WldSz w) :
    Det Tryz.prog 90 [.agg (encW n1 n2 n3 n4 n5 w), .int .i64 m, .int .i64 n] (.tup [.agg (encWF (worldVote w m n).1), .bool (worldVote w m n).2]) := by
  refine fspec_det tab_ok Tryz.call90 Tryz.func90 rfl 78 Tryz.ntmps90 (of_decide_eq_true rfl) fun B => codeK_sound tab_ok _ _ _ ?_
  simp (config := { maxSteps := 4000000 }) only [go_sem, simprocAttr, ↓dnA, Tryz.f90, rows_length, encW, encWF]
  refine CallTo.det (c_spec_WorldValid n1 n2 n3 n4 n5 w hx) fun _ => ?_
  cases h0 : worldValid w with
  | false => simp (config := { maxSteps := 4000000 }) only [go_sem, simprocAttr, ↓dnA, Tryz.f90, rows_length, encW, encWF, h0, worldVote_no h0, noW, rows_nil]
  | true =>
    have hs := worldOk_s32 h0
    obtain ⟨ht, h4, hvo, hvl, hvs⟩ := worldValid_parts h0
    have hlen := ht.len
    have hw : IntKind.i64.wrap ((w.votes.length : Int) - 1) = (w.votes.length : Int) - 1 := wrap_small _ (by omega) (by omega)
    rw [worldVote_yes h0]
    simp (config := { maxSteps := 4000000 }) only [go_sem, simprocAttr, ↓dnA, Tryz.f90, rows_length, encW, encWF, h0]
    refine CallTo.det (c_spec_l18Copy n1 n2 n3 n4 n5 w hs.tree hs.voters hs.votes) fun _ => ?_
    simp (config := { maxSteps := 4000000 }) only [go_sem, simprocAttr, ↓dnA, Tryz.f90, rows_length, encW, encWF, h0, hw]
    refine CallTo.det (c_l1In _ _ _) fun _ => ?_
    cases q1 : inB m 0 3 with
    | false =>
      have hno := voteW_no (w := w) (m := m) (n := n) (fun e => by have := inB_iff.2 e.1; rw [q1] at this; cases this)
      simp (config := { maxSteps := 4000000 }) only [go_sem, simprocAttr, ↓dnA, Tryz.f90, rows_length, encW, encWF, h0, hw, q1, hno]
    | true =>
      have hm := inB_iff.1 q1
      obtain ⟨a, rfl⟩ : ∃ a : Nat, m = (a : Int) := ⟨m.toNat, by omega⟩
      simp (config := { maxSteps := 4000000 }) only [go_sem, simprocAttr, ↓dnA, Tryz.f90, rows_length, encW, encWF, h0, hw, q1]
      refine CallTo.det (c_l1In _ _ _) fun _ => ?_
      cases q2 : inB n 1 ((w.votes.length : Int) - 1) with
      | false =>
        have hno := voteW_no (w := w) (m := (a : Int)) (n := n) (fun e => by have h := e.2.1; have := inB_iff.2 (show 1 ≤ n ∧ n ≤ (w.votes.length : Int) - 1 by omega); rw [q2] at this; cases this)
        simp (config := { maxSteps := 4000000 }) only [go_sem, simprocAttr, ↓dnA, Tryz.f90, rows_length, encW, encWF, h0, hw, q1, q2, hno]
      | true =>
        have hn := inB_iff.1 q2
        obtain ⟨b, rfl⟩ : ∃ b : Nat, n = (b : Int) := ⟨n.toNat, by omega⟩
        have hbl : b < w.votes.length := by omega
        have hgb : w.votes.getD b 0 = w.votes[b] := by rw [List.getD_eq_getElem?_getD, List.getElem?_eq_getElem hbl]; rfl
        have hvb := hvs _ (List.getElem_mem hbl)
        have ha4 : a < 4 := by omega
        obtain ⟨k1, k2, k3, k4, k5⟩ := mask_facts hvb ha4
        cases q3 : hasB w.votes[b] a with
        | true =>
          have hno := voteW_no (w := w) (m := (a : Int)) (n := (b : Int)) (fun e => by have h := e.2.2; rw [Int.toNat_natCast, Int.toNat_natCast, hgb, q3] at h; cases h)
          rw [q3] at k2
          simp (config := { maxSteps := 4000000 }) only [go_sem, simprocAttr, ↓dnA, Tryz.f90, rows_length, encW, encWF, h0, hw, q1, q2, nlt hbl, hbl, nn0, rows_get _ _ _ hbl, encI, k2, hno]
        | false =>
          have hok : VoteOk w (a : Int) (b : Int) := ⟨hm, by omega, by rw [Int.toNat_natCast, Int.toNat_natCast, hgb]; exact q3⟩
          have hvd : voted w (a : Int) (b : Int) = w.votes.set b (orB w.votes[b] a) := by unfold voted; rw [Int.toNat_natCast, Int.toNat_natCast, hgb]
          have hrs : (rows encI w.votes).set b [.int .i64 (orB w.votes[b] a)] = rows encI (w.votes.set b (orB w.votes[b] a)) := by rw [← rows_set]; rfl
          rw [q3] at k2
          by_cases hm3 : (a : Int) = 3
          · have hne : decide ((a : Int) < 3) = false := by simp; omega
            have hr := voteW_3 hok hm3
            rw [hvd] at hr
            simp (config := { maxSteps := 4000000 }) only [go_sem, simprocAttr, ↓dnA, Tryz.f90, rows_length, encW, encWF, h0, hw, q1, q2, nlt hbl, hbl, nn0, rows_get _ _ _ hbl, encI, k2, hne]
            refine semL_draw tab_ok mixed_ rfl (ord := [(0, []), (1, []), (2, []), (3, []), (4, []), (5, []), (6, []), (7, []), (8, []), (9, []), (10, []), (11, []), (12, [])]) (by dsimp only; decide +kernel) ?_
            simp (config := { maxSteps := 4000000 }) only [go_sem, simprocAttr, ↓dnA, Tryz.f90, rows_length, encW, encWF, h0, hw, q1, q2, nlt hbl, hbl, nn0, rows_get _ _ _ hbl, encI, k2, hne, ↓intK_or, k3, spliceL, hr, hrs, List.length_set]
          · have hne : decide ((a : Int) < 3) = true := by simp; omega
            have hav : a < w.voters.length := by omega
            have hgv : w.voters.getD a ⟨0, 0⟩ = w.voters[a] := by rw [List.getD_eq_getElem?_getD, List.getElem?_eq_getElem hav]; rfl
            have hre : voteR w (a : Int) (b : Int) = voteFor w.voters[a] w.tree (certW w) (b : Int) := by unfold voteR; rw [Int.toNat_natCast, hgv]
            have ev : encV w.voters[a] = [.int .i64 w.voters[a].last, .int .i64 w.voters[a].lock] := rfl
            have hcl := certW_len w
            simp (config := { maxSteps := 4000000 }) only [go_sem, simprocAttr, ↓dnA, Tryz.f90, rows_length, encW, encWF, h0, hw, q1, q2, nlt hbl, hbl, nn0, rows_get _ _ _ hbl, encI, k2, hne]
            refine semL_draw tab_ok mixed_ rfl (ord := [(0, []), (1, []), (2, []), (3, []), (4, []), (5, []), (6, []), (7, []), (9, []), (8, [0, 1, 2, 3, 4, 5, 6, 9]), (10, []), (11, []), (12, []), (13, []), (14, [0, 1, 2, 3, 4, 5, 6, 7, 9, 11, 12, 13]), (15, [13]), (16, [])]) (by dsimp only; decide +kernel) ?_
            simp (config := { maxSteps := 4000000 }) only [go_sem, simprocAttr, ↓dnA, Tryz.f90, rows_length, encW, encWF, h0, hw, q1, q2, nlt hbl, hbl, nn0, rows_get _ _ _ hbl, encI, k2, hne, nlt hav, hav, rows_get _ _ _ hav, ev]
            refine CallTo.det (c_spec_l18Certified n1 n2 n3 n4 n5 w hs.votes hvs) fun _ => ?_
            simp (config := { maxSteps := 4000000 }) only [go_sem, simprocAttr, ↓dnA, Tryz.f90, rows_length, encW, encWF, h0, hw, q1, q2, nlt hbl, hbl, nn0, rows_get _ _ _ hbl, encI, k2, hne, nlt hav, hav, rows_get _ _ _ hav, ev]
            refine CallTo.det (c_spec_VoteFor n1 n2 n3 (some true) w.voters[a] w.tree (certW w) (b : Int) hs.tree.sz (by omega)) fun _ => ?_
            have hy := voteW_yes hok hm3
            have hnt := voteW_not hok hm3
            rw [hre, hvd] at hy
            rw [hre] at hnt
            generalize voteFor w.voters[a] w.tree (certW w) (b : Int) = r at hy hnt
            obtain ⟨x, ok⟩ := r
            dsimp only at hy hnt ⊢
            cases ok with
            | false =>
              have hnt := hnt rfl
              simp (config := { maxSteps := 4000000 }) only [go_sem, simprocAttr, ↓dnA, Tryz.f90, rows_length, encW, encWF, h0, hw, q1, q2, nlt hbl, hbl, nn0, rows_get _ _ _ hbl, encI, k2, hne, nlt hav, hav, rows_get _ _ _ hav, encV, hnt]
            | true =>
              have hy := hy rfl
              rw [Int.toNat_natCast] at hy
              have hrv : (rows encV w.voters).set a [.int .i64 x.last, .int .i64 x.lock] = rows encV (w.voters.set a x) := by rw [← rows_set]; rfl
              simp (config := { maxSteps := 4000000 }) only [go_sem, simprocAttr, ↓dnA, Tryz.f90, rows_length, encW, encWF, h0, hw, q1, q2, nlt hbl, hbl, nn0, rows_get _ _ _ hbl, encI, k2, hne, nlt hav, hav, rows_get _ _ _ hav, encV, spliceL, List.length_set]
              refine semL_draw tab_ok mixed_ rfl (ord := [(0, []), (1, []), (2, []), (3, []), (4, []), (5, []), (6, []), (7, []), (8, []), (9, []), (10, []), (11, []), (12, [])]) (by dsimp only; decide +kernel) ?_
              simp (config := { maxSteps := 4000000 }) only [go_sem, simprocAttr, ↓dnA, Tryz.f90, rows_length, encW, encWF, h0, hw, q1, q2, nlt hbl, hbl, nn0, rows_get _ _ _ hbl, encI, k2, hne, nlt hav, hav, rows_get _ _ _ hav, encV, ↓intK_or, k3, spliceL, hy, hrs, hrv, List.length_set]

end Go.Proofs.YtehbgjikmchaoaaGreat

/- Contracts: worlds after votes. -/
set_option linter.unusedSimpArgs false
set_option linter.unusedVariables false
set_option maxRecDepth 20000
set_option maxHeartbeats 4000000
namespace Go.Proofs.YtehbgjikmchaoaaGreat
open Go Go.RowKit

noncomputable def stepV (p : Wld × Int) (m : Int) : Wld × Int := ((voteW p.1 (m.tmod 4) (m.tdiv 4)).1, if (voteW p.1 (m.tmod 4) (m.tdiv 4)).2 then p.2 + 1 else p.2)
noncomputable def runW (w : Wld) (sc : List Int) : Wld × Int := sc.foldl stepV (w, 0)
def ScOk (sc : List Int) : Prop := sc.length ≤ 100 ∧ (sc.all fun m => inB m 0 1000) = true
open Classical in
noncomputable def worldRun (w : Wld) (sc : List Int) : Wld × Int := if worldValid w = true ∧ ScOk sc then runW w sc else (noW, -1)

theorem worldRun_yes {w : Wld} {sc : List Int} (h : worldValid w = true) (hs : ScOk sc) : worldRun w sc = runW w sc := by unfold worldRun; rw [if_pos ⟨h, hs⟩]
theorem worldRun_no {w : Wld} {sc : List Int} (h : ¬ (worldValid w = true ∧ ScOk sc)) : worldRun w sc = (noW, -1) := by unfold worldRun; rw [if_neg h]
theorem runW_take (w : Wld) (sc : List Int) (i : Nat) (h : i < sc.length) : runW w (sc.take (i + 1)) = stepV (runW w (sc.take i)) sc[i] := by
  unfold runW; rw [take_snoc _ _ h, List.foldl_append]; rfl
theorem runW_ok {w : Wld} (hv : worldValid w = true) (sc : List Int) : ∀ i, i ≤ sc.length → worldValid (runW w (sc.take i)).1 = true ∧ wsz (runW w (sc.take i)).1 = wsz w ∧ 0 ≤ (runW w (sc.take i)).2 ∧ (runW w (sc.take i)).2 ≤ i
  | 0, _ => ⟨hv, rfl, by simp [runW], by simp [runW]⟩
  | i + 1, hi => by
    obtain ⟨h1, h2, h3, h4⟩ := runW_ok hv sc i (by omega)
    rw [runW_take w sc i (by omega)]
    refine ⟨voteW_valid h1 _ _, ?_, ?_, ?_⟩
    · show wsz (voteW _ _ _).1 = _; rw [voteW_wsz, h2]
    · unfold stepV; dsimp only; split <;> omega
    · unfold stepV; dsimp only; split <;> omega
theorem c_spec_WorldRun (n1 n2 n3 n4 n5 n6 : Option Bool) (w : Wld) (sc : List Int) (hx : WldSz w) (hsc : sc.length < 2 ^ 62) :
    Det Tryz.prog 59 [.agg (encW n1 n2 n3 n4 n5 w), .sl n6 (rows encI sc)] (.tup [.agg (encWF (worldRun w sc).1), .int .i64 (worldRun w sc).2]) := by
  refine fspec_det tab_ok Tryz.call59 Tryz.func59 rfl 56 Tryz.ntmps59 (of_decide_eq_true rfl) fun B => codeK_sound tab_ok _ _ _ ?_
  simp (config := { maxSteps := 4000000 }) only [go_sem, simprocAttr, ↓dnA, Tryz.f59, rows_length, encW, encWF]
  refine CallTo.det (c_spec_WorldValid n1 n2 n3 n4 n5 w hx) fun _ => ?_
  cases h0 : worldValid w with
  | false =>
    have hno := worldRun_no (w := w) (sc := sc) (fun e => by rw [h0] at e; cases e.1)
    simp (config := { maxSteps := 4000000 }) only [go_sem, simprocAttr, ↓dnA, Tryz.f59, rows_length, encW, encWF, h0, hno, noW, rows_nil]
  | true =>
    by_cases h100 : (sc.length : Int) > 100
    · have hno := worldRun_no (w := w) (sc := sc) (fun e => by have := e.2.1; omega)
      simp (config := { maxSteps := 4000000 }) only [go_sem, simprocAttr, ↓dnA, Tryz.f59, rows_length, encW, encWF, h0, decide_eq_true h100, hno, noW, rows_nil]
    · have d100 := decide_eq_false h100
      have hs := worldOk_s32 h0
      simp (config := { maxSteps := 4000000 }) only [go_sem, simprocAttr, ↓dnA, Tryz.f59, rows_length, encW, encWF, h0, d100]
      refine CallTo.det (c_spec_l18Copy n1 n2 n3 n4 n5 w hs.tree hs.voters hs.votes) fun _ => ?_
      simp (config := { maxSteps := 4000000 }) only [go_sem, simprocAttr, ↓dnA, Tryz.f59, rows_length, encW, encWF, h0, d100]
      refine semL_for tab_ok (fun i : Nat => ⟨56, [(1, .sl n6 (rows encI sc)), (4, .loc 4 0), (6, .int .i64 (runW w (sc.take i)).2), (7, .loc 7 0), (8, .int .i64 i)],
          [(4, .var [.sl (some false) [], .sl (some false) [], .sl (some false) [], .sl (some false) [], .sl (some false) []]),
            (7, .var [.row 601 (runW w (sc.take i)).1.tree.base.length, .row 602 (runW w (sc.take i)).1.tree.blocks.length, .row 603 (runW w (sc.take i)).1.tree.before.length, .row 604 (runW w (sc.take i)).1.voters.length, .row 605 (runW w (sc.take i)).1.votes.length]),
            (601, .row true false 2 (rows encE (runW w (sc.take i)).1.tree.base)), (602, .row true false 6 (rows encB1 (runW w (sc.take i)).1.tree.blocks)), (603, .row true false 1 (rows encI (runW w (sc.take i)).1.tree.before)), (604, .row true false 2 (rows encV (runW w (sc.take i)).1.voters)), (605, .row true false 1 (rows encI (runW w (sc.take i)).1.votes))]⟩) (fun i => sc.length - i)
        (fun i => i ≤ sc.length ∧ ((sc.take i).all fun m => inB m 0 1000) = true) 0 [(4, 4), (7, 7), (22000, 601), (22001, 602), (22002, 603), (22003, 604), (22004, 605)] (Weak.of (by rfl) ?_ ?_ (by rfl)) ⟨by omega, rfl⟩ ?_
      · simp (config := { maxSteps := 4000000 }) only [go_sem, simprocAttr, ↓dnA, Tryz.f59, rows_length, encW, encWF, List.take_zero, runW, List.foldl_nil, frW, wk2, wk1, wkL, wkB, hpW, List.mem_cons, Prod.mk.injEq, exists_eq_left, exists_eq_right, exists_eq]
        try rfl
      · simp (config := { maxSteps := 4000000 }) only [go_sem, simprocAttr, ↓dnA, Tryz.f59, rows_length, encW, encWF, nc0, List.take_zero, runW, List.foldl_nil, frW, wk2, wk1, wkL, wkB, hpW, List.mem_cons, Prod.mk.injEq, exists_eq_left, exists_eq_right, exists_eq]
        try rfl
      · rintro i ⟨hi, hal⟩
        obtain ⟨r1, r2, r3, r4⟩ := runW_ok h0 sc i hi
        by_cases h : i < sc.length
        · have hw : IntKind.i64.wrap ((i : Int) + 1) = ((i + 1 : Nat) : Int) := wsucc h (by omega)
          have hst := runW_take w sc i h
          simp (config := { maxSteps := 4000000 }) only [go_sem, simprocAttr, ↓dnA, Tryz.f59, rows_length, encW, encWF, nlt h, h, nn0, rows_get _ _ _ h, encI]
          refine CallTo.det (c_l1In _ _ _) fun _ => ?_
          cases hb0 : inB sc[i] 0 1000 with
          | false =>
            have hno := worldRun_no (w := w) (sc := sc) (fun e => by
              have := List.all_eq_true.1 e.2.2 _ (List.getElem_mem h)
              rw [hb0] at this; cases this)
            simp (config := { maxSteps := 4000000 }) only [go_sem, simprocAttr, ↓dnA, Tryz.f59, rows_length, encW, encWF, nlt h, h, nn0, rows_get _ _ _ h, encI, hb0, hno, noW, rows_nil]
          | true =>
            have hb := inB_iff.1 hb0
            have hal' : ((sc.take (i + 1)).all fun m => inB m 0 1000) = true := by
              rw [take_snoc _ _ h, List.all_append, hal, List.all_cons, hb0]; rfl
            generalize runW w (sc.take i) = p at r1 r2 r3 r4 hst
            obtain ⟨u, d⟩ := p
            dsimp only at r1 r2 r3 r4
            have t1 : IntKind.i64.wrap (sc[i].tdiv 4) = sc[i].tdiv 4 := by
              have : sc[i].tdiv 4 = sc[i] / 4 := Int.tdiv_eq_ediv_of_nonneg hb.1
              rw [this]
              exact wrap_small _ (by omega) (by omega)
            have hwd : IntKind.i64.wrap (d + 1) = d + 1 := wrap_small _ (by omega) (by omega)
            simp (config := { maxSteps := 4000000 }) only [go_sem, simprocAttr, ↓dnA, Tryz.f59, rows_length, encW, encWF, nlt h, h, nn0, rows_get _ _ _ h, encI, hb0]
            refine semL_draw tab_ok mixed_ rfl (ord := [(0, []), (1, []), (2, []), (3, []), (4, []), (5, []), (6, []), (7, []), (8, []), (9, []), (10, []), (11, []), (12, []), (13, []), (14, []), (15, [0, 1, 2, 3, 4, 5, 6, 7, 8, 9, 10, 12, 13, 14]), (16, [14]), (17, [])]) (by dsimp only; decide +kernel) ?_
            simp (config := { maxSteps := 4000000 }) only [go_sem, simprocAttr, ↓dnA, Tryz.f59, rows_length, encW, encWF, nlt h, h, nn0, rows_get _ _ _ h, encI, hb0, t1]
            refine CallTo.det (c_spec_WorldVote none none none none none u (sc[i].tmod 4) (sc[i].tdiv 4) (worldOk_s32 r1).sz) fun _ => ?_
            rw [worldVote_yes r1]
            unfold stepV at hst
            dsimp only at hst
            generalize voteW u (sc[i].tmod 4) (sc[i].tdiv 4) = r at hst
            obtain ⟨x, ok⟩ := r
            dsimp only at hst
            cases ok with
            | false =>
              rw [if_neg Bool.false_ne_true] at hst
              simp (config := { maxSteps := 4000000 }) only [go_sem, simprocAttr, ↓dnA, Tryz.f59, rows_length, encW, encWF, nlt h, h, nn0, rows_get _ _ _ h, encI, hb0, t1, hw]
              refine ⟨i + 1, [(4, 4), (7, 7), (48000, 601), (48001, 602), (48002, 603), (48003, 604), (48004, 605)], ⟨by omega, hal'⟩, by dsimp only; omega, Weak.of (by rfl) ?_ ?_ (by rfl)⟩
              · simp (config := { maxSteps := 4000000 }) only [go_sem, simprocAttr, ↓dnA, Tryz.f59, rows_length, encW, encWF, hst, frW, wk2, wk1, wkL, wkB, hpW, List.mem_cons, Prod.mk.injEq, exists_eq_left, exists_eq_right, exists_eq]
              · simp (config := { maxSteps := 4000000 }) only [go_sem, simprocAttr, ↓dnA, Tryz.f59, rows_length, encW, encWF, hst, frW, wk2, wk1, wkL, wkB, hpW, List.mem_cons, Prod.mk.injEq, exists_eq_left, exists_eq_right, exists_eq]
            | true =>
              rw [if_pos rfl] at hst
              simp (config := { maxSteps := 4000000 }) only [go_sem, simprocAttr, ↓dnA, Tryz.f59, rows_length, encW, encWF, nlt h, h, nn0, rows_get _ _ _ h, encI, hb0, t1, hwd, hw]
              refine ⟨i + 1, [(4, 4), (7, 7), (48000, 601), (48001, 602), (48002, 603), (48003, 604), (48004, 605)], ⟨by omega, hal'⟩, by dsimp only; omega, Weak.of (by rfl) ?_ ?_ (by rfl)⟩
              · simp (config := { maxSteps := 4000000 }) only [go_sem, simprocAttr, ↓dnA, Tryz.f59, rows_length, encW, encWF, hst, frW, wk2, wk1, wkL, wkB, hpW, List.mem_cons, Prod.mk.injEq, exists_eq_left, exists_eq_right, exists_eq]
              · simp (config := { maxSteps := 4000000 }) only [go_sem, simprocAttr, ↓dnA, Tryz.f59, rows_length, encW, encWF, hst, frW, wk2, wk1, wkL, wkB, hpW, List.mem_cons, Prod.mk.injEq, exists_eq_left, exists_eq_right, exists_eq]
        · have hi' : i = sc.length := by omega
          subst hi'
          rw [List.take_length] at hal
          have hyes := worldRun_yes h0 (sc := sc) ⟨by omega, hal⟩
          simp (config := { maxSteps := 4000000 }) only [go_sem, simprocAttr, ↓dnA, Tryz.f59, rows_length, encW, encWF, nlf h, List.take_length, hyes]

end Go.Proofs.YtehbgjikmchaoaaGreat

/- Contracts: drawn votes and worlds; FnWorldValid. -/
set_option linter.unusedSimpArgs false
set_option linter.unusedVariables false
set_option maxRecDepth 20000
set_option maxHeartbeats 4000000
namespace Go.Proofs.YtehbgjikmchaoaaGreat
open Go Go.RowKit

def VotesQ (nb : Option Bool) (bs : List Int) (p : Int) (n : Nat) (r : AV) (b : List AV) : Prop := ∃ (l : List Int) (q : Int), r = .osl true 1 (rows encI l) ∧ b = rd nb bs q ∧ p ≤ q ∧ q ≤ p + 100 ∧ l.length + 5 ≤ 5 * n ∧ ∀ x, x ∈ l → 0 ≤ x ∧ x ≤ 1000

theorem c_spec_l20Votes (nb : Option Bool) (bs : List Int) (p : Int) (n : Nat) (h : RdOk bs p) (hp : p ≤ 999999000) (hn : 1 ≤ n ∧ n ≤ 14) : FSpec Tryz.prog 60 [.loc 0 0, .int .i64 (n : Nat)] true (rd nb bs p) (VotesQ nb bs p n) := by
  refine fspec_rel tab_ok Tryz.call60 Tryz.func60 rfl 39 Tryz.ntmps60 (of_decide_eq_true rfl) fun B => codeK_sound tab_ok _ _ _ ?_
  unfold rd
  simp (config := { maxSteps := 4000000 }) only [go_sem, simprocAttr, ↓dnA, Tryz.f60, rows_length]
  refine semL_for tab_ok (fun s : List Int × Nat × Int => ⟨39, [(0, .loc 900 0), (1, .int .i64 (n : Nat)), (4, .sl (some false) []), (5, .row 600 s.1.length), (6, .int .i64 s.2.1)], [(900, .var (rd nb bs s.2.2)), (600, .row true true 1 (rows encI s.1))]⟩) (fun s => n - s.2.1)
    (fun s => 1 ≤ s.2.1 ∧ s.2.1 ≤ n ∧ s.1.length + 5 ≤ 5 * s.2.1 ∧ p ≤ s.2.2 ∧ s.2.2 + 6 ≤ p + 6 * s.2.1 ∧ ∀ x, x ∈ s.1 → 0 ≤ x ∧ x ≤ 1000) ([], 1, p) [(900, 900), (8, 600)] (Weak.of (by rfl) ?_ ?_ (by rfl)) ⟨by dsimp only; omega, by dsimp only; omega, by dsimp only; simp, by dsimp only; omega, by dsimp only; omega, fun x hx => by cases hx⟩ ?_
  · simp (config := { maxSteps := 4000000 }) only [go_sem, simprocAttr, ↓dnA, Tryz.f60, rows_length, rd, frW, wk2, wk1, wkL, wkB, hpW, List.mem_cons, Prod.mk.injEq, exists_eq_left, exists_eq_right, exists_eq]
    try rfl
  · simp (config := { maxSteps := 4000000 }) only [go_sem, simprocAttr, ↓dnA, Tryz.f60, rows_length, rd, frW, wk2, wk1, wkL, wkB, hpW, List.mem_cons, Prod.mk.injEq, exists_eq_left, exists_eq_right, exists_eq]
    try rfl
  · rintro ⟨l, k, q⟩ ⟨i0, i1, i2, i3, i4, i5⟩
    dsimp only at i0 i1 i2 i3 i4 i5 ⊢
    by_cases hk : k < n
    · have hwk : IntKind.i64.wrap ((k : Int) + 1) = ((k + 1 : Nat) : Int) := wsucc hk (by omega)
      simp (config := { maxSteps := 4000000 }) only [go_sem, simprocAttr, ↓dnA, Tryz.f60, rows_length, rd, nlt hk]
      refine semL_for tab_ok (fun s : List Int × Nat × Int => ⟨39, [(0, .loc 900 0), (1, .int .i64 (n : Nat)), (4, .sl (some false) []), (5, .row 600 s.1.length), (6, .int .i64 (k : Nat)), (7, .int .i64 s.2.1)], [(900, .var (rd nb bs s.2.2)), (600, .row true true 1 (rows encI s.1))]⟩) (fun s => 4 - s.2.1)
        (fun s => s.2.1 ≤ 4 ∧ s.1.length ≤ l.length + s.2.1 ∧ q ≤ s.2.2 ∧ s.2.2 ≤ q + s.2.1 ∧ ∀ x, x ∈ s.1 → 0 ≤ x ∧ x ≤ 1000) (l, 0, q) [(900, 900), (600, 600)] (Weak.of (by rfl) ?_ ?_ (by rfl)) ⟨by dsimp only; omega, by dsimp only; omega, by dsimp only; omega, by dsimp only; omega, i5⟩ ?_
      · simp (config := { maxSteps := 4000000 }) only [go_sem, simprocAttr, ↓dnA, Tryz.f60, rows_length, rd, frW, wk2, wk1, wkL, wkB, hpW, List.mem_cons, Prod.mk.injEq, exists_eq_left, exists_eq_right, exists_eq]
        try rfl
      · simp (config := { maxSteps := 4000000 }) only [go_sem, simprocAttr, ↓dnA, Tryz.f60, rows_length, rd, frW, wk2, wk1, wkL, wkB, hpW, List.mem_cons, Prod.mk.injEq, exists_eq_left, exists_eq_right, exists_eq]
        try rfl
      · rintro ⟨l1, m, q1⟩ ⟨j1, j2, j3, j4, j5⟩
        dsimp only at j1 j2 j3 j4 j5 ⊢
        have hq1 := h.step (q := q1) (by omega) (by omega)
        have hr2 := h.step (q := q1 + 1) (by omega) (by omega)
        have htk : (rows encI l1).take l1.length = rows encI l1 := by rw [List.take_of_length_le]; rw [rows_length]; omega
        have hsn : ∀ v : Int, rows encI l1 ++ [[.int .i64 v]] = rows encI (l1 ++ [v]) := fun v => by rw [← rows_snoc]; rfl
        have hmem : ∀ v : Int, 0 ≤ v ∧ v ≤ 1000 → ∀ x, x ∈ l1 ++ [v] → 0 ≤ x ∧ x ≤ 1000 := fun v hv x hx => by
          rcases List.mem_append.1 hx with h | h
          · exact j5 x h
          · rw [List.mem_singleton] at h; rw [h]; exact hv
        by_cases hm : m < 4
        · have hm4 : ((m : Int) < 4) = True := by simp; omega
          have hwm : IntKind.i64.wrap ((m : Int) + 1) = ((m + 1 : Nat) : Int) := wsucc hm (by omega)
          simp (config := { maxSteps := 4000000 }) only [go_sem, simprocAttr, ↓dnA, Tryz.f60, rows_length, rd, hm4]
          refine CallTo.of (c_spec_pick nb bs q1 6 hq1) ?_
          rintro r b ⟨x, rfl, rfl, hx⟩
          cases hx0 : decide (x > 0) with
          | false =>
            simp (config := { maxSteps := 4000000 }) only [go_sem, simprocAttr, ↓dnA, Tryz.f60, rows_length, rd, hm4, hx0, hwm]
            refine ⟨(l1, m + 1, q1 + 1), [(900, 900), (600, 600)], ⟨by dsimp only; omega, by dsimp only; omega, by dsimp only; omega, by dsimp only; omega, j5⟩, by dsimp only; omega, Weak.of (by rfl) ?_ ?_ (by rfl)⟩
            · simp (config := { maxSteps := 4000000 }) only [go_sem, simprocAttr, ↓dnA, Tryz.f60, rows_length, rd, frW, wk2, wk1, wkL, wkB, hpW, List.mem_cons, Prod.mk.injEq, exists_eq_left, exists_eq_right, exists_eq]
              try rfl
            · simp (config := { maxSteps := 4000000 }) only [go_sem, simprocAttr, ↓dnA, Tryz.f60, rows_length, rd, frW, wk2, wk1, wkL, wkB, hpW, List.mem_cons, Prod.mk.injEq, exists_eq_left, exists_eq_right, exists_eq]
              try rfl
          | true =>
            have w1 : IntKind.i64.wrap ((k : Int) * 4) = (k : Int) * 4 := wrap_small _ (by omega) (by omega)
            have w2 : IntKind.i64.wrap ((k : Int) * 4 + (m : Int)) = (k : Int) * 4 + (m : Int) := wrap_small _ (by omega) (by omega)
            simp (config := { maxSteps := 4000000 }) only [go_sem, simprocAttr, ↓dnA, Tryz.f60, rows_length, rd, hm4, hx0, hwm, w1, w2, htk, hsn]
            repeat refine And.intro (by first | omega | (simp; done) | (simp; omega) | assumption) ?_
            refine ⟨(l1 ++ [(k : Int) * 4 + (m : Int)], m + 1, q1 + 1), [(900, 900), (27, 600)], ⟨by dsimp only; omega, by dsimp only; simp; omega, by dsimp only; omega, by dsimp only; omega, hmem _ (by omega)⟩, by dsimp only; omega, Weak.of (by rfl) ?_ ?_ (by rfl)⟩
            · simp (config := { maxSteps := 4000000 }) only [go_sem, simprocAttr, ↓dnA, Tryz.f60, rows_length, rd, List.length_append, List.length_singleton, frW, wk2, wk1, wkL, wkB, hpW, List.mem_cons, Prod.mk.injEq, exists_eq_left, exists_eq_right, exists_eq]
              try rfl
            · simp (config := { maxSteps := 4000000 }) only [go_sem, simprocAttr, ↓dnA, Tryz.f60, rows_length, rd, List.length_append, List.length_singleton, frW, wk2, wk1, wkL, wkB, hpW, List.mem_cons, Prod.mk.injEq, exists_eq_left, exists_eq_right, exists_eq]
              try rfl
        · obtain rfl : m = 4 := by omega
          have hm4 : (((4 : Nat) : Int) < 4) = False := by simp
          have w3 : IntKind.i64.wrap ((n : Int) * 4) = (n : Int) * 4 := wrap_small _ (by omega) (by omega)
          simp (config := { maxSteps := 4000000 }) only [go_sem, simprocAttr, ↓dnA, Tryz.f60, rows_length, rd, hm4]
          refine CallTo.of (c_spec_pick nb bs q1 5 hq1) ?_
          rintro r b ⟨x, rfl, rfl, hx⟩
          cases hx0 : (x == 0) with
          | false =>
            simp (config := { maxSteps := 4000000 }) only [go_sem, simprocAttr, ↓dnA, Tryz.f60, rows_length, rd, hm4, hx0, hwk]
            refine ⟨(l1, k + 1, q1 + 1), [(900, 900), (600, 600)], ⟨by dsimp only; omega, by dsimp only; omega, by dsimp only; omega, by dsimp only; omega, by dsimp only; omega, j5⟩, by dsimp only; omega, Weak.of (by rfl) ?_ ?_ (by rfl)⟩
            · simp (config := { maxSteps := 4000000 }) only [go_sem, simprocAttr, ↓dnA, Tryz.f60, rows_length, rd, frW, wk2, wk1, wkL, wkB, hpW, List.mem_cons, Prod.mk.injEq, exists_eq_left, exists_eq_right, exists_eq]
              try rfl
            · simp (config := { maxSteps := 4000000 }) only [go_sem, simprocAttr, ↓dnA, Tryz.f60, rows_length, rd, frW, wk2, wk1, wkL, wkB, hpW, List.mem_cons, Prod.mk.injEq, exists_eq_left, exists_eq_right, exists_eq]
              try rfl
          | true =>
            simp (config := { maxSteps := 4000000 }) only [go_sem, simprocAttr, ↓dnA, Tryz.f60, rows_length, rd, hm4, hx0, hwk, w3]
            refine CallTo.of (c_spec_pick nb bs (q1 + 1) ((n : Int) * 4) hr2) ?_
            rintro r b ⟨y, rfl, rfl, hy⟩
            simp (config := { maxSteps := 4000000 }) only [go_sem, simprocAttr, ↓dnA, Tryz.f60, rows_length, rd, hm4, hx0, hwk, w3, htk, hsn]
            repeat refine And.intro (by first | omega | (simp; done) | (simp; omega) | assumption) ?_
            refine ⟨(l1 ++ [y], k + 1, q1 + 1 + 1), [(900, 900), (37, 600)], ⟨by dsimp only; omega, by dsimp only; omega, by dsimp only; simp; omega, by dsimp only; omega, by dsimp only; omega, hmem _ (by omega)⟩, by dsimp only; omega, Weak.of (by rfl) ?_ ?_ (by rfl)⟩
            · simp (config := { maxSteps := 4000000 }) only [go_sem, simprocAttr, ↓dnA, Tryz.f60, rows_length, rd, List.length_append, List.length_singleton, frW, wk2, wk1, wkL, wkB, hpW, List.mem_cons, Prod.mk.injEq, exists_eq_left, exists_eq_right, exists_eq]
              try rfl
            · simp (config := { maxSteps := 4000000 }) only [go_sem, simprocAttr, ↓dnA, Tryz.f60, rows_length, rd, List.length_append, List.length_singleton, frW, wk2, wk1, wkL, wkB, hpW, List.mem_cons, Prod.mk.injEq, exists_eq_left, exists_eq_right, exists_eq]
              try rfl
    · obtain rfl : k = n := by omega
      simp (config := { maxSteps := 4000000 }) only [go_sem, simprocAttr, ↓dnA, Tryz.f60, rows_length, rd, nlf hk]
      exact .same ⟨l, q, rfl, rfl, by omega, by omega, by omega, i5⟩

def WorldR (nb : Option Bool) (bs : List Int) (p : Int) (r : AV) (b : List AV) : Prop := ∃ (w : Wld) (q : Int) (cs : List AV), r = .agg cs ∧ cs.map pureC = encW none none none none none w ∧ b = rd nb bs q ∧ p ≤ q ∧ q ≤ p + 2000 ∧ wsz w ≤ 300
def WorldQ (nb : Option Bool) (bs : List Int) (p : Int) (r : AV) (b : List AV) : Prop := ∃ (w : Wld) (q : Int), r = .agg (encW none none none none none w) ∧ b = rd nb bs q ∧ p ≤ q ∧ q ≤ p + 2000 ∧ wsz w ≤ 300

theorem worldOf_okay {t : Tree} (ht : TreeOk t) : worldValid (worldOf t) = true := by
  unfold worldOf
  rw [if_pos (treeValid_true ht)]
  unfold worldValid
  simp [treeValid_true ht, voterOk, voterValid, inB]

theorem c_spec_l20World0 (nb : Option Bool) (bs : List Int) (p n : Int) (h : RdOk bs p) (hp : p ≤ 999970000) (hn : 0 ≤ n ∧ n ≤ 1000000) : FSpec Tryz.prog 32 [.loc 0 0, .int .i64 n] true (rd nb bs p) (WorldR nb bs p) := by
  refine fspec_rel tab_ok Tryz.call32 Tryz.func32 rfl 62 Tryz.ntmps32 (of_decide_eq_true rfl) fun B => codeK_sound tab_ok _ _ _ ?_
  unfold rd
  simp (config := { maxSteps := 4000000 }) only [go_sem, simprocAttr, ↓dnA, Tryz.f32, rows_length, encT, encW, encWF]
  refine CallTo.of (c_spec_l20LineP nb bs p 0 h (by omega) (by omega)) ?_
  rintro r b ⟨t, q, rfl, rfl, hq1, hq2, hts, hl1, hl2, hT⟩
  have ht := hT rfl
  have hq := h.step (q := q) (by omega) (by omega)
  have hW := c_spec_WorldOf none none none t (tb_s32 ht)
  have hv := worldOf_okay ht
  generalize worldOf t = w at hW hv
  obtain ⟨ht1, hv4, _, hvl, _⟩ := worldValid_parts hv
  have hlen := ht1.len
  simp (config := { maxSteps := 4000000 }) only [go_sem, simprocAttr, ↓dnA, Tryz.f32, rows_length, encT, encW, encWF, rd]
  refine CallTo.det hW fun _ => ?_
  simp (config := { maxSteps := 4000000 }) only [go_sem, simprocAttr, ↓dnA, Tryz.f32, rows_length, encT, encW, encWF, rd]
  refine semL_draw tab_ok mixed_ rfl (ord := [(0, []), (1, []), (2, []), (3, []), (4, []), (5, [0]), (6, []), (7, []), (8, []), (9, []), (10, [9])]) (by dsimp only; decide +kernel) ?_
  simp (config := { maxSteps := 4000000 }) only [go_sem, simprocAttr, ↓dnA, Tryz.f32, rows_length, encT, encW, encWF, rd]
  refine CallTo.of (c_spec_l20Votes nb bs q w.votes.length hq (by omega) (by omega)) ?_
  rintro r b ⟨sc, q2, rfl, rfl, hq3, hq4, hsc, hsm⟩
  have hr2 := h.step (q := q2) (by omega) (by omega)
  have hok : ScOk sc := ⟨by omega, List.all_eq_true.2 fun x hx => inB_iff.2 (hsm x hx)⟩
  have hR := c_spec_WorldRun none none none none none (some true) w sc (worldOk_s32 hv).sz (by omega)
  rw [worldRun_yes hv hok] at hR
  have hx := runW_ok hv sc sc.length (Nat.le_refl _)
  rw [List.take_length] at hx
  generalize runW w sc = x at hR hx
  obtain ⟨x, xk⟩ := x
  obtain ⟨xv, _, _, _⟩ := hx
  dsimp only at hR xv
  have hwx := worldOk_wsz xv
  obtain ⟨xt, x4, _, xl, _⟩ := worldValid_parts xv
  have xlen := xt.len
  simp (config := { maxSteps := 4000000 }) only [go_sem, simprocAttr, ↓dnA, Tryz.f32, rows_length, encT, encW, encWF, rd]
  refine CallTo.det hR fun _ => ?_
  simp (config := { maxSteps := 4000000 }) only [go_sem, simprocAttr, ↓dnA, Tryz.f32, rows_length, encT, encW, encWF, rd]
  refine CallTo.of (c_spec_odd nb bs q2 n hr2 hn) ?_
  rintro r b ⟨gg, q3, rfl, rfl, hq5, hq6⟩
  have hr3 := h.step (q := q3) (by omega) (by omega)
  cases gg with
  | false =>
    simp (config := { maxSteps := 4000000 }) only [go_sem, simprocAttr, ↓dnA, Tryz.f32, rows_length, encT, encW, encWF, rd]
    exact .same ⟨x, q3, _, rfl, rfl, rfl, by omega, by omega, by omega⟩
  | true =>
    simp (config := { maxSteps := 4000000 }) only [go_sem, simprocAttr, ↓dnA, Tryz.f32, rows_length, encT, encW, encWF, rd]
    refine CallTo.of (c_spec_pick nb bs q3 4 hr3) ?_
    rintro r b ⟨z, rfl, rfl, hz⟩
    have hr4 := h.step (q := q3 + 1) (by omega) (by omega)
    have hz4 : z = 0 ∨ z = 1 ∨ z = 2 ∨ z = 3 := by omega
    rcases hz4 with rfl | rfl | rfl | rfl
    · simp (config := { maxSteps := 4000000 }) only [go_sem, simprocAttr, ↓dnA, Tryz.f32, rows_length, encT, encW, encWF, rd]
      refine semL_slots tab_ok 7 [6, 9] mixed_ rfl (by decide) (os := [([0, 1, 2, 3, 4, 5, 8, 7, 6, 9, 10, 11, 12, 13], [(0, []), (1, []), (2, []), (3, []), (4, []), (5, []), (8, []), (7, [0, 1, 2, 3, 4, 5, 8]), (6, [0, 1, 8]), (9, [0, 1]), (10, []), (11, []), (12, []), (13, [])]), ([0, 1, 2, 3, 4, 5, 7, 8, 6, 9, 10, 11, 12, 13], [(0, []), (1, []), (2, []), (3, []), (4, []), (5, []), (8, []), (6, [0, 1, 8]), (7, [0, 1, 8]), (9, [0, 1]), (10, []), (11, []), (12, []), (13, [])]), ([0, 1, 2, 3, 4, 5, 7, 9, 6, 8, 10, 11, 12, 13], [(0, []), (1, []), (2, []), (3, []), (4, []), (5, []), (8, []), (6, [0, 1, 8]), (9, [0, 1]), (7, [0, 1]), (10, []), (11, []), (12, []), (13, [])])]) (by dsimp only; decide +kernel) ?_
      refine ⟨?_, ?_, ?_, trivial⟩
      all_goals
        simp (config := { maxSteps := 4000000 }) only [go_sem, simprocAttr, ↓dnA, Tryz.f32, rows_length, encT, encW, encWF, rd]
        refine CallTo.of (c_spec_pick nb bs (q3 + 1) (x.votes.length : Int) hr4) ?_
        rintro r b ⟨m, rfl, rfl, hm⟩
        have hr5 := h.step (q := q3 + 1 + 1) (by omega) (by omega)
        obtain ⟨k, rfl⟩ : ∃ k : Nat, m = (k : Int) := ⟨m.toNat, by omega⟩
        have hk : k < x.votes.length := by omega
        have hrs : ∀ v : Int, (rows encI x.votes).set k [.int .i64 v] = rows encI (x.votes.set k v) := fun v => by rw [← rows_set]; rfl
        simp (config := { maxSteps := 4000000 }) only [go_sem, simprocAttr, ↓dnA, Tryz.f32, rows_length, encT, encW, encWF, rd]
        refine CallTo.of (c_spec_pick nb bs (q3 + 1 + 1) 3 hr5) ?_
        rintro r b ⟨y, rfl, rfl, hy⟩
        have hy3 : y = 0 ∨ y = 1 ∨ y = 2 := by omega
        rcases hy3 with rfl | rfl | rfl
        · simp (config := { maxSteps := 4000000 }) only [go_sem, simprocAttr, ↓dnA, Tryz.f32, rows_length, encT, encW, encWF, rd, tn0, tn1, tn2, nlt hk, hk, nn0, rows_get _ _ _ hk, encI, spliceL, List.length_set, hrs]
          exact .same ⟨⟨x.tree, x.voters, x.votes.set k (-1)⟩, q3 + 1 + 1 + 1, _, rfl, rfl, rfl, by omega, by omega, by unfold wsz at hwx ⊢; simp; omega⟩
        · simp (config := { maxSteps := 4000000 }) only [go_sem, simprocAttr, ↓dnA, Tryz.f32, rows_length, encT, encW, encWF, rd, tn0, tn1, tn2, nlt hk, hk, nn0, rows_get _ _ _ hk, encI, spliceL, List.length_set, hrs]
          exact .same ⟨⟨x.tree, x.voters, x.votes.set k (16)⟩, q3 + 1 + 1 + 1, _, rfl, rfl, rfl, by omega, by omega, by unfold wsz at hwx ⊢; simp; omega⟩
        · simp (config := { maxSteps := 4000000 }) only [go_sem, simprocAttr, ↓dnA, Tryz.f32, rows_length, encT, encW, encWF, rd, tn0, tn1, tn2, nlt hk, hk, nn0, rows_get _ _ _ hk, encI, spliceL, List.length_set, hrs]
          exact .same ⟨⟨x.tree, x.voters, x.votes.set k (7)⟩, q3 + 1 + 1 + 1, _, rfl, rfl, rfl, by omega, by omega, by unfold wsz at hwx ⊢; simp; omega⟩
    · have h0v : 0 < x.voters.length := by omega
      have htk : (rows encV x.voters).take x.voters.length = rows encV x.voters := by rw [List.take_of_length_le]; rw [rows_length]; omega
      simp (config := { maxSteps := 4000000 }) only [go_sem, simprocAttr, ↓dnA, Tryz.f32, rows_length, encT, encW, encWF, rd, htk]
      refine ⟨by omega, fun _ => by rw [rows_get _ _ _ h0v]; rfl, ?_⟩
      exact .same ⟨⟨x.tree, x.voters.drop 1, x.votes⟩, q3 + 1, _, rfl, by simp only [List.map_cons, List.map_nil, pureC, encW, rows_drop], rfl, by omega, by omega, by unfold wsz at hwx ⊢; simp; omega⟩
    · have htk : (rows encI x.votes).take x.votes.length = rows encI x.votes := by rw [List.take_of_length_le]; rw [rows_length]; omega
      have hsn : rows encI x.votes ++ [[.int .i64 0]] = rows encI (x.votes ++ [0]) := by rw [← rows_snoc]; rfl
      simp (config := { maxSteps := 4000000 }) only [go_sem, simprocAttr, ↓dnA, Tryz.f32, rows_length, encT, encW, encWF, rd, htk, hsn]
      repeat refine And.intro (by first | omega | (simp; done) | (simp; omega) | assumption) ?_
      exact .same ⟨⟨x.tree, x.voters, x.votes ++ [0]⟩, q3 + 1, _, rfl, rfl, rfl, by omega, by omega, by unfold wsz at hwx ⊢; simp; omega⟩
    · have h0v : 0 < x.voters.length := by omega
      have hrs : ∀ v : Int, (rows encV x.voters).set 0 [.int .i64 v, .int .i64 x.voters[0].lock] = rows encV (x.voters.set 0 ⟨v, x.voters[0].lock⟩) := fun v => by rw [← rows_set]; rfl
      simp (config := { maxSteps := 4000000 }) only [go_sem, simprocAttr, ↓dnA, Tryz.f32, rows_length, encT, encW, encWF, rd]
      refine semL_slots tab_ok 2 [4] mixed_ rfl (by decide) (os := [([0, 1, 3, 2, 4, 5, 6, 7, 8, 9], [(0, []), (1, []), (3, []), (2, [0, 1, 3]), (4, [0, 1]), (5, []), (6, []), (7, []), (8, []), (9, [])]), ([0, 1, 4, 2, 3, 5, 6, 7, 8, 9], [(0, []), (1, []), (3, []), (4, [0, 1]), (2, [0, 1]), (5, []), (6, []), (7, []), (8, []), (9, [])])]) (by dsimp only; decide +kernel) ?_
      refine ⟨?_, ?_, trivial⟩
      all_goals
        simp (config := { maxSteps := 4000000 }) only [go_sem, simprocAttr, ↓dnA, Tryz.f32, rows_length, encT, encW, encWF, rd]
        refine CallTo.of (c_spec_pick nb bs (q3 + 1) 2 hr4) ?_
        rintro r b ⟨y, rfl, rfl, hy⟩
        have hy2 : y = 0 ∨ y = 1 := by omega
        rcases hy2 with rfl | rfl
        · simp (config := { maxSteps := 4000000 }) only [go_sem, simprocAttr, ↓dnA, Tryz.f32, rows_length, encT, encW, encWF, rd, tn0, tn1, nlt h0v, h0v, nn0, nc0, rows_get _ _ _ h0v, encV, spliceL, List.length_set, hrs]
          refine ⟨by omega, ?_⟩
          exact .same ⟨⟨x.tree, x.voters.set 0 ⟨-1, x.voters[0].lock⟩, x.votes⟩, q3 + 1 + 1, _, rfl, rfl, rfl, by omega, by omega, by unfold wsz at hwx ⊢; simp; omega⟩
        · simp (config := { maxSteps := 4000000 }) only [go_sem, simprocAttr, ↓dnA, Tryz.f32, rows_length, encT, encW, encWF, rd, tn0, tn1, nlt h0v, h0v, nn0, nc0, rows_get _ _ _ h0v, encV, spliceL, List.length_set, hrs]
          refine ⟨by omega, ?_⟩
          exact .same ⟨⟨x.tree, x.voters.set 0 ⟨1000, x.voters[0].lock⟩, x.votes⟩, q3 + 1 + 1, _, rfl, rfl, rfl, by omega, by omega, by unfold wsz at hwx ⊢; simp; omega⟩

theorem c_spec_l20World (nb : Option Bool) (bs : List Int) (p n : Int) (h : RdOk bs p) (hp : p ≤ 999970000) (hn : 0 ≤ n ∧ n ≤ 1000000) : FSpec Tryz.prog 32 [.loc 0 0, .int .i64 n] true (rd nb bs p) (WorldQ nb bs p) := by
  refine (c_spec_l20World0 nb bs p n h hp hn).pureAgg ?_
  rintro r b ⟨w, q, cs, rfl, hc, rfl, h1, h2, h3⟩
  exact ⟨cs, rfl, w, q, by rw [hc], rfl, h1, h2, h3⟩

def DrawWQ (r : AV) (b : List AV) : Prop := ∃ w : Wld, r = .agg (encW none none none none none w) ∧ wsz w ≤ 300

end Go.Proofs.YtehbgjikmchaoaaGreat

/- Contracts: blocks that are committed at once. -/
set_option linter.unusedSimpArgs false
set_option linter.unusedVariables false
set_option maxRecDepth 20000
set_option maxHeartbeats 4000000
namespace Go.Proofs.YtehbgjikmchaoaaGreat
open Go Go.RowKit

/-- What is read of a tree at the block d, those before it. -/
theorem head_facts {t : Tree} (ht : TreeOk t) {d : Nat} (hd : d < t.blocks.length) (ce : List Bool) (hce : ce.length = t.blocks.length) :
    d < t.before.length ∧ (rows encI t.before).getD d [] = [.int .i64 (t.bef d)] ∧ (rows encB1 t.blocks).getD d [] = encB1 (t.blk d) ∧ (boolRows ce).getD d [] = [.bool (ce.getD d false)] ∧
      (0 ≤ (t.blk d).view ∧ (t.blk d).view ≤ 1000) ∧ (t.bef d < 0 ∨ ∃ c : Nat, t.bef d = (c : Int) ∧ c < t.blocks.length) := by
  have hb : d < t.before.length := by rw [ht.bef]; exact hd
  have hv := view_bd (ht.valid d hd)
  refine ⟨hb, by rw [rows_get _ _ d hb, t.bef_get d hb]; rfl, rows_gd _ _ d hd, boolRows_get ce d (by omega), hv, ?_⟩
  by_cases h : t.bef d < 0
  · exact .inl h
  · refine .inr ⟨(t.bef d).toNat, by omega, ?_⟩
    by_cases h0 : d = 0
    · subst h0; rw [ht.bef0] at h; omega
    · have := (ht.link d (by omega) hd).hi; omega

theorem headsTo_step (t : Tree) (ce : List Bool) (d : Nat) : headsTo t ce (d + 1) = headStep t ce (headsTo t ce d) d := rfl

/-- What a block does, in the words of its cells. -/
theorem headStep_no {t : Tree} {ce l : List Bool} {d : Nat} (h : t.bef d < 0) : headStep t ce l d = l := by
  unfold headStep; rw [if_pos h]
theorem headStep_no2 {t : Tree} {ce l : List Bool} {d c : Nat} (hc : t.bef d = (c : Int)) (h : t.bef c < 0) : headStep t ce l d = l := by
  unfold headStep; rw [hc, if_neg (by omega), Int.toNat_natCast, if_pos h]
theorem headStep_yes {t : Tree} {ce l : List Bool} {d c b : Nat} (hc : t.bef d = (c : Int)) (hb : t.bef c = (b : Int)) : headStep t ce l d = if threeB t ce b c d then l.set b true else l := by
  unfold headStep; rw [hc, if_neg (by omega), Int.toNat_natCast, hb, if_neg (by omega), Int.toNat_natCast]

theorem headsL_len (t : Tree) (ce : List Bool) : (headsL t ce).length ≤ t.blocks.length := fltF_len _ _ _
theorem v2 (b c d : Int) : ((c == b + 1) && (d == b + 2)) = ((b + 1 == c) && (c + 1 == d)) := by
  rw [Bool.eq_iff_iff]
  simp only [Bool.and_eq_true, beq_iff_eq]
  omega

theorem c_impl_heads (n1 n2 n3 n4 : Option Bool) (t : Tree) (ce : List Bool) (hx : TreeSz t) (ht : TreeOk t) (hce : ce.length = t.blocks.length) :
    Det Tryz.prog 23 [.agg (encT n1 n2 n3 t), .sl n4 (boolRows ce)] (.osl false 1 (rows encI (headsL t ce))) := by
  refine fspec_det tab_ok Tryz.call23 Tryz.func23 rfl 105 Tryz.ntmps23 (of_decide_eq_true rfl) fun B => codeK_sound tab_ok _ _ _ ?_
  have hlen := ht.len
  simp (config := { maxSteps := 4000000 }) only [go_sem, simprocAttr, ↓dnA, Tryz.f23, encT, rows_length, boolRows_length, List.length_set, List.length_replicate]
  repeat refine And.intro (by first | omega | (simp; done) | (simp; omega) | assumption) ?_
  refine semL_for tab_ok (fun i : Nat => ⟨105, [(1, .sl n4 (boolRows ce)), (2, .loc 2 0), (5, .row 600 t.blocks.length), (19, .int .i64 t.blocks.length), (20, .int .i64 i)],
      [(2, .var (encT n1 n2 n3 t)), (600, .row true true 1 (boolRows (headsTo t ce i)))]⟩) (fun i => t.blocks.length - i)
    (fun i => i ≤ t.blocks.length) 0 [(2, 2), (16, 600)] (Weak.of (by rfl) ?_ ?_ (by rfl)) (by omega) ?_
  · simp (config := { maxSteps := 4000000 }) only [go_sem, simprocAttr, ↓dnA, Tryz.f23, encT, rows_length, boolRows_length, List.length_set, List.length_replicate, frW, wk2, wk1, wkL, wkB, hpW, List.mem_cons, Prod.mk.injEq, exists_eq_left, exists_eq_right, exists_eq]
    exact boolRows_rep _ _
  · simp (config := { maxSteps := 4000000 }) only [go_sem, simprocAttr, ↓dnA, Tryz.f23, encT, rows_length, boolRows_length, List.length_set, List.length_replicate, frW, wk2, wk1, wkL, wkB, hpW, List.mem_cons, Prod.mk.injEq, exists_eq_left, exists_eq_right, exists_eq]
  · rintro i hi
    have hl := headsTo_len t ce i
    by_cases h : i < t.blocks.length
    · have hw : IntKind.i64.wrap ((i : Int) + 1) = ((i + 1 : Nat) : Int) := wsucc h (by omega)
      have hst := headsTo_step t ce i
      generalize headsTo t ce i = l at hl hst
      obtain ⟨f1, f2, f3, f4, f5, f6⟩ := head_facts ht h ce hce
      rcases f6 with hc | ⟨c, hc, hcl⟩
      · rw [headStep_no hc] at hst
        simp (config := { maxSteps := 4000000 }) only [go_sem, simprocAttr, ↓dnA, Tryz.f23, encT, rows_length, boolRows_length, List.length_set, List.length_replicate, nlt h, h, nn0, nlt f1, f1, f2, decide_eq_true hc, hw]
        refine ⟨i + 1, [(2, 2), (600, 600)], by omega, by dsimp only; omega, Weak.of (by rfl) ?_ ?_ (by rfl)⟩
        · simp (config := { maxSteps := 4000000 }) only [go_sem, simprocAttr, ↓dnA, Tryz.f23, encT, rows_length, boolRows_length, List.length_set, List.length_replicate, hst, frW, wk2, wk1, wkL, wkB, hpW, List.mem_cons, Prod.mk.injEq, exists_eq_left, exists_eq_right, exists_eq]
        · simp (config := { maxSteps := 4000000 }) only [go_sem, simprocAttr, ↓dnA, Tryz.f23, encT, rows_length, boolRows_length, List.length_set, List.length_replicate, frW, wk2, wk1, wkL, wkB, hpW, List.mem_cons, Prod.mk.injEq, exists_eq_left, exists_eq_right, exists_eq]
      · have dc : decide ((c : Int) < 0) = false := by simp
        obtain ⟨c1, c2, c3, c4, c5, c6⟩ := head_facts ht hcl ce hce
        rcases c6 with hb | ⟨b, hb, hbl⟩
        · rw [headStep_no2 hc hb] at hst
          simp (config := { maxSteps := 4000000 }) only [go_sem, simprocAttr, ↓dnA, Tryz.f23, encT, rows_length, boolRows_length, List.length_set, List.length_replicate, nlt h, h, nn0, nlt f1, f1, f2, hc, dc, nlt c1, c1, c2, decide_eq_true hb, hw]
          refine ⟨i + 1, [(2, 2), (600, 600)], by omega, by dsimp only; omega, Weak.of (by rfl) ?_ ?_ (by rfl)⟩
          · simp (config := { maxSteps := 4000000 }) only [go_sem, simprocAttr, ↓dnA, Tryz.f23, encT, rows_length, boolRows_length, List.length_set, List.length_replicate, hst, frW, wk2, wk1, wkL, wkB, hpW, List.mem_cons, Prod.mk.injEq, exists_eq_left, exists_eq_right, exists_eq]
          · simp (config := { maxSteps := 4000000 }) only [go_sem, simprocAttr, ↓dnA, Tryz.f23, encT, rows_length, boolRows_length, List.length_set, List.length_replicate, frW, wk2, wk1, wkL, wkB, hpW, List.mem_cons, Prod.mk.injEq, exists_eq_left, exists_eq_right, exists_eq]
        · have db : decide ((b : Int) < 0) = false := by simp
          obtain ⟨b1, b2, b3, b4, b5, b6⟩ := head_facts ht hbl ce hce
          have w1 : IntKind.i64.wrap ((t.blk b).view + 1) = (t.blk b).view + 1 := wrap_small _ (by omega) (by omega)
          have w2 : IntKind.i64.wrap ((t.blk b).view + 2) = (t.blk b).view + 2 := wrap_small _ (by omega) (by omega)
          rw [headStep_yes hc hb] at hst
          have h3 : threeB t ce b c i = (ce.getD b false && (ce.getD c false && (ce.getD i false && (((t.blk c).view == (t.blk b).view + 1) && ((t.blk i).view == (t.blk b).view + 2))))) := by
            unfold threeB; rw [v2]
          rw [h3] at hst
          have no : ∀ q : Bool, q = false → (if q then l.set b true else l) = l := fun q e => by rw [e, if_neg Bool.false_ne_true]
          have yes : ∀ q : Bool, q = true → (if q then l.set b true else l) = l.set b true := fun q e => by rw [e, if_pos rfl]
          cases e1 : ce.getD b false with
          | false =>
            rw [no _ (by rw [e1]; rfl)] at hst
            simp (config := { maxSteps := 4000000 }) only [go_sem, simprocAttr, ↓dnA, Tryz.f23, encT, rows_length, boolRows_length, List.length_set, List.length_replicate, nlt h, h, nn0, nlt f1, f1, f2, hc, dc, nlt c1, c1, c2, hb, db, nlt hcl, hcl, nlt hbl, hbl, f3, c3, b3, f4, c4, b4, hce, encB1, encBk, w1, w2, e1, hw]
            refine ⟨i + 1, [(2, 2), (600, 600)], by omega, by dsimp only; omega, Weak.of (by rfl) ?_ ?_ (by rfl)⟩
            · simp (config := { maxSteps := 4000000 }) only [go_sem, simprocAttr, ↓dnA, Tryz.f23, encT, rows_length, boolRows_length, List.length_set, List.length_replicate, hst, frW, wk2, wk1, wkL, wkB, hpW, List.mem_cons, Prod.mk.injEq, exists_eq_left, exists_eq_right, exists_eq]
            · simp (config := { maxSteps := 4000000 }) only [go_sem, simprocAttr, ↓dnA, Tryz.f23, encT, rows_length, boolRows_length, List.length_set, List.length_replicate, frW, wk2, wk1, wkL, wkB, hpW, List.mem_cons, Prod.mk.injEq, exists_eq_left, exists_eq_right, exists_eq]
          | true =>
          cases e2 : ce.getD c false with
          | false =>
            rw [no _ (by rw [e1, e2]; rfl)] at hst
            simp (config := { maxSteps := 4000000 }) only [go_sem, simprocAttr, ↓dnA, Tryz.f23, encT, rows_length, boolRows_length, List.length_set, List.length_replicate, nlt h, h, nn0, nlt f1, f1, f2, hc, dc, nlt c1, c1, c2, hb, db, nlt hcl, hcl, nlt hbl, hbl, f3, c3, b3, f4, c4, b4, hce, encB1, encBk, w1, w2, e1, e2, hw]
            refine ⟨i + 1, [(2, 2), (600, 600)], by omega, by dsimp only; omega, Weak.of (by rfl) ?_ ?_ (by rfl)⟩
            · simp (config := { maxSteps := 4000000 }) only [go_sem, simprocAttr, ↓dnA, Tryz.f23, encT, rows_length, boolRows_length, List.length_set, List.length_replicate, hst, frW, wk2, wk1, wkL, wkB, hpW, List.mem_cons, Prod.mk.injEq, exists_eq_left, exists_eq_right, exists_eq]
            · simp (config := { maxSteps := 4000000 }) only [go_sem, simprocAttr, ↓dnA, Tryz.f23, encT, rows_length, boolRows_length, List.length_set, List.length_replicate, frW, wk2, wk1, wkL, wkB, hpW, List.mem_cons, Prod.mk.injEq, exists_eq_left, exists_eq_right, exists_eq]
          | true =>
          cases e3 : ce.getD i false with
          | false =>
            rw [no _ (by rw [e1, e2, e3]; rfl)] at hst
            simp (config := { maxSteps := 4000000 }) only [go_sem, simprocAttr, ↓dnA, Tryz.f23, encT, rows_length, boolRows_length, List.length_set, List.length_replicate, nlt h, h, nn0, nlt f1, f1, f2, hc, dc, nlt c1, c1, c2, hb, db, nlt hcl, hcl, nlt hbl, hbl, f3, c3, b3, f4, c4, b4, hce, encB1, encBk, w1, w2, e1, e2, e3, hw]
            refine ⟨i + 1, [(2, 2), (600, 600)], by omega, by dsimp only; omega, Weak.of (by rfl) ?_ ?_ (by rfl)⟩
            · simp (config := { maxSteps := 4000000 }) only [go_sem, simprocAttr, ↓dnA, Tryz.f23, encT, rows_length, boolRows_length, List.length_set, List.length_replicate, hst, frW, wk2, wk1, wkL, wkB, hpW, List.mem_cons, Prod.mk.injEq, exists_eq_left, exists_eq_right, exists_eq]
            · simp (config := { maxSteps := 4000000 }) only [go_sem, simprocAttr, ↓dnA, Tryz.f23, encT, rows_length, boolRows_length, List.length_set, List.length_replicate, frW, wk2, wk1, wkL, wkB, hpW, List.mem_cons, Prod.mk.injEq, exists_eq_left, exists_eq_right, exists_eq]
          | true =>
          cases e4 : ((t.blk c).view == (t.blk b).view + 1) with
          | false =>
            rw [no _ (by rw [e1, e2, e3, e4]; rfl)] at hst
            simp (config := { maxSteps := 4000000 }) only [go_sem, simprocAttr, ↓dnA, Tryz.f23, encT, rows_length, boolRows_length, List.length_set, List.length_replicate, nlt h, h, nn0, nlt f1, f1, f2, hc, dc, nlt c1, c1, c2, hb, db, nlt hcl, hcl, nlt hbl, hbl, f3, c3, b3, f4, c4, b4, hce, encB1, encBk, w1, w2, e1, e2, e3, e4, hw]
            refine ⟨i + 1, [(2, 2), (600, 600)], by omega, by dsimp only; omega, Weak.of (by rfl) ?_ ?_ (by rfl)⟩
            · simp (config := { maxSteps := 4000000 }) only [go_sem, simprocAttr, ↓dnA, Tryz.f23, encT, rows_length, boolRows_length, List.length_set, List.length_replicate, hst, frW, wk2, wk1, wkL, wkB, hpW, List.mem_cons, Prod.mk.injEq, exists_eq_left, exists_eq_right, exists_eq]
            · simp (config := { maxSteps := 4000000 }) only [go_sem, simprocAttr, ↓dnA, Tryz.f23, encT, rows_length, boolRows_length, List.length_set, List.length_replicate, frW, wk2, wk1, wkL, wkB, hpW, List.mem_cons, Prod.mk.injEq, exists_eq_left, exists_eq_right, exists_eq]
          | true =>
          cases e5 : ((t.blk i).view == (t.blk b).view + 2) with
          | false =>
            rw [no _ (by rw [e1, e2, e3, e4, e5]; rfl)] at hst
            simp (config := { maxSteps := 4000000 }) only [go_sem, simprocAttr, ↓dnA, Tryz.f23, encT, rows_length, boolRows_length, List.length_set, List.length_replicate, nlt h, h, nn0, nlt f1, f1, f2, hc, dc, nlt c1, c1, c2, hb, db, nlt hcl, hcl, nlt hbl, hbl, f3, c3, b3, f4, c4, b4, hce, encB1, encBk, w1, w2, e1, e2, e3, e4, e5, hw]
            refine ⟨i + 1, [(2, 2), (600, 600)], by omega, by dsimp only; omega, Weak.of (by rfl) ?_ ?_ (by rfl)⟩
            · simp (config := { maxSteps := 4000000 }) only [go_sem, simprocAttr, ↓dnA, Tryz.f23, encT, rows_length, boolRows_length, List.length_set, List.length_replicate, hst, frW, wk2, wk1, wkL, wkB, hpW, List.mem_cons, Prod.mk.injEq, exists_eq_left, exists_eq_right, exists_eq]
            · simp (config := { maxSteps := 4000000 }) only [go_sem, simprocAttr, ↓dnA, Tryz.f23, encT, rows_length, boolRows_length, List.length_set, List.length_replicate, frW, wk2, wk1, wkL, wkB, hpW, List.mem_cons, Prod.mk.injEq, exists_eq_left, exists_eq_right, exists_eq]
          | true =>
            rw [yes _ (by rw [e1, e2, e3, e4, e5]; rfl)] at hst
            simp (config := { maxSteps := 4000000 }) only [go_sem, simprocAttr, ↓dnA, Tryz.f23, encT, rows_length, boolRows_length, List.length_set, List.length_replicate, nlt h, h, nn0, nlt f1, f1, f2, hc, dc, nlt c1, c1, c2, hb, db, nlt hcl, hcl, nlt hbl, hbl, f3, c3, b3, f4, c4, b4, hce, encB1, encBk, w1, w2, e1, e2, e3, e4, e5, hl, boolRows_get l b (by omega), spliceL, hw]
            refine ⟨i + 1, [(2, 2), (600, 600)], by omega, by dsimp only; omega, Weak.of (by rfl) ?_ ?_ (by rfl)⟩
            · simp (config := { maxSteps := 4000000 }) only [go_sem, simprocAttr, ↓dnA, Tryz.f23, encT, rows_length, boolRows_length, List.length_set, List.length_replicate, hst, ← boolRows_set, frW, wk2, wk1, wkL, wkB, hpW, List.mem_cons, Prod.mk.injEq, exists_eq_left, exists_eq_right, exists_eq]
            · simp (config := { maxSteps := 4000000 }) only [go_sem, simprocAttr, ↓dnA, Tryz.f23, encT, rows_length, boolRows_length, List.length_set, List.length_replicate, frW, wk2, wk1, wkL, wkB, hpW, List.mem_cons, Prod.mk.injEq, exists_eq_left, exists_eq_right, exists_eq]
    · have hi' : i = t.blocks.length := by omega
      subst hi'
      unfold headsL headsB
      generalize headsTo t ce t.blocks.length = l at hl
      rw [← hl]
      simp (config := { maxSteps := 4000000 }) only [go_sem, simprocAttr, ↓dnA, Tryz.f23, encT, rows_length, boolRows_length, List.length_set, List.length_replicate, nlf h, hl]
      refine semL_nilA 10 10 1 true (by rfl) (by rfl) (by decide) (by decide) ?_
      refine semL_for tab_ok (fun p : Nat × List Int => ⟨105, [(10, .row 10 p.2.length), (91, .row 600 l.length), (92, .int .i64 l.length), (93, .int .i64 p.1)], [(600, .row true true 1 (boolRows l)), (10, .row true false 1 (rows encI p.2))]⟩) (fun p => l.length - p.1)
        (fun p => p.1 ≤ l.length ∧ p.2.length ≤ p.1 ∧ p.2 ++ fltF (fun k => l.getD k false) (l.length - p.1) p.1 = fltF (fun k => l.getD k false) l.length 0) (0, []) [(600, 600), (10, 10)] (Weak.of (by rfl) ?_ ?_ (by rfl)) ⟨by omega, by simp, rfl⟩ ?_
      · simp (config := { maxSteps := 4000000 }) only [go_sem, simprocAttr, ↓dnA, Tryz.f23, encT, rows_length, boolRows_length, List.length_set, List.length_replicate, hl, frW, wk2, wk1, wkL, wkB, hpW, List.mem_cons, Prod.mk.injEq, exists_eq_left, exists_eq_right, exists_eq]
        try rfl
      · simp (config := { maxSteps := 4000000 }) only [go_sem, simprocAttr, ↓dnA, Tryz.f23, encT, rows_length, boolRows_length, List.length_set, List.length_replicate, hl, frW, wk2, wk1, wkL, wkB, hpW, List.mem_cons, Prod.mk.injEq, exists_eq_left, exists_eq_right, exists_eq]
      · rintro ⟨i, acc⟩ ⟨hi, hac, hp⟩
        dsimp only at hi hac hp
        have htk := take_rows encI acc acc.length rfl
        by_cases h : i < l.length
        · have hw : IntKind.i64.wrap ((i : Int) + 1) = ((i + 1 : Nat) : Int) := wsucc h (by omega)
          have hg := boolRows_get l i h
          rw [fltF_step _ _ _ h] at hp
          cases e : l.getD i false with
          | false =>
            rw [e, if_neg Bool.false_ne_true, List.nil_append] at hp
            simp (config := { maxSteps := 4000000 }) only [go_sem, simprocAttr, ↓dnA, Tryz.f23, encT, rows_length, boolRows_length, List.length_set, List.length_replicate, nlt h, h, nn0, hg, e, hw]
            refine ⟨(i + 1, acc), [(600, 600), (10, 10)], ⟨by dsimp only; omega, by dsimp only; omega, hp⟩, by dsimp only; omega, Weak.of (by rfl) ?_ ?_ (by rfl)⟩
            · simp (config := { maxSteps := 4000000 }) only [go_sem, simprocAttr, ↓dnA, Tryz.f23, encT, rows_length, boolRows_length, List.length_set, List.length_replicate, frW, wk2, wk1, wkL, wkB, hpW, List.mem_cons, Prod.mk.injEq, exists_eq_left, exists_eq_right, exists_eq]
            · simp (config := { maxSteps := 4000000 }) only [go_sem, simprocAttr, ↓dnA, Tryz.f23, encT, rows_length, boolRows_length, List.length_set, List.length_replicate, frW, wk2, wk1, wkL, wkB, hpW, List.mem_cons, Prod.mk.injEq, exists_eq_left, exists_eq_right, exists_eq]
          | true =>
            rw [e, if_pos rfl] at hp
            simp (config := { maxSteps := 4000000 }) only [go_sem, simprocAttr, ↓dnA, Tryz.f23, encT, rows_length, boolRows_length, List.length_set, List.length_replicate, nlt h, h, nn0, hg, e, htk, hw]
            repeat refine And.intro (by first | omega | (simp; done) | (simp; omega) | assumption) ?_
            refine ⟨(i + 1, acc ++ [(i : Int)]), [(600, 600), (102, 10)], ⟨by dsimp only; omega, by simp; omega, by rw [← hp]; simp⟩, by dsimp only; omega, Weak.of (by rfl) ?_ ?_ (by rfl)⟩
            · simp (config := { maxSteps := 4000000 }) only [go_sem, simprocAttr, ↓dnA, Tryz.f23, encT, rows_length, boolRows_length, List.length_set, List.length_replicate, frW, wk2, wk1, wkL, wkB, hpW, List.mem_cons, Prod.mk.injEq, exists_eq_left, exists_eq_right, exists_eq]
              exact (rows_snoc encI _ _).symm
            · simp (config := { maxSteps := 4000000 }) only [go_sem, simprocAttr, ↓dnA, Tryz.f23, encT, rows_length, boolRows_length, List.length_set, List.length_replicate, List.length_append, frW, wk2, wk1, wkL, wkB, hpW, List.mem_cons, Prod.mk.injEq, exists_eq_left, exists_eq_right, exists_eq]
        · have hi' : i = l.length := by omega
          subst hi'
          rw [Nat.sub_self, show fltF (fun k => l.getD k false) 0 l.length = [] from rfl, List.append_nil] at hp
          simp (config := { maxSteps := 4000000 }) only [go_sem, simprocAttr, ↓dnA, Tryz.f23, encT, rows_length, boolRows_length, List.length_set, List.length_replicate, nlf h, hp]

theorem c_spec_l16Commits (n1 n2 n3 n4 : Option Bool) (t : Tree) (ce : List Bool) (hx : TreeSz t) (ht : TreeOk t) (hce : ce.length = t.blocks.length) :
    Det Tryz.prog 45 [.agg (encT n1 n2 n3 t), .sl n4 (boolRows ce)] (.osl true 1 (boolRows (headsTo t ce t.blocks.length))) := by
  refine fspec_det tab_ok Tryz.call45 Tryz.func45 rfl 94 Tryz.ntmps45 (of_decide_eq_true rfl) fun B => codeK_sound tab_ok _ _ _ ?_
  have hlen := ht.len
  simp (config := { maxSteps := 4000000 }) only [go_sem, simprocAttr, ↓dnA, Tryz.f45, encT, rows_length, boolRows_length, List.length_set, List.length_replicate]
  repeat refine And.intro (by first | omega | (simp; done) | (simp; omega) | assumption) ?_
  refine semL_for tab_ok (fun i : Nat => ⟨94, [(1, .sl n4 (boolRows ce)), (2, .loc 2 0), (5, .row 600 t.blocks.length), (6, .int .i64 i)],
      [(2, .var (encT n1 n2 n3 t)), (600, .row true true 1 (boolRows (headsTo t ce i)))]⟩) (fun i => t.blocks.length - i)
    (fun i => i ≤ t.blocks.length) 0 [(2, 2), (13, 600)] (Weak.of (by rfl) ?_ ?_ (by rfl)) (by omega) ?_
  · simp (config := { maxSteps := 4000000 }) only [go_sem, simprocAttr, ↓dnA, Tryz.f45, encT, rows_length, boolRows_length, List.length_set, List.length_replicate, frW, wk2, wk1, wkL, wkB, hpW, List.mem_cons, Prod.mk.injEq, exists_eq_left, exists_eq_right, exists_eq]
    exact boolRows_rep _ _
  · simp (config := { maxSteps := 4000000 }) only [go_sem, simprocAttr, ↓dnA, Tryz.f45, encT, rows_length, boolRows_length, List.length_set, List.length_replicate, frW, wk2, wk1, wkL, wkB, hpW, List.mem_cons, Prod.mk.injEq, exists_eq_left, exists_eq_right, exists_eq]
  · rintro i hi
    have hl := headsTo_len t ce i
    by_cases h : i < t.blocks.length
    · have hw : IntKind.i64.wrap ((i : Int) + 1) = ((i + 1 : Nat) : Int) := wsucc h (by omega)
      have hst := headsTo_step t ce i
      generalize headsTo t ce i = l at hl hst
      obtain ⟨f1, f2, f3, f4, f5, f6⟩ := head_facts ht h ce hce
      rcases f6 with hc | ⟨c, hc, hcl⟩
      · rw [headStep_no hc] at hst
        simp (config := { maxSteps := 4000000 }) only [go_sem, simprocAttr, ↓dnA, Tryz.f45, encT, rows_length, boolRows_length, List.length_set, List.length_replicate, nlt h, h, nn0, nlt f1, f1, f2, decide_eq_true hc, hw]
        refine ⟨i + 1, [(2, 2), (600, 600)], by omega, by dsimp only; omega, Weak.of (by rfl) ?_ ?_ (by rfl)⟩
        · simp (config := { maxSteps := 4000000 }) only [go_sem, simprocAttr, ↓dnA, Tryz.f45, encT, rows_length, boolRows_length, List.length_set, List.length_replicate, hst, frW, wk2, wk1, wkL, wkB, hpW, List.mem_cons, Prod.mk.injEq, exists_eq_left, exists_eq_right, exists_eq]
        · simp (config := { maxSteps := 4000000 }) only [go_sem, simprocAttr, ↓dnA, Tryz.f45, encT, rows_length, boolRows_length, List.length_set, List.length_replicate, frW, wk2, wk1, wkL, wkB, hpW, List.mem_cons, Prod.mk.injEq, exists_eq_left, exists_eq_right, exists_eq]
      · have dc : decide ((c : Int) < 0) = false := by simp
        obtain ⟨c1, c2, c3, c4, c5, c6⟩ := head_facts ht hcl ce hce
        rcases c6 with hb | ⟨b, hb, hbl⟩
        · rw [headStep_no2 hc hb] at hst
          simp (config := { maxSteps := 4000000 }) only [go_sem, simprocAttr, ↓dnA, Tryz.f45, encT, rows_length, boolRows_length, List.length_set, List.length_replicate, nlt h, h, nn0, nlt f1, f1, f2, hc, dc, nlt c1, c1, c2, decide_eq_true hb, hw]
          refine ⟨i + 1, [(2, 2), (600, 600)], by omega, by dsimp only; omega, Weak.of (by rfl) ?_ ?_ (by rfl)⟩
          · simp (config := { maxSteps := 4000000 }) only [go_sem, simprocAttr, ↓dnA, Tryz.f45, encT, rows_length, boolRows_length, List.length_set, List.length_replicate, hst, frW, wk2, wk1, wkL, wkB, hpW, List.mem_cons, Prod.mk.injEq, exists_eq_left, exists_eq_right, exists_eq]
          · simp (config := { maxSteps := 4000000 }) only [go_sem, simprocAttr, ↓dnA, Tryz.f45, encT, rows_length, boolRows_length, List.length_set, List.length_replicate, frW, wk2, wk1, wkL, wkB, hpW, List.mem_cons, Prod.mk.injEq, exists_eq_left, exists_eq_right, exists_eq]
        · have db : decide ((b : Int) < 0) = false := by simp
          obtain ⟨b1, b2, b3, b4, b5, b6⟩ := head_facts ht hbl ce hce
          have w1 : IntKind.i64.wrap ((t.blk b).view + 1) = (t.blk b).view + 1 := wrap_small _ (by omega) (by omega)
          have w2 : IntKind.i64.wrap ((t.blk c).view + 1) = (t.blk c).view + 1 := wrap_small _ (by omega) (by omega)
          rw [headStep_yes hc hb] at hst
          have no : ∀ q : Bool, q = false → (if q then l.set b true else l) = l := fun q e => by rw [e, if_neg Bool.false_ne_true]
          have yes : ∀ q : Bool, q = true → (if q then l.set b true else l) = l.set b true := fun q e => by rw [e, if_pos rfl]
          obtain ⟨q1, hq1⟩ : ∃ q, ((t.blk b).view + 1 == (t.blk c).view) = q := ⟨_, rfl⟩
          obtain ⟨q2, hq2⟩ : ∃ q, ((t.blk c).view + 1 == (t.blk i).view) = q := ⟨_, rfl⟩
          obtain ⟨q3, hq3⟩ : ∃ q, ce.getD b false = q := ⟨_, rfl⟩
          obtain ⟨q4, hq4⟩ : ∃ q, ce.getD c false = q := ⟨_, rfl⟩
          obtain ⟨q5, hq5⟩ : ∃ q, ce.getD i false = q := ⟨_, rfl⟩
          have h3 : threeB t ce b c i = (q3 && (q4 && (q5 && (q1 && q2)))) := by unfold threeB; rw [hq1, hq2, hq3, hq4, hq5]
          rw [h3] at hst
          simp (config := { maxSteps := 4000000 }) only [go_sem, simprocAttr, ↓dnA, Tryz.f45, encT, rows_length, boolRows_length, List.length_set, List.length_replicate, nlt h, h, nn0, nlt f1, f1, f2, hc, dc, nlt c1, c1, c2, hb, db]
          refine semL_draw tab_ok mixed_ rfl (ord := [(0, []), (1, []), (2, []), (3, []), (4, []), (5, []), (6, []), (7, []), (8, []), (9, []), (10, []), (11, []), (12, []), (13, []), (14, []), (15, []), (16, []), (17, []), (18, []), (19, []), (20, []), (21, []), (22, []), (23, []), (24, []), (25, []), (26, []), (27, []), (28, []), (29, []), (30, [])]) (by dsimp only; decide +kernel) ?_
          cases q1 with
          | false =>
            rw [no _ (by cases q3 <;> cases q4 <;> cases q5 <;> rfl)] at hst
            simp (config := { maxSteps := 4000000 }) only [go_sem, simprocAttr, ↓dnA, Tryz.f45, encT, rows_length, boolRows_length, List.length_set, List.length_replicate, nlt h, h, nn0, nlt f1, f1, f2, hc, dc, nlt c1, c1, c2, hb, db, nlt hcl, hcl, nlt hbl, hbl, f3, c3, b3, encB1, encBk, w1, w2, hq1]
            cases q3 with
            | false =>
              simp (config := { maxSteps := 4000000 }) only [go_sem, simprocAttr, ↓dnA, Tryz.f45, encT, rows_length, boolRows_length, List.length_set, List.length_replicate, nlt h, h, nn0, nlt hcl, hcl, nlt hbl, hbl, f4, c4, b4, hce, hq3, hw]
              refine ⟨i + 1, [(2, 2), (600, 600)], by omega, by dsimp only; omega, Weak.of (by rfl) ?_ ?_ (by rfl)⟩
              · simp (config := { maxSteps := 4000000 }) only [go_sem, simprocAttr, ↓dnA, Tryz.f45, encT, rows_length, boolRows_length, List.length_set, List.length_replicate, hst, frW, wk2, wk1, wkL, wkB, hpW, List.mem_cons, Prod.mk.injEq, exists_eq_left, exists_eq_right, exists_eq]
              · simp (config := { maxSteps := 4000000 }) only [go_sem, simprocAttr, ↓dnA, Tryz.f45, encT, rows_length, boolRows_length, List.length_set, List.length_replicate, frW, wk2, wk1, wkL, wkB, hpW, List.mem_cons, Prod.mk.injEq, exists_eq_left, exists_eq_right, exists_eq]
            | true =>
              cases q4 with
              | false =>
                simp (config := { maxSteps := 4000000 }) only [go_sem, simprocAttr, ↓dnA, Tryz.f45, encT, rows_length, boolRows_length, List.length_set, List.length_replicate, nlt h, h, nn0, nlt hcl, hcl, nlt hbl, hbl, f4, c4, b4, hce, hq3, hq4, hw]
                refine ⟨i + 1, [(2, 2), (600, 600)], by omega, by dsimp only; omega, Weak.of (by rfl) ?_ ?_ (by rfl)⟩
                · simp (config := { maxSteps := 4000000 }) only [go_sem, simprocAttr, ↓dnA, Tryz.f45, encT, rows_length, boolRows_length, List.length_set, List.length_replicate, hst, frW, wk2, wk1, wkL, wkB, hpW, List.mem_cons, Prod.mk.injEq, exists_eq_left, exists_eq_right, exists_eq]
                · simp (config := { maxSteps := 4000000 }) only [go_sem, simprocAttr, ↓dnA, Tryz.f45, encT, rows_length, boolRows_length, List.length_set, List.length_replicate, frW, wk2, wk1, wkL, wkB, hpW, List.mem_cons, Prod.mk.injEq, exists_eq_left, exists_eq_right, exists_eq]
              | true =>
                cases q5 with
                | false =>
                  simp (config := { maxSteps := 4000000 }) only [go_sem, simprocAttr, ↓dnA, Tryz.f45, encT, rows_length, boolRows_length, List.length_set, List.length_replicate, nlt h, h, nn0, nlt hcl, hcl, nlt hbl, hbl, f4, c4, b4, hce, hq3, hq4, hq5, hw]
                  refine ⟨i + 1, [(2, 2), (600, 600)], by omega, by dsimp only; omega, Weak.of (by rfl) ?_ ?_ (by rfl)⟩
                  · simp (config := { maxSteps := 4000000 }) only [go_sem, simprocAttr, ↓dnA, Tryz.f45, encT, rows_length, boolRows_length, List.length_set, List.length_replicate, hst, frW, wk2, wk1, wkL, wkB, hpW, List.mem_cons, Prod.mk.injEq, exists_eq_left, exists_eq_right, exists_eq]
                  · simp (config := { maxSteps := 4000000 }) only [go_sem, simprocAttr, ↓dnA, Tryz.f45, encT, rows_length, boolRows_length, List.length_set, List.length_replicate, frW, wk2, wk1, wkL, wkB, hpW, List.mem_cons, Prod.mk.injEq, exists_eq_left, exists_eq_right, exists_eq]
                | true =>
                  simp (config := { maxSteps := 4000000 }) only [go_sem, simprocAttr, ↓dnA, Tryz.f45, encT, rows_length, boolRows_length, List.length_set, List.length_replicate, nlt h, h, nn0, nlt hcl, hcl, nlt hbl, hbl, f4, c4, b4, hce, hq3, hq4, hq5, hw]
                  refine ⟨i + 1, [(2, 2), (600, 600)], by omega, by dsimp only; omega, Weak.of (by rfl) ?_ ?_ (by rfl)⟩
                  · simp (config := { maxSteps := 4000000 }) only [go_sem, simprocAttr, ↓dnA, Tryz.f45, encT, rows_length, boolRows_length, List.length_set, List.length_replicate, hst, frW, wk2, wk1, wkL, wkB, hpW, List.mem_cons, Prod.mk.injEq, exists_eq_left, exists_eq_right, exists_eq]
                  · simp (config := { maxSteps := 4000000 }) only [go_sem, simprocAttr, ↓dnA, Tryz.f45, encT, rows_length, boolRows_length, List.length_set, List.length_replicate, frW, wk2, wk1, wkL, wkB, hpW, List.mem_cons, Prod.mk.injEq, exists_eq_left, exists_eq_right, exists_eq]
          | true =>
            simp (config := { maxSteps := 4000000 }) only [go_sem, simprocAttr, ↓dnA, Tryz.f45, encT, rows_length, boolRows_length, List.length_set, List.length_replicate, nlt h, h, nn0, nlt f1, f1, f2, hc, dc, nlt c1, c1, c2, hb, db, nlt hcl, hcl, nlt hbl, hbl, f3, c3, b3, encB1, encBk, w1, w2, hq1, hq2]
            cases q3 with
            | false =>
              simp only [Bool.false_and, Bool.true_and, Bool.and_false, Bool.and_true, Bool.false_eq_true, if_false] at hst
              simp (config := { maxSteps := 4000000 }) only [go_sem, simprocAttr, ↓dnA, Tryz.f45, encT, rows_length, boolRows_length, List.length_set, List.length_replicate, nlt h, h, nn0, nlt hcl, hcl, nlt hbl, hbl, f4, c4, b4, hce, hq3, hw]
              refine ⟨i + 1, [(2, 2), (600, 600)], by omega, by dsimp only; omega, Weak.of (by rfl) ?_ ?_ (by rfl)⟩
              · simp (config := { maxSteps := 4000000 }) only [go_sem, simprocAttr, ↓dnA, Tryz.f45, encT, rows_length, boolRows_length, List.length_set, List.length_replicate, hst, frW, wk2, wk1, wkL, wkB, hpW, List.mem_cons, Prod.mk.injEq, exists_eq_left, exists_eq_right, exists_eq]
              · simp (config := { maxSteps := 4000000 }) only [go_sem, simprocAttr, ↓dnA, Tryz.f45, encT, rows_length, boolRows_length, List.length_set, List.length_replicate, frW, wk2, wk1, wkL, wkB, hpW, List.mem_cons, Prod.mk.injEq, exists_eq_left, exists_eq_right, exists_eq]
            | true =>
              cases q4 with
              | false =>
                simp only [Bool.false_and, Bool.true_and, Bool.and_false, Bool.and_true, Bool.false_eq_true, if_false] at hst
                simp (config := { maxSteps := 4000000 }) only [go_sem, simprocAttr, ↓dnA, Tryz.f45, encT, rows_length, boolRows_length, List.length_set, List.length_replicate, nlt h, h, nn0, nlt hcl, hcl, nlt hbl, hbl, f4, c4, b4, hce, hq3, hq4, hw]
                refine ⟨i + 1, [(2, 2), (600, 600)], by omega, by dsimp only; omega, Weak.of (by rfl) ?_ ?_ (by rfl)⟩
                · simp (config := { maxSteps := 4000000 }) only [go_sem, simprocAttr, ↓dnA, Tryz.f45, encT, rows_length, boolRows_length, List.length_set, List.length_replicate, hst, frW, wk2, wk1, wkL, wkB, hpW, List.mem_cons, Prod.mk.injEq, exists_eq_left, exists_eq_right, exists_eq]
                · simp (config := { maxSteps := 4000000 }) only [go_sem, simprocAttr, ↓dnA, Tryz.f45, encT, rows_length, boolRows_length, List.length_set, List.length_replicate, frW, wk2, wk1, wkL, wkB, hpW, List.mem_cons, Prod.mk.injEq, exists_eq_left, exists_eq_right, exists_eq]
              | true =>
                cases q5 with
                | false =>
                  simp only [Bool.false_and, Bool.true_and, Bool.and_false, Bool.and_true, Bool.false_eq_true, if_false] at hst
                  simp (config := { maxSteps := 4000000 }) only [go_sem, simprocAttr, ↓dnA, Tryz.f45, encT, rows_length, boolRows_length, List.length_set, List.length_replicate, nlt h, h, nn0, nlt hcl, hcl, nlt hbl, hbl, f4, c4, b4, hce, hq3, hq4, hq5, hw]
                  refine ⟨i + 1, [(2, 2), (600, 600)], by omega, by dsimp only; omega, Weak.of (by rfl) ?_ ?_ (by rfl)⟩
                  · simp (config := { maxSteps := 4000000 }) only [go_sem, simprocAttr, ↓dnA, Tryz.f45, encT, rows_length, boolRows_length, List.length_set, List.length_replicate, hst, frW, wk2, wk1, wkL, wkB, hpW, List.mem_cons, Prod.mk.injEq, exists_eq_left, exists_eq_right, exists_eq]
                  · simp (config := { maxSteps := 4000000 }) only [go_sem, simprocAttr, ↓dnA, Tryz.f45, encT, rows_length, boolRows_length, List.length_set, List.length_replicate, frW, wk2, wk1, wkL, wkB, hpW, List.mem_cons, Prod.mk.injEq, exists_eq_left, exists_eq_right, exists_eq]
                | true =>
                  cases q2 with
                  | false =>
                    simp only [Bool.false_and, Bool.true_and, Bool.and_false, Bool.and_true, Bool.false_eq_true, if_false] at hst
                    simp (config := { maxSteps := 4000000 }) only [go_sem, simprocAttr, ↓dnA, Tryz.f45, encT, rows_length, boolRows_length, List.length_set, List.length_replicate, nlt h, h, nn0, nlt hcl, hcl, nlt hbl, hbl, f4, c4, b4, hce, hq3, hq4, hq5, hw]
                    refine ⟨i + 1, [(2, 2), (600, 600)], by omega, by dsimp only; omega, Weak.of (by rfl) ?_ ?_ (by rfl)⟩
                    · simp (config := { maxSteps := 4000000 }) only [go_sem, simprocAttr, ↓dnA, Tryz.f45, encT, rows_length, boolRows_length, List.length_set, List.length_replicate, hst, frW, wk2, wk1, wkL, wkB, hpW, List.mem_cons, Prod.mk.injEq, exists_eq_left, exists_eq_right, exists_eq]
                    · simp (config := { maxSteps := 4000000 }) only [go_sem, simprocAttr, ↓dnA, Tryz.f45, encT, rows_length, boolRows_length, List.length_set, List.length_replicate, frW, wk2, wk1, wkL, wkB, hpW, List.mem_cons, Prod.mk.injEq, exists_eq_left, exists_eq_right, exists_eq]
                  | true =>
                    simp only [Bool.and_self, Bool.true_and, if_true] at hst
                    simp (config := { maxSteps := 4000000 }) only [go_sem, simprocAttr, ↓dnA, Tryz.f45, encT, rows_length, boolRows_length, List.length_set, List.length_replicate, nlt h, h, nn0, nlt hcl, hcl, nlt hbl, hbl, f4, c4, b4, hce, hq3, hq4, hq5, hl, boolRows_get l b (by omega), spliceL, hw]
                    refine ⟨i + 1, [(2, 2), (600, 600)], by omega, by dsimp only; omega, Weak.of (by rfl) ?_ ?_ (by rfl)⟩
                    · simp (config := { maxSteps := 4000000 }) only [go_sem, simprocAttr, ↓dnA, Tryz.f45, encT, rows_length, boolRows_length, List.length_set, List.length_replicate, hst, ← boolRows_set, frW, wk2, wk1, wkL, wkB, hpW, List.mem_cons, Prod.mk.injEq, exists_eq_left, exists_eq_right, exists_eq]
                    · simp (config := { maxSteps := 4000000 }) only [go_sem, simprocAttr, ↓dnA, Tryz.f45, encT, rows_length, boolRows_length, List.length_set, List.length_replicate, frW, wk2, wk1, wkL, wkB, hpW, List.mem_cons, Prod.mk.injEq, exists_eq_left, exists_eq_right, exists_eq]
    · have hi' : i = t.blocks.length := by omega
      subst hi'
      simp (config := { maxSteps := 4000000 }) only [go_sem, simprocAttr, ↓dnA, Tryz.f45, encT, rows_length, boolRows_length, List.length_set, List.length_replicate, nlf h, hl]

end Go.Proofs.YtehbgjikmchaoaaGreat

/- Contracts: the blocks that are committed at once, as a list. -/
set_option linter.unusedSimpArgs false
set_option linter.unusedVariables false
set_option maxRecDepth 20000
set_option maxHeartbeats 4000000
namespace Go.Proofs.YtehbgjikmchaoaaGreat
open Go Go.RowKit

theorem c_impl_CommitHeads (n1 n2 n3 n4 : Option Bool) (t : Tree) (cs : List Cert) (hx : TreeSz t) :
    Det Tryz.prog 10 [.agg (encT n1 n2 n3 t), .sl n4 (rows encC cs)] (.osl false 1 (rows encI (commitHeads t cs))) := by
  refine fspec_det tab_ok Tryz.call10 Tryz.func10 rfl 14 Tryz.ntmps10 (of_decide_eq_true rfl) fun B => codeK_sound tab_ok _ _ _ ?_
  unfold commitHeads
  simp (config := { maxSteps := 4000000 }) only [go_sem, simprocAttr, ↓dnA, Tryz.f10, encT, rows_length, boolRows_length, List.length_set, List.length_replicate]
  by_cases h : treeValid t = true ∧ cs.length ≤ 30
  · obtain ⟨e1, e2⟩ := certified_ne h.1 h.2
    have hl := certL_len t cs
    refine CallTo.det (c_impl_CertifiedBlocks_T n1 n2 n3 n4 t cs hx h.1 h.2) fun _ => ?_
    rw [if_neg e2, e1]
    generalize certL t cs = ce at hl
    simp (config := { maxSteps := 4000000 }) only [go_sem, simprocAttr, ↓dnA, Tryz.f10, encT, rows_length, boolRows_length, List.length_set, List.length_replicate]
    refine CallTo.det (c_impl_heads n1 n2 n3 _ t ce hx (treeOk_of h.1) hl) fun _ => ?_
    simp (config := { maxSteps := 4000000 }) only [go_sem, simprocAttr, ↓dnA, Tryz.f10, encT, rows_length, boolRows_length, List.length_set, List.length_replicate]
  · have e := certified_no h
    refine CallTo.det (c_impl_CertifiedBlocks_no n1 n2 n3 n4 t cs hx h) fun _ => ?_
    rw [if_pos e]
    simp (config := { maxSteps := 4000000 }) only [go_sem, simprocAttr, ↓dnA, Tryz.f10, encT, rows_length, boolRows_length, List.length_set, List.length_replicate, rows_nil]

theorem c_spec_CommitHeads (n1 n2 n3 n4 : Option Bool) (t : Tree) (cs : List Cert) (hx : TreeSz t) :
    Det Tryz.prog 25 [.agg (encT n1 n2 n3 t), .sl n4 (rows encC cs)] (.osl true 1 (rows encI (commitHeads t cs))) := by
  refine fspec_det tab_ok Tryz.call25 Tryz.func25 rfl 35 Tryz.ntmps25 (of_decide_eq_true rfl) fun B => codeK_sound tab_ok _ _ _ ?_
  unfold commitHeads
  simp (config := { maxSteps := 4000000 }) only [go_sem, simprocAttr, ↓dnA, Tryz.f25, encT, rows_length, boolRows_length, List.length_set, List.length_replicate]
  refine CallTo.det (c_spec_CertifiedBlocks n1 n2 n3 n4 t cs hx) fun _ => ?_
  by_cases h : treeValid t = true ∧ cs.length ≤ 30
  · obtain ⟨e1, e2⟩ := certified_ne h.1 h.2
    have hl := certL_len t cs
    have ht := treeOk_of h.1
    have hlen := ht.len
    rw [if_neg e2, e1]
    generalize certL t cs = ce at hl
    have hz : ((ce.length : Int) == 0) = false := by simp; intro e; rw [e] at hl; simp at hl; omega
    simp (config := { maxSteps := 4000000 }) only [go_sem, simprocAttr, ↓dnA, Tryz.f25, encT, rows_length, boolRows_length, List.length_set, List.length_replicate, hz]
    refine CallTo.det (c_spec_l16Commits n1 n2 n3 _ t ce hx ht hl) fun _ => ?_
    have hl2 := headsTo_len t ce t.blocks.length
    unfold headsL headsB
    generalize headsTo t ce t.blocks.length = l at hl2
    rw [← hl2]
    simp (config := { maxSteps := 4000000 }) only [go_sem, simprocAttr, ↓dnA, Tryz.f25, encT, rows_length, boolRows_length, List.length_set, List.length_replicate, hz]
    refine semL_for tab_ok (fun p : Nat × List Int => ⟨35, [(5, .row 601 p.2.length), (7, .row 600 l.length), (8, .int .i64 p.1)], [(600, .row true true 1 (boolRows l)), (601, .row true true 1 (rows encI p.2))]⟩) (fun p => l.length - p.1)
      (fun p => p.1 ≤ l.length ∧ p.2.length ≤ p.1 ∧ p.2 ++ fltF (fun k => l.getD k false) (l.length - p.1) p.1 = fltF (fun k => l.getD k false) l.length 0) (0, []) [(20000, 600), (9, 601)] (Weak.of (by rfl) ?_ ?_ (by rfl)) ⟨by omega, by simp, rfl⟩ ?_
    · simp (config := { maxSteps := 4000000 }) only [go_sem, simprocAttr, ↓dnA, Tryz.f25, encT, rows_length, boolRows_length, List.length_set, List.length_replicate, frW, wk2, wk1, wkL, wkB, hpW, List.mem_cons, Prod.mk.injEq, exists_eq_left, exists_eq_right, exists_eq]
      try rfl
    · simp (config := { maxSteps := 4000000 }) only [go_sem, simprocAttr, ↓dnA, Tryz.f25, encT, rows_length, boolRows_length, List.length_set, List.length_replicate, frW, wk2, wk1, wkL, wkB, hpW, List.mem_cons, Prod.mk.injEq, exists_eq_left, exists_eq_right, exists_eq]
    · rintro ⟨i, acc⟩ ⟨hi, hac, hp⟩
      dsimp only at hi hac hp
      have htk := take_rows encI acc acc.length rfl
      by_cases h : i < l.length
      · have hw : IntKind.i64.wrap ((i : Int) + 1) = ((i + 1 : Nat) : Int) := wsucc h (by omega)
        have hg := boolRows_get l i h
        rw [fltF_step _ _ _ h] at hp
        cases e : l.getD i false with
        | false =>
          rw [e, if_neg Bool.false_ne_true, List.nil_append] at hp
          simp (config := { maxSteps := 4000000 }) only [go_sem, simprocAttr, ↓dnA, Tryz.f25, encT, rows_length, boolRows_length, List.length_set, List.length_replicate, nlt h, h, nn0, hg, e, hw]
          refine ⟨(i + 1, acc), [(600, 600), (601, 601)], ⟨by dsimp only; omega, by dsimp only; omega, hp⟩, by dsimp only; omega, Weak.of (by rfl) ?_ ?_ (by rfl)⟩
          · simp (config := { maxSteps := 4000000 }) only [go_sem, simprocAttr, ↓dnA, Tryz.f25, encT, rows_length, boolRows_length, List.length_set, List.length_replicate, frW, wk2, wk1, wkL, wkB, hpW, List.mem_cons, Prod.mk.injEq, exists_eq_left, exists_eq_right, exists_eq]
          · simp (config := { maxSteps := 4000000 }) only [go_sem, simprocAttr, ↓dnA, Tryz.f25, encT, rows_length, boolRows_length, List.length_set, List.length_replicate, frW, wk2, wk1, wkL, wkB, hpW, List.mem_cons, Prod.mk.injEq, exists_eq_left, exists_eq_right, exists_eq]
        | true =>
          rw [e, if_pos rfl] at hp
          simp (config := { maxSteps := 4000000 }) only [go_sem, simprocAttr, ↓dnA, Tryz.f25, encT, rows_length, boolRows_length, List.length_set, List.length_replicate, nlt h, h, nn0, hg, e, htk, hw]
          repeat refine And.intro (by first | omega | (simp; done) | (simp; omega) | assumption) ?_
          refine ⟨(i + 1, acc ++ [(i : Int)]), [(600, 600), (33, 601)], ⟨by dsimp only; omega, by simp; omega, by rw [← hp]; simp⟩, by dsimp only; omega, Weak.of (by rfl) ?_ ?_ (by rfl)⟩
          · simp (config := { maxSteps := 4000000 }) only [go_sem, simprocAttr, ↓dnA, Tryz.f25, encT, rows_length, boolRows_length, List.length_set, List.length_replicate, frW, wk2, wk1, wkL, wkB, hpW, List.mem_cons, Prod.mk.injEq, exists_eq_left, exists_eq_right, exists_eq]
            exact (rows_snoc encI _ _).symm
          · simp (config := { maxSteps := 4000000 }) only [go_sem, simprocAttr, ↓dnA, Tryz.f25, encT, rows_length, boolRows_length, List.length_set, List.length_replicate, List.length_append, frW, wk2, wk1, wkL, wkB, hpW, List.mem_cons, Prod.mk.injEq, exists_eq_left, exists_eq_right, exists_eq]
      · have hi' : i = l.length := by omega
        subst hi'
        rw [Nat.sub_self, show fltF (fun k => l.getD k false) 0 l.length = [] from rfl, List.append_nil] at hp
        simp (config := { maxSteps := 4000000 }) only [go_sem, simprocAttr, ↓dnA, Tryz.f25, encT, rows_length, boolRows_length, List.length_set, List.length_replicate, nlf h, hp]
  · have e := certified_no h
    rw [if_pos e, e]
    simp (config := { maxSteps := 4000000 }) only [go_sem, simprocAttr, ↓dnA, Tryz.f25, encT, rows_length, boolRows_length, List.length_set, List.length_replicate, rows_nil, boolRows, List.map_nil, List.length_nil]

end Go.Proofs.YtehbgjikmchaoaaGreat

/- Contracts: up to where everything is committed; whether commits agree. -/
set_option linter.unusedSimpArgs false
set_option linter.unusedVariables false
set_option maxRecDepth 20000
set_option maxHeartbeats 4000000
namespace Go.Proofs.YtehbgjikmchaoaaGreat
open Go Go.RowKit

theorem isBefore_range {t : Tree} {a b : Int} (h : isBefore t a b = true) : treeValid t = true ∧ (0 ≤ a ∧ a < t.blocks.length) ∧ 0 ≤ b ∧ b < t.blocks.length := by
  unfold isBefore at h
  rw [List.any_eq_true] at h
  obtain ⟨x, hx, he⟩ := h
  rw [beq_iff_eq] at he
  subst he
  unfold pathTo at hx
  split at hx
  · rename_i h1
    obtain ⟨h1, h2, h3⟩ := h1
    have := pathL_bd (treeOk_of h1) h3 _ hx
    exact ⟨h1, by omega, h2, h3⟩
  · cases hx
theorem isBefore_no {t : Tree} {a b : Int} (h : ¬ (treeValid t = true ∧ (0 ≤ a ∧ a < t.blocks.length) ∧ 0 ≤ b ∧ b < t.blocks.length)) : isBefore t a b = false := by
  cases e : isBefore t a b with
  | false => rfl
  | true => exact absurd (isBefore_range e) h

theorem c_impl_IsBefore (n1 n2 n3 : Option Bool) (t : Tree) (a b : Int) (hx : TreeSz t) :
    Det Tryz.prog 15 [.agg (encT n1 n2 n3 t), .int .i64 a, .int .i64 b] (.bool (isBefore t a b)) := by
  refine fspec_det tab_ok Tryz.call15 Tryz.func15 rfl 26 Tryz.ntmps15 (of_decide_eq_true rfl) fun B => codeK_sound tab_ok _ _ _ ?_
  have hb := hx.blocks
  simp (config := { maxSteps := 4000000 }) only [go_sem, simprocAttr, ↓dnA, Tryz.f15, encT, rows_length, boolRows_length]
  refine CallTo.det (c_impl_BlockTreeValid n1 n2 n3 t hx) fun _ => ?_
  cases h0 : treeValid t with
  | false =>
    have hr : isBefore t a b = false := isBefore_no fun e => by rw [h0] at e; cases e.1
    simp (config := { maxSteps := 4000000 }) only [go_sem, simprocAttr, ↓dnA, Tryz.f15, encT, rows_length, boolRows_length, h0, hr]
  | true =>
    have ht := treeOk_of h0
    simp (config := { maxSteps := 4000000 }) only [go_sem, simprocAttr, ↓dnA, Tryz.f15, encT, rows_length, boolRows_length, h0]
    refine CallTo.det (c_impl_has n1 n2 n3 t a hx) fun _ => ?_
    cases h1 : inB a 0 ((t.blocks.length : Int) - 1) with
    | false =>
      have hr : isBefore t a b = false := isBefore_no fun e => by
        have : inB a 0 ((t.blocks.length : Int) - 1) = true := inB_iff.2 (by omega)
        rw [h1] at this; cases this
      simp (config := { maxSteps := 4000000 }) only [go_sem, simprocAttr, ↓dnA, Tryz.f15, encT, rows_length, boolRows_length, h0, h1, hr]
    | true =>
      simp (config := { maxSteps := 4000000 }) only [go_sem, simprocAttr, ↓dnA, Tryz.f15, encT, rows_length, boolRows_length, h0, h1]
      refine CallTo.det (c_impl_has n1 n2 n3 t b hx) fun _ => ?_
      cases h2 : inB b 0 ((t.blocks.length : Int) - 1) with
      | false =>
        have hr : isBefore t a b = false := isBefore_no fun e => by
          have : inB b 0 ((t.blocks.length : Int) - 1) = true := inB_iff.2 (by omega)
          rw [h2] at this; cases this
        simp (config := { maxSteps := 4000000 }) only [go_sem, simprocAttr, ↓dnA, Tryz.f15, encT, rows_length, boolRows_length, h0, h1, h2, hr]
      | true =>
        have h2' := inB_iff.1 h2
        have hr : isBefore t a b = (pathL t b).any fun x => a == x := by unfold isBefore; rw [pathTo_in h0 (by omega) (by omega)]
        have hpl := pathL_len ht (n := b) (by omega)
        rw [hr]
        simp (config := { maxSteps := 4000000 }) only [go_sem, simprocAttr, ↓dnA, Tryz.f15, encT, rows_length, boolRows_length, h0, h1, h2]
        refine CallTo.det (c_impl_path n1 n2 n3 t b ht hx (by omega)) fun _ => ?_
        simp (config := { maxSteps := 4000000 }) only [go_sem, simprocAttr, ↓dnA, Tryz.f15, encT, rows_length, boolRows_length, h0, h1, h2]
        refine CallTo.det (c_slices_Contains_int _ (pathL t b) a (by omega)) fun _ => ?_
        simp (config := { maxSteps := 4000000 }) only [go_sem, simprocAttr, ↓dnA, Tryz.f15, encT, rows_length, boolRows_length, h0, h1, h2]

theorem committedTo_yes {t : Tree} {cs : List Cert} (h : treeValid t = true ∧ cs.length ≤ 30) : committedTo t cs = bestF t (headsL t (certL t cs)) 0 := by
  obtain ⟨e1, e2⟩ := certified_ne h.1 h.2
  unfold committedTo; rw [if_neg e2, e1]
theorem committedTo_no {t : Tree} {cs : List Cert} (h : ¬ (treeValid t = true ∧ cs.length ≤ 30)) : committedTo t cs = -1 := by
  unfold committedTo; rw [if_pos (certified_no h)]
theorem commitHeads_yes {t : Tree} {cs : List Cert} (h : treeValid t = true ∧ cs.length ≤ 30) : commitHeads t cs = headsL t (certL t cs) := by
  obtain ⟨e1, e2⟩ := certified_ne h.1 h.2
  unfold commitHeads; rw [if_neg e2, e1]
theorem commitsAgree_yes {t : Tree} {cs : List Cert} (h : treeValid t = true ∧ cs.length ≤ 30) : commitsAgree t cs = agreeAllB t (headsL t (certL t cs)) := by
  obtain ⟨e1, e2⟩ := certified_ne h.1 h.2
  unfold commitsAgree; rw [if_neg e2, e1]
theorem commitsAgree_no {t : Tree} {cs : List Cert} (h : ¬ (treeValid t = true ∧ cs.length ≤ 30)) : commitsAgree t cs = false := by
  unfold commitsAgree; rw [if_pos (certified_no h)]

/-- The step of the program's search: the first block is taken at once. -/
theorem best_step {t : Tree} (ht : TreeOk t) {xs : List Int} (hbd : ∀ x, x ∈ xs → 0 ≤ x ∧ x < t.blocks.length) {i : Nat} (h : i < xs.length) {b : Nat} (hb : b < t.blocks.length) (hi0 : i = 0 → b = 0) :
    ∃ k : Nat, xs[i] = (k : Int) ∧ k < t.blocks.length ∧
      ((i = 0 ∧ bestF t (xs.drop i) b = bestF t (xs.drop (i + 1)) k) ∨
       (i ≠ 0 ∧ (t.blk k).view > (t.blk b).view ∧ bestF t (xs.drop i) b = bestF t (xs.drop (i + 1)) k) ∨
       (i ≠ 0 ∧ ¬ (t.blk k).view > (t.blk b).view ∧ bestF t (xs.drop i) b = bestF t (xs.drop (i + 1)) b)) := by
  have hx := hbd _ (List.getElem_mem h)
  obtain ⟨k, hk⟩ : ∃ k : Nat, xs[i] = (k : Int) := ⟨xs[i].toNat, by omega⟩
  have hkl : k < t.blocks.length := by omega
  have he : bestF t (xs.drop i) b = bestF t (xs.drop (i + 1)) (if (t.blk k).view > (t.blk b).view then (k : Int) else b) := by
    rw [drop_cons xs i h, hk]
    rfl
  refine ⟨k, hk, hkl, ?_⟩
  by_cases h0 : i = 0
  · refine .inl ⟨h0, ?_⟩
    have hb0 := hi0 h0
    subst hb0
    by_cases hk0 : k = 0
    · subst hk0
      rw [he]; split <;> rfl
    · have := view0_lt ht (k + 1) k (by omega) (by omega) hkl
      rw [he, if_pos this]
  · by_cases hv : (t.blk k).view > (t.blk b).view
    · exact .inr (.inl ⟨h0, hv, by rw [he, if_pos hv]⟩)
    · exact .inr (.inr ⟨h0, hv, by rw [he, if_neg hv]⟩)
theorem best_step' {t : Tree} {xs : List Int} (hbd : ∀ x, x ∈ xs → 0 ≤ x ∧ x < t.blocks.length) {i : Nat} (h : i < xs.length) {b : Nat} :
    ∃ k : Nat, xs[i] = (k : Int) ∧ k < t.blocks.length ∧
      (((t.blk k).view > (t.blk b).view ∧ bestF t (xs.drop i) b = bestF t (xs.drop (i + 1)) k) ∨
       (¬ (t.blk k).view > (t.blk b).view ∧ bestF t (xs.drop i) b = bestF t (xs.drop (i + 1)) b)) := by
  have hx := hbd _ (List.getElem_mem h)
  obtain ⟨k, hk⟩ : ∃ k : Nat, xs[i] = (k : Int) := ⟨xs[i].toNat, by omega⟩
  have he : bestF t (xs.drop i) b = bestF t (xs.drop (i + 1)) (if (t.blk k).view > (t.blk b).view then (k : Int) else b) := by
    rw [drop_cons xs i h, hk]
    rfl
  refine ⟨k, hk, by omega, ?_⟩
  by_cases hv : (t.blk k).view > (t.blk b).view
  · exact .inl ⟨hv, by rw [he, if_pos hv]⟩
  · exact .inr ⟨hv, by rw [he, if_neg hv]⟩

theorem c_impl_CommittedTo (n1 n2 n3 n4 : Option Bool) (t : Tree) (cs : List Cert) (hx : TreeSz t) :
    Det Tryz.prog 7 [.agg (encT n1 n2 n3 t), .sl n4 (rows encC cs)] (.int .i64 (committedTo t cs)) := by
  refine fspec_det tab_ok Tryz.call7 Tryz.func7 rfl 43 Tryz.ntmps7 (of_decide_eq_true rfl) fun B => codeK_sound tab_ok _ _ _ ?_
  simp (config := { maxSteps := 4000000 }) only [go_sem, simprocAttr, ↓dnA, Tryz.f7, encT, rows_length, boolRows_length]
  by_cases hok : treeValid t = true ∧ cs.length ≤ 30
  · have hl := certL_len t cs
    have ht := treeOk_of hok.1
    have hlen := ht.len
    refine CallTo.det (c_impl_CertifiedBlocks_T n1 n2 n3 n4 t cs hx hok.1 hok.2) fun _ => ?_
    rw [committedTo_yes hok]
    generalize certL t cs = ce at hl
    simp (config := { maxSteps := 4000000 }) only [go_sem, simprocAttr, ↓dnA, Tryz.f7, encT, rows_length, boolRows_length]
    refine CallTo.det (c_impl_heads n1 n2 n3 _ t ce hx ht hl) fun _ => ?_
    have hbd := headsL_bd t ce
    have hhl := headsL_len t ce
    generalize headsL t ce = xs at hbd hhl
    simp (config := { maxSteps := 4000000 }) only [go_sem, simprocAttr, ↓dnA, Tryz.f7, encT, rows_length, boolRows_length]
    refine semL_for tab_ok (fun p : Nat × Nat => ⟨43, [(2, .loc 2 0), (6, .int .i64 p.2), (16, .row 600 xs.length), (17, .int .i64 xs.length), (18, .int .i64 p.1)],
        [(2, .var (encT n1 n2 n3 t)), (600, .row true false 1 (rows encI xs))]⟩) (fun p => xs.length - p.1)
      (fun p => p.1 ≤ xs.length ∧ p.2 < t.blocks.length ∧ (p.1 = 0 → p.2 = 0) ∧ bestF t (xs.drop p.1) p.2 = bestF t xs 0) (0, 0) [(2, 2), (17000, 600)] (Weak.of (by rfl) ?_ ?_ (by rfl)) ⟨by omega, by omega, fun _ => rfl, rfl⟩ ?_
    · simp (config := { maxSteps := 4000000 }) only [go_sem, simprocAttr, ↓dnA, Tryz.f7, encT, rows_length, boolRows_length, frW, wk2, wk1, wkL, wkB, hpW, List.mem_cons, Prod.mk.injEq, exists_eq_left, exists_eq_right, exists_eq]
    · simp (config := { maxSteps := 4000000 }) only [go_sem, simprocAttr, ↓dnA, Tryz.f7, encT, rows_length, boolRows_length, nc0, frW, wk2, wk1, wkL, wkB, hpW, List.mem_cons, Prod.mk.injEq, exists_eq_left, exists_eq_right, exists_eq]
    · rintro ⟨i, b⟩ ⟨hi, hb, hi0, hp⟩
      dsimp only at hi hb hi0 hp
      by_cases h : i < xs.length
      · have hw : IntKind.i64.wrap ((i : Int) + 1) = ((i + 1 : Nat) : Int) := wsucc h (by omega)
        obtain ⟨k, hk, hkl, hcase⟩ := best_step ht hbd h hb hi0
        have g1 := rows_gd encB1 t.blocks k hkl
        have g2 := rows_gd encB1 t.blocks b hb
        simp (config := { maxSteps := 4000000 }) only [go_sem, simprocAttr, ↓dnA, Tryz.f7, encT, rows_length, boolRows_length, nlt h, h, nn0, rows_get _ _ _ h, encI, hk]
        refine semL_draw tab_ok mixed_ rfl (ord := [(0, []), (1, []), (2, []), (3, []), (4, []), (5, []), (6, []), (7, []), (8, []), (9, []), (10, []), (11, []), (12, []), (13, []), (14, []), (15, []), (16, [])]) (by dsimp only; decide +kernel) ?_
        rcases hcase with ⟨h0, he⟩ | ⟨h0, hv, he⟩ | ⟨h0, hv, he⟩
        · have hz : ((i : Int) == 0) = true := by simp; omega
          simp (config := { maxSteps := 4000000 }) only [go_sem, simprocAttr, ↓dnA, Tryz.f7, encT, rows_length, boolRows_length, nlt h, h, nn0, rows_get _ _ _ h, encI, hk, hz, hw]
          refine ⟨(i + 1, k), [(2, 2), (600, 600)], ⟨by dsimp only; omega, hkl, by dsimp only; omega, by rw [← hp, he]⟩, by dsimp only; omega, Weak.of (by rfl) ?_ ?_ (by rfl)⟩
          · simp (config := { maxSteps := 4000000 }) only [go_sem, simprocAttr, ↓dnA, Tryz.f7, encT, rows_length, boolRows_length, frW, wk2, wk1, wkL, wkB, hpW, List.mem_cons, Prod.mk.injEq, exists_eq_left, exists_eq_right, exists_eq]
          · simp (config := { maxSteps := 4000000 }) only [go_sem, simprocAttr, ↓dnA, Tryz.f7, encT, rows_length, boolRows_length, frW, wk2, wk1, wkL, wkB, hpW, List.mem_cons, Prod.mk.injEq, exists_eq_left, exists_eq_right, exists_eq]
        · have hz : ((i : Int) == 0) = false := by simp; omega
          have hv' := decide_eq_true hv
          unfold Tree.blk at hv'
          simp (config := { maxSteps := 4000000 }) only [go_sem, simprocAttr, ↓dnA, Tryz.f7, encT, rows_length, boolRows_length, nlt h, h, nn0, rows_get _ _ _ h, encI, hk, hz, nlt hkl, nlt hb, hkl, hb, g1, g2, encB1, encBk, hv', hw]
          refine ⟨(i + 1, k), [(2, 2), (600, 600)], ⟨by dsimp only; omega, hkl, by dsimp only; omega, by rw [← hp, he]⟩, by dsimp only; omega, Weak.of (by rfl) ?_ ?_ (by rfl)⟩
          · simp (config := { maxSteps := 4000000 }) only [go_sem, simprocAttr, ↓dnA, Tryz.f7, encT, rows_length, boolRows_length, frW, wk2, wk1, wkL, wkB, hpW, List.mem_cons, Prod.mk.injEq, exists_eq_left, exists_eq_right, exists_eq]
          · simp (config := { maxSteps := 4000000 }) only [go_sem, simprocAttr, ↓dnA, Tryz.f7, encT, rows_length, boolRows_length, frW, wk2, wk1, wkL, wkB, hpW, List.mem_cons, Prod.mk.injEq, exists_eq_left, exists_eq_right, exists_eq]
        · have hz : ((i : Int) == 0) = false := by simp; omega
          have hv' := decide_eq_false hv
          unfold Tree.blk at hv'
          simp (config := { maxSteps := 4000000 }) only [go_sem, simprocAttr, ↓dnA, Tryz.f7, encT, rows_length, boolRows_length, nlt h, h, nn0, rows_get _ _ _ h, encI, hk, hz, nlt hkl, nlt hb, hkl, hb, g1, g2, encB1, encBk, hv', hw]
          refine ⟨(i + 1, b), [(2, 2), (600, 600)], ⟨by dsimp only; omega, hb, by dsimp only; omega, by rw [← hp, he]⟩, by dsimp only; omega, Weak.of (by rfl) ?_ ?_ (by rfl)⟩
          · simp (config := { maxSteps := 4000000 }) only [go_sem, simprocAttr, ↓dnA, Tryz.f7, encT, rows_length, boolRows_length, frW, wk2, wk1, wkL, wkB, hpW, List.mem_cons, Prod.mk.injEq, exists_eq_left, exists_eq_right, exists_eq]
          · simp (config := { maxSteps := 4000000 }) only [go_sem, simprocAttr, ↓dnA, Tryz.f7, encT, rows_length, boolRows_length, frW, wk2, wk1, wkL, wkB, hpW, List.mem_cons, Prod.mk.injEq, exists_eq_left, exists_eq_right, exists_eq]
      · have hi' : i = xs.length := by omega
        subst hi'
        rw [List.drop_length] at hp
        have hp' : bestF t xs 0 = (b : Int) := hp.symm
        simp (config := { maxSteps := 4000000 }) only [go_sem, simprocAttr, ↓dnA, Tryz.f7, encT, rows_length, boolRows_length, nlf h, hp']
  · refine CallTo.det (c_impl_CertifiedBlocks_no n1 n2 n3 n4 t cs hx hok) fun _ => ?_
    simp (config := { maxSteps := 4000000 }) only [go_sem, simprocAttr, ↓dnA, Tryz.f7, encT, rows_length, boolRows_length, committedTo_no hok]

theorem c_spec_CommittedTo (n1 n2 n3 n4 : Option Bool) (t : Tree) (cs : List Cert) (hx : TreeSz t) :
    Det Tryz.prog 8 [.agg (encT n1 n2 n3 t), .sl n4 (rows encC cs)] (.int .i64 (committedTo t cs)) := by
  refine fspec_det tab_ok Tryz.call8 Tryz.func8 rfl 43 Tryz.ntmps8 (of_decide_eq_true rfl) fun B => codeK_sound tab_ok _ _ _ ?_
  simp (config := { maxSteps := 4000000 }) only [go_sem, simprocAttr, ↓dnA, Tryz.f8, encT, rows_length, boolRows_length]
  refine CallTo.det (c_spec_CertifiedBlocks n1 n2 n3 n4 t cs hx) fun _ => ?_
  by_cases hok : treeValid t = true ∧ cs.length ≤ 30
  · have hl := certL_len t cs
    have ht := treeOk_of hok.1
    have hlen := ht.len
    rw [committedTo_yes hok, certified_yes hok.1 hok.2]
    have hz : (((certL t cs).length : Int) == 0) = false := by rw [hl]; exact beq_false_of_ne (by omega)
    simp (config := { maxSteps := 4000000 }) only [go_sem, simprocAttr, ↓dnA, Tryz.f8, encT, rows_length, boolRows_length, hz]
    refine CallTo.det (c_spec_CommitHeads n1 n2 n3 n4 t cs hx) fun _ => ?_
    rw [commitHeads_yes hok]
    have hbd := headsL_bd t (certL t cs)
    have hhl := headsL_len t (certL t cs)
    generalize headsL t (certL t cs) = xs at hbd hhl
    simp (config := { maxSteps := 4000000 }) only [go_sem, simprocAttr, ↓dnA, Tryz.f8, encT, rows_length, boolRows_length, hz]
    refine semL_for tab_ok (fun p : Nat × Nat => ⟨43, [(2, .loc 2 0), (5, .int .i64 p.2), (6, .row 600 xs.length), (7, .int .i64 p.1)],
        [(2, .var (encT n1 n2 n3 t)), (600, .row true true 1 (rows encI xs))]⟩) (fun p => xs.length - p.1)
      (fun p => p.1 ≤ xs.length ∧ p.2 < t.blocks.length ∧ bestF t (xs.drop p.1) p.2 = bestF t xs 0) (0, 0) [(2, 2), (16000, 600)] (Weak.of (by rfl) ?_ ?_ (by rfl)) ⟨by omega, by omega, rfl⟩ ?_
    · simp (config := { maxSteps := 4000000 }) only [go_sem, simprocAttr, ↓dnA, Tryz.f8, encT, rows_length, boolRows_length, frW, wk2, wk1, wkL, wkB, hpW, List.mem_cons, Prod.mk.injEq, exists_eq_left, exists_eq_right, exists_eq]
    · simp (config := { maxSteps := 4000000 }) only [go_sem, simprocAttr, ↓dnA, Tryz.f8, encT, rows_length, boolRows_length, nc0, frW, wk2, wk1, wkL, wkB, hpW, List.mem_cons, Prod.mk.injEq, exists_eq_left, exists_eq_right, exists_eq]
    · rintro ⟨i, b⟩ ⟨hi, hb, hp⟩
      dsimp only at hi hb hp
      by_cases h : i < xs.length
      · have hw : IntKind.i64.wrap ((i : Int) + 1) = ((i + 1 : Nat) : Int) := wsucc h (by omega)
        obtain ⟨k, hk, hkl, hcase⟩ := best_step' hbd h (b := b)
        have g1 := rows_gd encB1 t.blocks k hkl
        have g2 := rows_gd encB1 t.blocks b hb
        simp (config := { maxSteps := 4000000 }) only [go_sem, simprocAttr, ↓dnA, Tryz.f8, encT, rows_length, boolRows_length, nlt h, h, nn0, rows_get _ _ _ h, encI, hk]
        refine semL_draw tab_ok mixed_ rfl (ord := [(0, []), (1, []), (2, []), (3, []), (4, []), (5, []), (6, []), (7, []), (8, []), (9, []), (10, []), (11, []), (12, []), (13, []), (14, []), (15, [])]) (by dsimp only; decide +kernel) ?_
        rcases hcase with ⟨hv, he⟩ | ⟨hv, he⟩
        · have hv' := decide_eq_true hv
          unfold Tree.blk at hv'
          simp (config := { maxSteps := 4000000 }) only [go_sem, simprocAttr, ↓dnA, Tryz.f8, encT, rows_length, boolRows_length, nlt h, h, nn0, rows_get _ _ _ h, encI, hk, nlt hkl, nlt hb, hkl, hb, g1, g2, encB1, encBk, hv', hw]
          refine ⟨(i + 1, k), [(2, 2), (600, 600)], ⟨by dsimp only; omega, hkl, by rw [← hp, he]⟩, by dsimp only; omega, Weak.of (by rfl) ?_ ?_ (by rfl)⟩
          · simp (config := { maxSteps := 4000000 }) only [go_sem, simprocAttr, ↓dnA, Tryz.f8, encT, rows_length, boolRows_length, frW, wk2, wk1, wkL, wkB, hpW, List.mem_cons, Prod.mk.injEq, exists_eq_left, exists_eq_right, exists_eq]
          · simp (config := { maxSteps := 4000000 }) only [go_sem, simprocAttr, ↓dnA, Tryz.f8, encT, rows_length, boolRows_length, frW, wk2, wk1, wkL, wkB, hpW, List.mem_cons, Prod.mk.injEq, exists_eq_left, exists_eq_right, exists_eq]
        · have hv' := decide_eq_false hv
          unfold Tree.blk at hv'
          simp (config := { maxSteps := 4000000 }) only [go_sem, simprocAttr, ↓dnA, Tryz.f8, encT, rows_length, boolRows_length, nlt h, h, nn0, rows_get _ _ _ h, encI, hk, nlt hkl, nlt hb, hkl, hb, g1, g2, encB1, encBk, hv', hw]
          refine ⟨(i + 1, b), [(2, 2), (600, 600)], ⟨by dsimp only; omega, hb, by rw [← hp, he]⟩, by dsimp only; omega, Weak.of (by rfl) ?_ ?_ (by rfl)⟩
          · simp (config := { maxSteps := 4000000 }) only [go_sem, simprocAttr, ↓dnA, Tryz.f8, encT, rows_length, boolRows_length, frW, wk2, wk1, wkL, wkB, hpW, List.mem_cons, Prod.mk.injEq, exists_eq_left, exists_eq_right, exists_eq]
          · simp (config := { maxSteps := 4000000 }) only [go_sem, simprocAttr, ↓dnA, Tryz.f8, encT, rows_length, boolRows_length, frW, wk2, wk1, wkL, wkB, hpW, List.mem_cons, Prod.mk.injEq, exists_eq_left, exists_eq_right, exists_eq]
      · have hi' : i = xs.length := by omega
        subst hi'
        rw [List.drop_length] at hp
        have hp' : bestF t xs 0 = (b : Int) := hp.symm
        simp (config := { maxSteps := 4000000 }) only [go_sem, simprocAttr, ↓dnA, Tryz.f8, encT, rows_length, boolRows_length, nlf h, hp']
  · rw [certified_no hok]
    simp (config := { maxSteps := 4000000 }) only [go_sem, simprocAttr, ↓dnA, Tryz.f8, encT, rows_length, boolRows_length, committedTo_no hok, List.length_nil]

/-- The first i numbers of a list agree with each other. -/
def AgreeTo (t : Tree) (xs : List Int) (i : Nat) : Prop := ∀ a b, b < a → a < i → agreeB t (xs.getD a 0) (xs.getD b 0) = true
theorem agreeTo_next {t : Tree} {xs : List Int} {i : Nat} (h : AgreeTo t xs i) (h2 : ∀ b, b < i → agreeB t (xs.getD i 0) (xs.getD b 0) = true) : AgreeTo t xs (i + 1) := by
  intro a b hb ha
  by_cases e : a = i
  · subst e; exact h2 b hb
  · exact h a b hb (by omega)

theorem c_impl_CommitsAgree (n1 n2 n3 n4 : Option Bool) (t : Tree) (cs : List Cert) (hx : TreeSz t) :
    Det Tryz.prog 13 [.agg (encT n1 n2 n3 t), .sl n4 (rows encC cs)] (.bool (commitsAgree t cs)) := by
  refine fspec_det tab_ok Tryz.call13 Tryz.func13 rfl 48 Tryz.ntmps13 (of_decide_eq_true rfl) fun B => codeK_sound tab_ok _ _ _ ?_
  simp (config := { maxSteps := 4000000 }) only [go_sem, simprocAttr, ↓dnA, Tryz.f13, encT, rows_length, boolRows_length]
  by_cases hok : treeValid t = true ∧ cs.length ≤ 30
  · have hl := certL_len t cs
    have ht := treeOk_of hok.1
    have hlen := ht.len
    refine CallTo.det (c_impl_CertifiedBlocks_T n1 n2 n3 n4 t cs hx hok.1 hok.2) fun _ => ?_
    rw [commitsAgree_yes hok]
    generalize certL t cs = ce at hl
    simp (config := { maxSteps := 4000000 }) only [go_sem, simprocAttr, ↓dnA, Tryz.f13, encT, rows_length, boolRows_length]
    refine CallTo.det (c_impl_heads n1 n2 n3 _ t ce hx ht hl) fun _ => ?_
    have hhl := headsL_len t ce
    generalize headsL t ce = xs at hhl
    simp (config := { maxSteps := 4000000 }) only [go_sem, simprocAttr, ↓dnA, Tryz.f13, encT, rows_length, boolRows_length]
    refine semL_ghost ((Ghost.weak (t := ⟨48, [(2, .loc 2 0), (6, .row 19000 xs.length), (19, .row 19000 xs.length), (20, .int .i64 xs.length), (21, .int .i64 0)],
        [(2, .var (encT n1 n2 n3 t)), (19000, .fro 1 (rows encI xs))]⟩) (ρ := [(2, 2), (19000, 19000)]) (Weak.of (by rfl) ?_ ?_ (by rfl))).trans ((Ghost.pure 6 19000 xs.length 1 rfl rfl ?_).trans (Ghost.pure 19 19000 xs.length 1 rfl rfl ?_))) ?_
    · simp (config := { maxSteps := 4000000 }) only [go_sem, simprocAttr, ↓dnA, Tryz.f13, encT, rows_length, boolRows_length, frW, wk2, wk1, wkL, wkB, hpW, List.mem_cons, Prod.mk.injEq, exists_eq_left, exists_eq_right, exists_eq]
    · simp (config := { maxSteps := 4000000 }) only [go_sem, simprocAttr, ↓dnA, Tryz.f13, encT, rows_length, boolRows_length, frW, wk2, wk1, wkL, wkB, hpW, List.mem_cons, Prod.mk.injEq, exists_eq_left, exists_eq_right, exists_eq]
    · rw [rows_length]
    · rw [rows_length]
    refine semL_for tab_ok (fun i : Nat => ⟨48, [(2, .loc 2 0), (6, .sl none (rows encI xs)), (19, .sl none (rows encI xs)), (20, .int .i64 xs.length), (21, .int .i64 i)],
        [(2, .var (encT n1 n2 n3 t))]⟩) (fun i => xs.length - i)
      (fun i => i ≤ xs.length ∧ AgreeTo t xs i) 0 [(2, 2)] (Weak.of (by rfl) ?_ ?_ (by rfl)) ⟨by omega, fun a b _ h => by omega⟩ ?_
    · simp (config := { maxSteps := 4000000 }) only [go_sem, simprocAttr, ↓dnA, Tryz.f13, encT, rows_length, boolRows_length, frW, wk2, wk1, wkL, wkB, hpW, List.mem_cons, Prod.mk.injEq, exists_eq_left, exists_eq_right, exists_eq]
    · simp (config := { maxSteps := 4000000 }) only [go_sem, simprocAttr, ↓dnA, Tryz.f13, encT, rows_length, boolRows_length, nc0, frW, wk2, wk1, wkL, wkB, hpW, List.mem_cons, Prod.mk.injEq, exists_eq_left, exists_eq_right, exists_eq]
    · rintro i ⟨hi, hag⟩
      by_cases h : i < xs.length
      · have hw : IntKind.i64.wrap ((i : Int) + 1) = ((i + 1 : Nat) : Int) := wsucc h (by omega)
        have hgi : xs.getD i 0 = xs[i] := by rw [List.getD_eq_getElem?_getD, List.getElem?_eq_getElem h]; rfl
        have hle : ((i : Int) ≤ (xs.length : Int)) = True := by simp; omega
        simp (config := { maxSteps := 4000000 }) only [go_sem, simprocAttr, ↓dnA, Tryz.f13, encT, rows_length, boolRows_length, nlt h, h, nn0, rows_get _ _ _ h, encI, hle, rows_take]
        repeat refine And.intro (by first | omega | (simp; done) | (simp; omega) | assumption) ?_
        refine semL_for tab_ok (fun j : Nat => ⟨48, [(2, .loc 2 0), (6, .sl none (rows encI xs)), (8, .int .i64 xs[i]), (19, .sl none (rows encI xs)), (20, .int .i64 xs.length), (21, .int .i64 i), (28, .sl none (rows encI (xs.take i))), (29, .int .i64 i), (30, .int .i64 j)],
            [(2, .var (encT n1 n2 n3 t))]⟩) (fun j => i - j)
          (fun j => j ≤ i ∧ ∀ b, b < j → agreeB t (xs.getD i 0) (xs.getD b 0) = true) 0 [(2, 2)] (Weak.of (by rfl) ?_ ?_ (by rfl)) ⟨by omega, fun b h => by omega⟩ ?_
        · simp (config := { maxSteps := 4000000 }) only [go_sem, simprocAttr, ↓dnA, Tryz.f13, encT, rows_length, boolRows_length, frW, wk2, wk1, wkL, wkB, hpW, List.mem_cons, Prod.mk.injEq, exists_eq_left, exists_eq_right, exists_eq]
        · simp (config := { maxSteps := 4000000 }) only [go_sem, simprocAttr, ↓dnA, Tryz.f13, encT, rows_length, boolRows_length, nc0, List.length_take, show min i xs.length = i by omega, frW, wk2, wk1, wkL, wkB, hpW, List.mem_cons, Prod.mk.injEq, exists_eq_left, exists_eq_right, exists_eq]
        · rintro j ⟨hj, hagj⟩
          by_cases h2 : j < i
          · have hw2 : IntKind.i64.wrap ((j : Int) + 1) = ((j + 1 : Nat) : Int) := wsucc h2 (by omega)
            have hjx : j < xs.length := by omega
            have hjt : j < (xs.take i).length := by rw [List.length_take]; omega
            have hgt : (xs.take i)[j] = xs[j] := by simp
            have hgj : xs.getD j 0 = xs[j] := by rw [List.getD_eq_getElem?_getD, List.getElem?_eq_getElem hjx]; rfl
            have hml : min i xs.length = i := by omega
            simp (config := { maxSteps := 4000000 }) only [go_sem, simprocAttr, ↓dnA, Tryz.f13, encT, rows_length, boolRows_length, nlt h2, h2, nn0, rows_get _ _ _ hjt, encI, hgt, List.length_take, hml]
            refine CallTo.det (c_impl_IsBefore n1 n2 n3 t xs[i] xs[j] hx) fun _ => ?_
            have next : agreeB t xs[i] xs[j] = true → ∀ b, b < j + 1 → agreeB t (xs.getD i 0) (xs.getD b 0) = true := fun e b hb => by
              by_cases hbj : b = j
              · subst hbj; rw [hgi, hgj]; exact e
              · exact hagj b (by omega)
            cases e1 : isBefore t xs[i] xs[j] with
            | true =>
              have hn := next (by unfold agreeB; rw [e1]; rfl)
              simp (config := { maxSteps := 4000000 }) only [go_sem, simprocAttr, ↓dnA, Tryz.f13, encT, rows_length, boolRows_length, nlt h2, h2, nn0, rows_get _ _ _ hjt, encI, hgt, List.length_take, hml, e1, hw2]
              refine ⟨j + 1, [(2, 2)], ⟨by omega, hn⟩, by dsimp only; omega, Weak.of (by rfl) ?_ ?_ (by rfl)⟩
              · simp (config := { maxSteps := 4000000 }) only [go_sem, simprocAttr, ↓dnA, Tryz.f13, encT, rows_length, boolRows_length, frW, wk2, wk1, wkL, wkB, hpW, List.mem_cons, Prod.mk.injEq, exists_eq_left, exists_eq_right, exists_eq]
              · simp (config := { maxSteps := 4000000 }) only [go_sem, simprocAttr, ↓dnA, Tryz.f13, encT, rows_length, boolRows_length, frW, wk2, wk1, wkL, wkB, hpW, List.mem_cons, Prod.mk.injEq, exists_eq_left, exists_eq_right, exists_eq]
            | false =>
              simp (config := { maxSteps := 4000000 }) only [go_sem, simprocAttr, ↓dnA, Tryz.f13, encT, rows_length, boolRows_length, nlt h2, h2, nn0, rows_get _ _ _ hjt, encI, hgt, List.length_take, hml, e1]
              refine CallTo.det (c_impl_IsBefore n1 n2 n3 t xs[j] xs[i] hx) fun _ => ?_
              cases e2 : isBefore t xs[j] xs[i] with
              | true =>
                have hn := next (by unfold agreeB; rw [e1, e2]; rfl)
                simp (config := { maxSteps := 4000000 }) only [go_sem, simprocAttr, ↓dnA, Tryz.f13, encT, rows_length, boolRows_length, nlt h2, h2, nn0, rows_get _ _ _ hjt, encI, hgt, List.length_take, hml, e1, e2, hw2]
                refine ⟨j + 1, [(2, 2)], ⟨by omega, hn⟩, by dsimp only; omega, Weak.of (by rfl) ?_ ?_ (by rfl)⟩
                · simp (config := { maxSteps := 4000000 }) only [go_sem, simprocAttr, ↓dnA, Tryz.f13, encT, rows_length, boolRows_length, frW, wk2, wk1, wkL, wkB, hpW, List.mem_cons, Prod.mk.injEq, exists_eq_left, exists_eq_right, exists_eq]
                · simp (config := { maxSteps := 4000000 }) only [go_sem, simprocAttr, ↓dnA, Tryz.f13, encT, rows_length, boolRows_length, frW, wk2, wk1, wkL, wkB, hpW, List.mem_cons, Prod.mk.injEq, exists_eq_left, exists_eq_right, exists_eq]
              | false =>
                have hno : ¬ AgreeAll t xs := fun hA => by
                  have := hA i j h2 h
                  rw [hgi, hgj] at this
                  unfold agreeB at this
                  rw [e1, e2] at this
                  cases this
                have hfin := agreeAllB_no hno
                simp (config := { maxSteps := 4000000 }) only [go_sem, simprocAttr, ↓dnA, Tryz.f13, encT, rows_length, boolRows_length, nlt h2, h2, nn0, rows_get _ _ _ hjt, encI, hgt, List.length_take, hml, e1, e2, hfin]
          · have hj' : j = i := by omega
            subst hj'
            have hA := agreeTo_next hag hagj
            simp (config := { maxSteps := 4000000 }) only [go_sem, simprocAttr, ↓dnA, Tryz.f13, encT, rows_length, boolRows_length, nlf h2, hw]
            refine ⟨j + 1, [(2, 2)], ⟨by omega, hA⟩, by dsimp only; omega, Weak.of (by rfl) ?_ ?_ (by rfl)⟩
            · simp (config := { maxSteps := 4000000 }) only [go_sem, simprocAttr, ↓dnA, Tryz.f13, encT, rows_length, boolRows_length, frW, wk2, wk1, wkL, wkB, hpW, List.mem_cons, Prod.mk.injEq, exists_eq_left, exists_eq_right, exists_eq]
            · simp (config := { maxSteps := 4000000 }) only [go_sem, simprocAttr, ↓dnA, Tryz.f13, encT, rows_length, boolRows_length, frW, wk2, wk1, wkL, wkB, hpW, List.mem_cons, Prod.mk.injEq, exists_eq_left, exists_eq_right, exists_eq]
      · have hi' : i = xs.length := by omega
        subst hi'
        have hyes : AgreeAll t xs := fun a b hb ha => hag a b hb ha
        have hfin := agreeAllB_yes hyes
        simp (config := { maxSteps := 4000000 }) only [go_sem, simprocAttr, ↓dnA, Tryz.f13, encT, rows_length, boolRows_length, nlf h, hfin]
  · refine CallTo.det (c_impl_CertifiedBlocks_no n1 n2 n3 n4 t cs hx hok) fun _ => ?_
    simp (config := { maxSteps := 4000000 }) only [go_sem, simprocAttr, ↓dnA, Tryz.f13, encT, rows_length, boolRows_length, commitsAgree_no hok]

theorem c_spec_CommitsAgree (n1 n2 n3 n4 : Option Bool) (t : Tree) (cs : List Cert) (hx : TreeSz t) :
    Det Tryz.prog 14 [.agg (encT n1 n2 n3 t), .sl n4 (rows encC cs)] (.bool (commitsAgree t cs)) := by
  refine fspec_det tab_ok Tryz.call14 Tryz.func14 rfl 51 Tryz.ntmps14 (of_decide_eq_true rfl) fun B => codeK_sound tab_ok _ _ _ ?_
  simp (config := { maxSteps := 4000000 }) only [go_sem, simprocAttr, ↓dnA, Tryz.f14, encT, rows_length, boolRows_length]
  refine CallTo.det (c_spec_CertifiedBlocks n1 n2 n3 n4 t cs hx) fun _ => ?_
  by_cases hok : treeValid t = true ∧ cs.length ≤ 30
  · have hl := certL_len t cs
    have ht := treeOk_of hok.1
    have hlen := ht.len
    rw [commitsAgree_yes hok, certified_yes hok.1 hok.2]
    have hz : (((certL t cs).length : Int) == 0) = false := by rw [hl]; exact beq_false_of_ne (by omega)
    simp (config := { maxSteps := 4000000 }) only [go_sem, simprocAttr, ↓dnA, Tryz.f14, encT, rows_length, boolRows_length, hz]
    refine CallTo.det (c_spec_CommitHeads n1 n2 n3 n4 t cs hx) fun _ => ?_
    rw [commitHeads_yes hok]
    have hhl := headsL_len t (certL t cs)
    generalize headsL t (certL t cs) = xs at hhl
    simp (config := { maxSteps := 4000000 }) only [go_sem, simprocAttr, ↓dnA, Tryz.f14, encT, rows_length, boolRows_length, hz]
    refine semL_for tab_ok (fun i : Nat => ⟨51, [(2, .loc 2 0), (5, .row 600 xs.length), (6, .int .i64 i)],
        [(2, .var (encT n1 n2 n3 t)), (600, .row true true 1 (rows encI xs))]⟩) (fun i => xs.length - i)
      (fun i => i ≤ xs.length ∧ AgreeTo t xs i) 0 [(2, 2), (16000, 600)] (Weak.of (by rfl) ?_ ?_ (by rfl)) ⟨by omega, fun a b _ h => by omega⟩ ?_
    · simp (config := { maxSteps := 4000000 }) only [go_sem, simprocAttr, ↓dnA, Tryz.f14, encT, rows_length, boolRows_length, frW, wk2, wk1, wkL, wkB, hpW, List.mem_cons, Prod.mk.injEq, exists_eq_left, exists_eq_right, exists_eq]
    · simp (config := { maxSteps := 4000000 }) only [go_sem, simprocAttr, ↓dnA, Tryz.f14, encT, rows_length, boolRows_length, nc0, frW, wk2, wk1, wkL, wkB, hpW, List.mem_cons, Prod.mk.injEq, exists_eq_left, exists_eq_right, exists_eq]
    · rintro i ⟨hi, hag⟩
      by_cases h : i < xs.length
      · have hw : IntKind.i64.wrap ((i : Int) + 1) = ((i + 1 : Nat) : Int) := wsucc h (by omega)
        have hgi : xs.getD i 0 = xs[i] := by rw [List.getD_eq_getElem?_getD, List.getElem?_eq_getElem h]; rfl
        simp (config := { maxSteps := 4000000 }) only [go_sem, simprocAttr, ↓dnA, Tryz.f14, encT, rows_length, boolRows_length, nlt h, h, nn0]
        refine semL_for tab_ok (fun j : Nat => ⟨51, [(2, .loc 2 0), (5, .row 600 xs.length), (6, .int .i64 i), (7, .int .i64 j)],
            [(2, .var (encT n1 n2 n3 t)), (600, .row true true 1 (rows encI xs))]⟩) (fun j => i - j)
          (fun j => j ≤ i ∧ ∀ b, b < j → agreeB t (xs.getD i 0) (xs.getD b 0) = true) 0 [(2, 2), (600, 600)] (Weak.of (by rfl) ?_ ?_ (by rfl)) ⟨by omega, fun b h => by omega⟩ ?_
        · simp (config := { maxSteps := 4000000 }) only [go_sem, simprocAttr, ↓dnA, Tryz.f14, encT, rows_length, boolRows_length, frW, wk2, wk1, wkL, wkB, hpW, List.mem_cons, Prod.mk.injEq, exists_eq_left, exists_eq_right, exists_eq]
        · simp (config := { maxSteps := 4000000 }) only [go_sem, simprocAttr, ↓dnA, Tryz.f14, encT, rows_length, boolRows_length, nc0, frW, wk2, wk1, wkL, wkB, hpW, List.mem_cons, Prod.mk.injEq, exists_eq_left, exists_eq_right, exists_eq]
        · rintro j ⟨hj, hagj⟩
          by_cases h2 : j < i
          · have hw2 : IntKind.i64.wrap ((j : Int) + 1) = ((j + 1 : Nat) : Int) := wsucc h2 (by omega)
            have hjx : j < xs.length := by omega
            have hgj : xs.getD j 0 = xs[j] := by rw [List.getD_eq_getElem?_getD, List.getElem?_eq_getElem hjx]; rfl
            simp (config := { maxSteps := 4000000 }) only [go_sem, simprocAttr, ↓dnA, Tryz.f14, encT, rows_length, boolRows_length, nlt h2, h2, nn0]
            refine semL_draw tab_ok mixed_ rfl (ord := [(0, []), (1, []), (2, []), (3, []), (4, []), (5, []), (6, []), (7, []), (8, []), (9, []), (10, []), (11, []), (12, []), (13, []), (14, []), (15, []), (16, []), (17, []), (18, []), (19, []), (20, []), (21, []), (22, []), (23, [])]) (by dsimp only; decide +kernel) ?_
            simp (config := { maxSteps := 4000000 }) only [go_sem, simprocAttr, ↓dnA, Tryz.f14, encT, rows_length, boolRows_length, nlt h2, h2, nn0, nlt h, h, nlt hjx, hjx, rows_get _ _ _ hjx, rows_get _ _ _ h, encI]
            refine CallTo.det (c_spec_IsBefore n1 n2 n3 t xs[j] xs[i] hx) fun _ => ?_
            have next : agreeB t xs[i] xs[j] = true → ∀ b, b < j + 1 → agreeB t (xs.getD i 0) (xs.getD b 0) = true := fun e b hb => by
              by_cases hbj : b = j
              · subst hbj; rw [hgi, hgj]; exact e
              · exact hagj b (by omega)
            cases e1 : isBefore t xs[j] xs[i] with
            | true =>
              have hn := next (by rw [agreeB_symm]; unfold agreeB; rw [e1]; rfl)
              simp (config := { maxSteps := 4000000 }) only [go_sem, simprocAttr, ↓dnA, Tryz.f14, encT, rows_length, boolRows_length, nlt h2, h2, nn0, nlt h, h, nlt hjx, hjx, rows_get _ _ _ hjx, rows_get _ _ _ h, encI, e1, hw2]
              refine ⟨j + 1, [(2, 2), (600, 600)], ⟨by omega, hn⟩, by dsimp only; omega, Weak.of (by rfl) ?_ ?_ (by rfl)⟩
              · simp (config := { maxSteps := 4000000 }) only [go_sem, simprocAttr, ↓dnA, Tryz.f14, encT, rows_length, boolRows_length, frW, wk2, wk1, wkL, wkB, hpW, List.mem_cons, Prod.mk.injEq, exists_eq_left, exists_eq_right, exists_eq]
              · simp (config := { maxSteps := 4000000 }) only [go_sem, simprocAttr, ↓dnA, Tryz.f14, encT, rows_length, boolRows_length, frW, wk2, wk1, wkL, wkB, hpW, List.mem_cons, Prod.mk.injEq, exists_eq_left, exists_eq_right, exists_eq]
            | false =>
              simp (config := { maxSteps := 4000000 }) only [go_sem, simprocAttr, ↓dnA, Tryz.f14, encT, rows_length, boolRows_length, nlt h2, h2, nn0, nlt h, h, nlt hjx, hjx, rows_get _ _ _ hjx, rows_get _ _ _ h, encI, e1]
              refine CallTo.det (c_spec_IsBefore n1 n2 n3 t xs[i] xs[j] hx) fun _ => ?_
              cases e2 : isBefore t xs[i] xs[j] with
              | true =>
                have hn := next (by unfold agreeB; rw [e2]; rfl)
                simp (config := { maxSteps := 4000000 }) only [go_sem, simprocAttr, ↓dnA, Tryz.f14, encT, rows_length, boolRows_length, nlt h2, h2, nn0, nlt h, h, nlt hjx, hjx, rows_get _ _ _ hjx, rows_get _ _ _ h, encI, e1, e2, hw2]
                refine ⟨j + 1, [(2, 2), (600, 600)], ⟨by omega, hn⟩, by dsimp only; omega, Weak.of (by rfl) ?_ ?_ (by rfl)⟩
                · simp (config := { maxSteps := 4000000 }) only [go_sem, simprocAttr, ↓dnA, Tryz.f14, encT, rows_length, boolRows_length, frW, wk2, wk1, wkL, wkB, hpW, List.mem_cons, Prod.mk.injEq, exists_eq_left, exists_eq_right, exists_eq]
                · simp (config := { maxSteps := 4000000 }) only [go_sem, simprocAttr, ↓dnA, Tryz.f14, encT, rows_length, boolRows_length, frW, wk2, wk1, wkL, wkB, hpW, List.mem_cons, Prod.mk.injEq, exists_eq_left, exists_eq_right, exists_eq]
              | false =>
                have hno : ¬ AgreeAll t xs := fun hA => by
                  have := hA i j h2 h
                  rw [hgi, hgj] at this
                  unfold agreeB at this
                  rw [e1, e2] at this
                  cases this
                have hfin := agreeAllB_no hno
                simp (config := { maxSteps := 4000000 }) only [go_sem, simprocAttr, ↓dnA, Tryz.f14, encT, rows_length, boolRows_length, nlt h2, h2, nn0, nlt h, h, nlt hjx, hjx, rows_get _ _ _ hjx, rows_get _ _ _ h, encI, e1, e2, hfin]
          · have hj' : j = i := by omega
            subst hj'
            have hA := agreeTo_next hag hagj
            simp (config := { maxSteps := 4000000 }) only [go_sem, simprocAttr, ↓dnA, Tryz.f14, encT, rows_length, boolRows_length, nlf h2, hw]
            refine ⟨j + 1, [(2, 2), (600, 600)], ⟨by omega, hA⟩, by dsimp only; omega, Weak.of (by rfl) ?_ ?_ (by rfl)⟩
            · simp (config := { maxSteps := 4000000 }) only [go_sem, simprocAttr, ↓dnA, Tryz.f14, encT, rows_length, boolRows_length, frW, wk2, wk1, wkL, wkB, hpW, List.mem_cons, Prod.mk.injEq, exists_eq_left, exists_eq_right, exists_eq]
            · simp (config := { maxSteps := 4000000 }) only [go_sem, simprocAttr, ↓dnA, Tryz.f14, encT, rows_length, boolRows_length, frW, wk2, wk1, wkL, wkB, hpW, List.mem_cons, Prod.mk.injEq, exists_eq_left, exists_eq_right, exists_eq]
      · have hi' : i = xs.length := by omega
        subst hi'
        have hyes : AgreeAll t xs := fun a b hb ha => hag a b hb ha
        have hfin := agreeAllB_yes hyes
        simp (config := { maxSteps := 4000000 }) only [go_sem, simprocAttr, ↓dnA, Tryz.f14, encT, rows_length, boolRows_length, nlf h, hfin]
  · rw [certified_no hok]
    simp (config := { maxSteps := 4000000 }) only [go_sem, simprocAttr, ↓dnA, Tryz.f14, encT, rows_length, boolRows_length, commitsAgree_no hok, List.length_nil]

end Go.Proofs.YtehbgjikmchaoaaGreat

/- Contracts: certificates and heads of worlds. -/
set_option linter.unusedSimpArgs false
set_option linter.unusedVariables false
set_option maxRecDepth 20000
set_option maxHeartbeats 4000000
namespace Go.Proofs.YtehbgjikmchaoaaGreat
open Go Go.RowKit

theorem certsTo_yes {w : Wld} {k : Nat} (h : 0 < k ∧ 0 < w.votes.getD k 0) : certsTo w (k + 1) = certsTo w k ++ [certAt w k] := by
  conv => lhs; unfold certsTo
  rw [if_pos h]
theorem certsTo_no {w : Wld} {k : Nat} (h : ¬ (0 < k ∧ 0 < w.votes.getD k 0)) : certsTo w (k + 1) = certsTo w k := by
  conv => lhs; unfold certsTo
  rw [if_neg h]
theorem worldCerts_yes {w : Wld} (h : worldValid w = true) : worldCerts w = certsTo w w.votes.length := by unfold worldCerts; rw [if_pos h]
theorem worldCerts_no {w : Wld} (h : worldValid w = false) : worldCerts w = [] := by unfold worldCerts; rw [h]; rfl
theorem worldCerts_len (w : Wld) : (worldCerts w).length ≤ w.votes.length := by
  cases h : worldValid w with
  | false => rw [worldCerts_no h]; simp
  | true => rw [worldCerts_yes h]; have := certsTo_len w w.votes.length; omega

theorem c_impl_certs (n1 n2 n3 n4 n5 : Option Bool) (w : Wld) (hx : WldSz w) (hv : worldValid w = true) :
    Det Tryz.prog 40 [.agg (encW n1 n2 n3 n4 n5 w)] (.osl false 3 (rows encC (certsTo w w.votes.length))) := by
  refine fspec_det tab_ok Tryz.call40 Tryz.func40 rfl 38 Tryz.ntmps40 (of_decide_eq_true rfl) fun B => codeK_sound tab_ok _ _ _ ?_
  obtain ⟨ht, h4, hvo, hvl, hvs⟩ := worldValid_parts hv
  have hlen := ht.len
  have hvt := hx.votes
  simp (config := { maxSteps := 4000000 }) only [go_sem, simprocAttr, ↓dnA, Tryz.f40, rows_length, encW]
  refine semL_nilA 3 3 3 true (by rfl) (by rfl) (by decide) (by decide) ?_
  refine semL_for tab_ok (fun i : Nat => ⟨38, [(1, .loc 1 0), (3, .row 3 (certsTo w i).length), (8, .sl n5 (rows encI w.votes)), (9, .int .i64 w.votes.length), (10, .int .i64 i)],
      [(1, .var (encW n1 n2 n3 n4 n5 w)), (3, .row true false 3 (rows encC (certsTo w i)))]⟩) (fun i => w.votes.length - i)
    (fun i => i ≤ w.votes.length) 0 [(1, 1), (3, 3)] (Weak.of (by rfl) ?_ ?_ (by rfl)) (by omega) ?_
  · simp (config := { maxSteps := 4000000 }) only [go_sem, simprocAttr, ↓dnA, Tryz.f40, rows_length, encW, frW, wk2, wk1, wkL, wkB, hpW, List.mem_cons, Prod.mk.injEq, exists_eq_left, exists_eq_right, exists_eq]
    try rfl
  · simp (config := { maxSteps := 4000000 }) only [go_sem, simprocAttr, ↓dnA, Tryz.f40, rows_length, nc0, certsTo, List.length_nil, frW, wk2, wk1, wkL, wkB, hpW, List.mem_cons, Prod.mk.injEq, exists_eq_left, exists_eq_right, exists_eq]
  · rintro i hi
    by_cases h : i < w.votes.length
    · have hw : IntKind.i64.wrap ((i : Int) + 1) = ((i + 1 : Nat) : Int) := wsucc h (by omega)
      have hgi : w.votes.getD i 0 = w.votes[i] := by rw [List.getD_eq_getElem?_getD, List.getElem?_eq_getElem h]; rfl
      have hac := certsTo_len w i
      have htk := take_rows encC (certsTo w i) (certsTo w i).length rfl
      by_cases hi0 : i = 0
      · have hd : decide ((i : Int) > 0) = false := by simp; omega
        have hst := certsTo_no (w := w) (k := i) (fun e => by omega)
        simp (config := { maxSteps := 4000000 }) only [go_sem, simprocAttr, ↓dnA, Tryz.f40, rows_length, encW, nlt h, h, nn0, rows_get _ _ _ h, encI, hd, hw]
        refine ⟨i + 1, [(1, 1), (3, 3)], by omega, by dsimp only; omega, Weak.of (by rfl) ?_ ?_ (by rfl)⟩
        · simp (config := { maxSteps := 4000000 }) only [go_sem, simprocAttr, ↓dnA, Tryz.f40, rows_length, encW, hst, frW, wk2, wk1, wkL, wkB, hpW, List.mem_cons, Prod.mk.injEq, exists_eq_left, exists_eq_right, exists_eq]
        · simp (config := { maxSteps := 4000000 }) only [go_sem, simprocAttr, ↓dnA, Tryz.f40, rows_length, hst, frW, wk2, wk1, wkL, wkB, hpW, List.mem_cons, Prod.mk.injEq, exists_eq_left, exists_eq_right, exists_eq]
      · have hd : decide ((i : Int) > 0) = true := by simp; omega
        by_cases hp : 0 < w.votes[i]
        · have hd2 : decide (w.votes[i] > 0) = true := decide_eq_true hp
          have hst := certsTo_yes (w := w) (k := i) ⟨by omega, by rw [hgi]; exact hp⟩
          have hil : i < w.tree.blocks.length := by omega
          have g1 := rows_gd encB1 w.tree.blocks i hil
          have hbl : (w.tree.blk i).list.length < 2 ^ 62 := by
            have := hx.tree.list _ (List.getElem_mem hil)
            rw [w.tree.blk_get i hil] at this
            exact this
          simp (config := { maxSteps := 4000000 }) only [go_sem, simprocAttr, ↓dnA, Tryz.f40, rows_length, encW, nlt h, h, nn0, rows_get _ _ _ h, encI, hd, hd2, nlt hil, hil, g1, encB1, encBk]
          refine semL_drawL tab_ok 9 mixed_ rfl (ord := [(0, []), (1, []), (3, []), (4, []), (5, []), (2, [0, 3, 4, 5]), (6, []), (7, [0]), (8, [])]) (by dsimp only; decide +kernel) ?_
          simp (config := { maxSteps := 4000000 }) only [go_sem, simprocAttr, ↓dnA, Tryz.f40, rows_length, encW, nlt h, h, nn0, rows_get _ _ _ h, encI, hd, hd2, nlt hil, hil, g1, encB1, encBk]
          refine CallTo.det (c_impl_BlockSum none (w.tree.blk i) hbl) fun _ => ?_
          simp (config := { maxSteps := 4000000 }) only [go_sem, simprocAttr, ↓dnA, Tryz.f40, rows_length, encW, nlt h, h, nn0, rows_get _ _ _ h, encI, hd, hd2, nlt hil, hil, g1, encB1, encBk, htk, hw]
          repeat refine And.intro (by first | omega | (simp; done) | (simp; omega) | assumption) ?_
          refine ⟨i + 1, [(1, 1), (35, 3)], by omega, by dsimp only; omega, Weak.of (by rfl) ?_ ?_ (by rfl)⟩
          · simp (config := { maxSteps := 4000000 }) only [go_sem, simprocAttr, ↓dnA, Tryz.f40, rows_length, encW, hst, frW, wk2, wk1, wkL, wkB, hpW, List.mem_cons, Prod.mk.injEq, exists_eq_left, exists_eq_right, exists_eq]
            rw [← rows_snoc]
            unfold certAt encC
            rw [hgi]
            rfl
          · simp (config := { maxSteps := 4000000 }) only [go_sem, simprocAttr, ↓dnA, Tryz.f40, rows_length, hst, List.length_append, frW, wk2, wk1, wkL, wkB, hpW, List.mem_cons, Prod.mk.injEq, exists_eq_left, exists_eq_right, exists_eq]
            try rfl
        · have hd2 : decide (w.votes[i] > 0) = false := decide_eq_false hp
          have hst := certsTo_no (w := w) (k := i) (fun e => hp (by rw [← hgi]; exact e.2))
          simp (config := { maxSteps := 4000000 }) only [go_sem, simprocAttr, ↓dnA, Tryz.f40, rows_length, encW, nlt h, h, nn0, rows_get _ _ _ h, encI, hd, hd2, hw]
          refine ⟨i + 1, [(1, 1), (3, 3)], by omega, by dsimp only; omega, Weak.of (by rfl) ?_ ?_ (by rfl)⟩
          · simp (config := { maxSteps := 4000000 }) only [go_sem, simprocAttr, ↓dnA, Tryz.f40, rows_length, encW, hst, frW, wk2, wk1, wkL, wkB, hpW, List.mem_cons, Prod.mk.injEq, exists_eq_left, exists_eq_right, exists_eq]
          · simp (config := { maxSteps := 4000000 }) only [go_sem, simprocAttr, ↓dnA, Tryz.f40, rows_length, hst, frW, wk2, wk1, wkL, wkB, hpW, List.mem_cons, Prod.mk.injEq, exists_eq_left, exists_eq_right, exists_eq]
    · have hi' : i = w.votes.length := by omega
      subst hi'
      simp (config := { maxSteps := 4000000 }) only [go_sem, simprocAttr, ↓dnA, Tryz.f40, rows_length, nlf h]

theorem c_impl_WorldCerts (n1 n2 n3 n4 n5 : Option Bool) (w : Wld) (hx : WldSz w) :
    Det Tryz.prog 20 [.agg (encW n1 n2 n3 n4 n5 w)] (.osl false 3 (rows encC (worldCerts w))) := by
  refine fspec_det tab_ok Tryz.call20 Tryz.func20 rfl 8 Tryz.ntmps20 (of_decide_eq_true rfl) fun B => codeK_sound tab_ok _ _ _ ?_
  simp (config := { maxSteps := 4000000 }) only [go_sem, simprocAttr, ↓dnA, Tryz.f20, rows_length, encW]
  refine CallTo.det (c_impl_WorldValid n1 n2 n3 n4 n5 w hx) fun _ => ?_
  cases h0 : worldValid w with
  | false => simp (config := { maxSteps := 4000000 }) only [go_sem, simprocAttr, ↓dnA, Tryz.f20, rows_length, encW, h0, worldCerts_no h0, rows_nil]
  | true =>
    simp (config := { maxSteps := 4000000 }) only [go_sem, simprocAttr, ↓dnA, Tryz.f20, rows_length, encW, h0]
    refine CallTo.det (c_impl_certs n1 n2 n3 n4 n5 w hx h0) fun _ => ?_
    simp (config := { maxSteps := 4000000 }) only [go_sem, simprocAttr, ↓dnA, Tryz.f20, rows_length, encW, h0, worldCerts_yes h0]

theorem c_spec_WorldCerts (n1 n2 n3 n4 n5 : Option Bool) (w : Wld) (hx : WldSz w) :
    Det Tryz.prog 36 [.agg (encW n1 n2 n3 n4 n5 w)] (.osl true 3 (rows encC (worldCerts w))) := by
  refine fspec_det tab_ok Tryz.call36 Tryz.func36 rfl 47 Tryz.ntmps36 (of_decide_eq_true rfl) fun B => codeK_sound tab_ok _ _ _ ?_
  have hvt := hx.votes
  cases h0 : worldValid w with
  | false =>
    rw [worldCerts_no h0]
    simp (config := { maxSteps := 4000000 }) only [go_sem, simprocAttr, ↓dnA, Tryz.f36, rows_length, encW]
    refine semL_for tab_ok (fun _ : Nat => ⟨47, [(1, .loc 1 0), (3, .row 600 0), (4, .int .i64 1)], [(1, .var (encW n1 n2 n3 n4 n5 w)), (600, .row true true 3 [])]⟩) (fun i => i) (fun _ => True) 0 [(1, 1), (5, 600)] (Weak.of (by rfl) ?_ ?_ (by rfl)) trivial ?_
    · simp (config := { maxSteps := 4000000 }) only [go_sem, simprocAttr, ↓dnA, Tryz.f36, rows_length, encW, frW, wk2, wk1, wkL, wkB, hpW, List.mem_cons, Prod.mk.injEq, exists_eq_left, exists_eq_right, exists_eq]
      try rfl
    · simp (config := { maxSteps := 4000000 }) only [go_sem, simprocAttr, ↓dnA, Tryz.f36, rows_length, frW, wk2, wk1, wkL, wkB, hpW, List.mem_cons, Prod.mk.injEq, exists_eq_left, exists_eq_right, exists_eq]
    · rintro i -
      by_cases h : (1 : Int) < (w.votes.length : Int)
      · simp (config := { maxSteps := 4000000 }) only [go_sem, simprocAttr, ↓dnA, Tryz.f36, rows_length, encW, decide_eq_true h]
        refine CallTo.det (c_spec_WorldValid n1 n2 n3 n4 n5 w hx) fun _ => ?_
        simp (config := { maxSteps := 4000000 }) only [go_sem, simprocAttr, ↓dnA, Tryz.f36, rows_length, encW, decide_eq_true h, h0, rows_nil, List.length_nil]
      · simp (config := { maxSteps := 4000000 }) only [go_sem, simprocAttr, ↓dnA, Tryz.f36, rows_length, encW, decide_eq_false h, rows_nil, List.length_nil]
  | true =>
    rw [worldCerts_yes h0]
    obtain ⟨ht, h4, hvo, hvl, hvs⟩ := worldValid_parts h0
    have hlen := ht.len
    have hc1 : certsTo w 1 = [] := certsTo_no (w := w) (k := 0) (fun e => by omega)
    simp (config := { maxSteps := 4000000 }) only [go_sem, simprocAttr, ↓dnA, Tryz.f36, rows_length, encW]
    refine semL_for tab_ok (fun i : Nat => ⟨47, [(1, .loc 1 0), (3, .row 600 (certsTo w i).length), (4, .int .i64 i)],
        [(1, .var (encW n1 n2 n3 n4 n5 w)), (600, .row true true 3 (rows encC (certsTo w i)))]⟩) (fun i => w.votes.length - i)
      (fun i => 1 ≤ i ∧ i ≤ w.votes.length) 1 [(1, 1), (5, 600)] (Weak.of (by rfl) ?_ ?_ (by rfl)) (by omega) ?_
    · simp (config := { maxSteps := 4000000 }) only [go_sem, simprocAttr, ↓dnA, Tryz.f36, rows_length, encW, hc1, frW, wk2, wk1, wkL, wkB, hpW, List.mem_cons, Prod.mk.injEq, exists_eq_left, exists_eq_right, exists_eq]
      try rfl
    · simp (config := { maxSteps := 4000000 }) only [go_sem, simprocAttr, ↓dnA, Tryz.f36, rows_length, hc1, List.length_nil, frW, wk2, wk1, wkL, wkB, hpW, List.mem_cons, Prod.mk.injEq, exists_eq_left, exists_eq_right, exists_eq]
      try rfl
    · rintro i ⟨hi1, hi⟩
      by_cases h : i < w.votes.length
      · have hw : IntKind.i64.wrap ((i : Int) + 1) = ((i + 1 : Nat) : Int) := wsucc h (by omega)
        have hgi : w.votes.getD i 0 = w.votes[i] := by rw [List.getD_eq_getElem?_getD, List.getElem?_eq_getElem h]; rfl
        have hac := certsTo_len w i
        have htk := take_rows encC (certsTo w i) (certsTo w i).length rfl
        have hd0 : decide ((i : Int) < (w.votes.length : Int)) = true := by simp; omega
        simp (config := { maxSteps := 4000000 }) only [go_sem, simprocAttr, ↓dnA, Tryz.f36, rows_length, encW, hd0]
        refine CallTo.det (c_spec_WorldValid n1 n2 n3 n4 n5 w hx) fun _ => ?_
        by_cases hp : 0 < w.votes[i]
        · have hd2 : decide (w.votes[i] > 0) = true := decide_eq_true hp
          have hst := certsTo_yes (w := w) (k := i) ⟨by omega, by rw [hgi]; exact hp⟩
          have hil : i < w.tree.blocks.length := by omega
          have g1 := rows_gd encB1 w.tree.blocks i hil
          have hbl : (w.tree.blk i).list.length < 2 ^ 62 := by
            have := hx.tree.list _ (List.getElem_mem hil)
            rw [w.tree.blk_get i hil] at this
            exact this
          simp (config := { maxSteps := 4000000 }) only [go_sem, simprocAttr, ↓dnA, Tryz.f36, rows_length, encW, hd0, h0, nlt h, h, nn0, rows_get _ _ _ h, encI, hd2]
          refine semL_drawL tab_ok 23 mixed_ rfl (ord := [(0, []), (1, []), (2, []), (3, []), (4, []), (5, []), (6, []), (8, []), (9, []), (10, []), (11, []), (12, []), (13, []), (14, []), (15, []), (16, []), (17, []), (18, []), (19, []), (7, [0, 8, 9, 10, 11, 12, 13, 14, 15, 16, 17, 18, 19]), (20, []), (21, [0]), (22, [])]) (by dsimp only; decide +kernel) ?_
          simp (config := { maxSteps := 4000000 }) only [go_sem, simprocAttr, ↓dnA, Tryz.f36, rows_length, encW, hd0, h0, nlt h, h, nn0, rows_get _ _ _ h, encI, hd2, nlt hil, hil, g1, encB1, encBk]
          refine CallTo.det (c_spec_BlockSum none (w.tree.blk i) hbl) fun _ => ?_
          simp (config := { maxSteps := 4000000 }) only [go_sem, simprocAttr, ↓dnA, Tryz.f36, rows_length, encW, hd0, h0, nlt h, h, nn0, rows_get _ _ _ h, encI, hd2, nlt hil, hil, g1, encB1, encBk, htk, hw]
          repeat refine And.intro (by first | omega | (simp; done) | (simp; omega) | assumption) ?_
          refine ⟨i + 1, [(1, 1), (45, 600)], by omega, by dsimp only; omega, Weak.of (by rfl) ?_ ?_ (by rfl)⟩
          · simp (config := { maxSteps := 4000000 }) only [go_sem, simprocAttr, ↓dnA, Tryz.f36, rows_length, encW, hst, frW, wk2, wk1, wkL, wkB, hpW, List.mem_cons, Prod.mk.injEq, exists_eq_left, exists_eq_right, exists_eq]
            rw [← rows_snoc]
            unfold certAt encC
            rw [hgi]
            rfl
          · simp (config := { maxSteps := 4000000 }) only [go_sem, simprocAttr, ↓dnA, Tryz.f36, rows_length, hst, List.length_append, frW, wk2, wk1, wkL, wkB, hpW, List.mem_cons, Prod.mk.injEq, exists_eq_left, exists_eq_right, exists_eq]
            try rfl
        · have hd2 : decide (w.votes[i] > 0) = false := decide_eq_false hp
          have hst := certsTo_no (w := w) (k := i) (fun e => hp (by rw [← hgi]; exact e.2))
          simp (config := { maxSteps := 4000000 }) only [go_sem, simprocAttr, ↓dnA, Tryz.f36, rows_length, encW, hd0, h0, nlt h, h, nn0, rows_get _ _ _ h, encI, hd2, hw]
          refine ⟨i + 1, [(1, 1), (600, 600)], by omega, by dsimp only; omega, Weak.of (by rfl) ?_ ?_ (by rfl)⟩
          · simp (config := { maxSteps := 4000000 }) only [go_sem, simprocAttr, ↓dnA, Tryz.f36, rows_length, encW, hst, frW, wk2, wk1, wkL, wkB, hpW, List.mem_cons, Prod.mk.injEq, exists_eq_left, exists_eq_right, exists_eq]
          · simp (config := { maxSteps := 4000000 }) only [go_sem, simprocAttr, ↓dnA, Tryz.f36, rows_length, hst, frW, wk2, wk1, wkL, wkB, hpW, List.mem_cons, Prod.mk.injEq, exists_eq_left, exists_eq_right, exists_eq]
      · have hi' : i = w.votes.length := by omega
        subst hi'
        have hd0 : decide ((w.votes.length : Int) < (w.votes.length : Int)) = false := by simp
        simp (config := { maxSteps := 4000000 }) only [go_sem, simprocAttr, ↓dnA, Tryz.f36, rows_length, encW, hd0]

theorem worldHead_yes {w : Wld} (h : worldValid w = true) : worldHead w = headW w := by unfold worldHead; rw [if_pos h]
theorem worldHead_no {w : Wld} (h : worldValid w = false) : worldHead w = -1 := by unfold worldHead; rw [h]; rfl

theorem c_impl_head (n1 n2 n3 n4 n5 : Option Bool) (w : Wld) (hx : WldSz w) (hv : worldValid w = true) :
    Det Tryz.prog 35 [.agg (encW n1 n2 n3 n4 n5 w)] (.int .i64 (headW w)) := by
  refine fspec_det tab_ok Tryz.call35 Tryz.func35 rfl 8 Tryz.ntmps35 (of_decide_eq_true rfl) fun B => codeK_sound tab_ok _ _ _ ?_
  have hcl := certsTo_len w w.votes.length
  have hvt := hx.votes
  unfold headW
  simp (config := { maxSteps := 4000000 }) only [go_sem, simprocAttr, ↓dnA, Tryz.f35, rows_length, encW]
  refine semL_draw tab_ok mixed_ rfl (ord := [(0, []), (1, []), (2, []), (3, [0, 1]), (4, []), (5, [])]) (by dsimp only; decide +kernel) ?_
  simp (config := { maxSteps := 4000000 }) only [go_sem, simprocAttr, ↓dnA, Tryz.f35, rows_length, encW]
  refine CallTo.det (c_impl_certs n1 n2 n3 n4 n5 w hx hv) fun _ => ?_
  simp (config := { maxSteps := 4000000 }) only [go_sem, simprocAttr, ↓dnA, Tryz.f35, rows_length, encW]
  refine CallTo.det (c_impl_CommittedTo n1 n2 n3 none w.tree (certsTo w w.votes.length) hx.tree) fun _ => ?_
  simp (config := { maxSteps := 4000000 }) only [go_sem, simprocAttr, ↓dnA, Tryz.f35, rows_length, encW]

theorem c_impl_WorldHead (n1 n2 n3 n4 n5 : Option Bool) (w : Wld) (hx : WldSz w) :
    Det Tryz.prog 17 [.agg (encW n1 n2 n3 n4 n5 w)] (.int .i64 (worldHead w)) := by
  refine fspec_det tab_ok Tryz.call17 Tryz.func17 rfl 8 Tryz.ntmps17 (of_decide_eq_true rfl) fun B => codeK_sound tab_ok _ _ _ ?_
  simp (config := { maxSteps := 4000000 }) only [go_sem, simprocAttr, ↓dnA, Tryz.f17, rows_length, encW]
  refine CallTo.det (c_impl_WorldValid n1 n2 n3 n4 n5 w hx) fun _ => ?_
  cases h0 : worldValid w with
  | false => simp (config := { maxSteps := 4000000 }) only [go_sem, simprocAttr, ↓dnA, Tryz.f17, rows_length, encW, h0, worldHead_no h0]
  | true =>
    simp (config := { maxSteps := 4000000 }) only [go_sem, simprocAttr, ↓dnA, Tryz.f17, rows_length, encW, h0]
    refine CallTo.det (c_impl_head n1 n2 n3 n4 n5 w hx h0) fun _ => ?_
    simp (config := { maxSteps := 4000000 }) only [go_sem, simprocAttr, ↓dnA, Tryz.f17, rows_length, encW, h0, worldHead_yes h0]

theorem c_spec_WorldHead (n1 n2 n3 n4 n5 : Option Bool) (w : Wld) (hx : WldSz w) :
    Det Tryz.prog 18 [.agg (encW n1 n2 n3 n4 n5 w)] (.int .i64 (worldHead w)) := by
  refine fspec_det tab_ok Tryz.call18 Tryz.func18 rfl 11 Tryz.ntmps18 (of_decide_eq_true rfl) fun B => codeK_sound tab_ok _ _ _ ?_
  have hcl := worldCerts_len w
  have hvt := hx.votes
  simp (config := { maxSteps := 4000000 }) only [go_sem, simprocAttr, ↓dnA, Tryz.f18, rows_length, encW]
  refine CallTo.det (c_spec_WorldValid n1 n2 n3 n4 n5 w hx) fun _ => ?_
  cases h0 : worldValid w with
  | false => simp (config := { maxSteps := 4000000 }) only [go_sem, simprocAttr, ↓dnA, Tryz.f18, rows_length, encW, h0, worldHead_no h0]
  | true =>
    have hh : worldHead w = committedTo w.tree (worldCerts w) := by rw [worldHead_yes h0, worldCerts_yes h0]; rfl
    rw [hh]
    simp (config := { maxSteps := 4000000 }) only [go_sem, simprocAttr, ↓dnA, Tryz.f18, rows_length, encW, h0]
    refine semL_draw tab_ok mixed_ rfl (ord := [(0, []), (1, []), (2, []), (3, [0, 1]), (4, []), (5, [])]) (by dsimp only; decide +kernel) ?_
    simp (config := { maxSteps := 4000000 }) only [go_sem, simprocAttr, ↓dnA, Tryz.f18, rows_length, encW, h0]
    refine CallTo.det (c_spec_WorldCerts n1 n2 n3 n4 n5 w hx) fun _ => ?_
    simp (config := { maxSteps := 4000000 }) only [go_sem, simprocAttr, ↓dnA, Tryz.f18, rows_length, encW, h0]
    refine CallTo.det (c_spec_CommittedTo n1 n2 n3 (some true) w.tree (worldCerts w) hx.tree) fun _ => ?_
    simp (config := { maxSteps := 4000000 }) only [go_sem, simprocAttr, ↓dnA, Tryz.f18, rows_length, encW, h0]

end Go.Proofs.YtehbgjikmchaoaaGreat

/- Bounds of sums; next blocks are valid; trees that grow stay valid: plain lemmas. -/
set_option linter.unusedSimpArgs false
set_option linter.unusedVariables false
set_option maxRecDepth 20000
set_option maxHeartbeats 4000000
namespace Go.Proofs.YtehbgjikmchaoaaGreat
open Go Go.RowKit

end Go.Proofs.YtehbgjikmchaoaaGreat

/- Plain laws of certificates and worlds. -/
set_option linter.unusedSimpArgs false
set_option linter.unusedVariables false
set_option maxRecDepth 20000
set_option maxHeartbeats 4000000
namespace Go.Proofs.YtehbgjikmchaoaaGreat
open Go Go.RowKit

/-- What one list marks the other marks too. -/
structure LeB (l m : List Bool) : Prop where
  len : l.length = m.length
  le : ∀ k, l.getD k false = true → m.getD k false = true
theorem LeB.refl (l : List Bool) : LeB l l := ⟨rfl, fun _ h => h⟩
theorem LeB.trans {a b c : List Bool} (h : LeB a b) (g : LeB b c) : LeB a c := ⟨h.len.trans g.len, fun k hk => g.le k (h.le k hk)⟩
theorem getD_set_true (l : List Bool) (i k : Nat) (h : l.getD k false = true) : (l.set i true).getD k false = true := by
  rw [List.getD_eq_getElem?_getD] at h ⊢
  rw [List.getElem?_set]
  split
  · rename_i e
    subst e
    split
    · rfl
    · rename_i e2
      rw [List.getElem?_eq_none (by omega)] at h
      cases h
  · exact h
end Go.Proofs.YtehbgjikmchaoaaGreat

/- Members that keep to the rules: what is committed stays on one way: plain. -/
set_option linter.unusedSimpArgs false
set_option linter.unusedVariables false
set_option maxRecDepth 20000
set_option maxHeartbeats 4000000
namespace Go.Proofs.YtehbgjikmchaoaaGreat
open Go Go.RowKit

def vt (w : Wld) (k : Nat) : Int := w.votes.getD k 0
def cw (w : Wld) (k : Nat) : Bool := k == 0 || decide (many (vt w k) ≥ 3)
/-- What is certified stays certified. -/
structure Later (w w' : Wld) : Prop where
  tree : w'.tree = w.tree
  cert : ∀ k, cw w k = true → cw w' k = true
  bits : ∀ k q, q < 4 → hasB (vt w k) q = true → hasB (vt w' k) q = true
theorem Later.refl (w : Wld) : Later w w := ⟨rfl, fun _ h => h, fun _ _ _ h => h⟩
theorem Later.trans {a b c : Wld} (h : Later a b) (g : Later b c) : Later a c := ⟨g.tree.trans h.tree, fun k hk => g.cert k (h.cert k hk), fun k q hq hk => g.bits k q hq (h.bits k q hq hk)⟩
theorem mem_back_self {t : Tree} (ht : TreeOk t) {k : Nat} (h : k < t.blocks.length) : (k : Int) ∈ back t (k : Int) := by
  rw [(back_cons ht k h).1]; exact List.mem_cons_self ..
/-! What the certificates of a world certify. -/
/-! Heads. -/
theorem isBefore_of {t : Tree} (ht : TreeOk t) {a b : Nat} (hb : b < t.blocks.length) (h : (a : Int) ∈ back t (b : Int)) : isBefore t (a : Int) (b : Int) = true := by
  unfold isBefore
  rw [pathTo_in (treeValid_true ht) (by omega) (by omega)]
  rw [List.any_eq_true]
  exact ⟨(a : Int), by unfold pathL; exact List.mem_reverse.2 h, by simp⟩

theorem bestF_facts (t : Tree) : ∀ (l : List Int) (b : Int), (bestF t l b = b ∨ bestF t l b ∈ l) ∧ (t.blk b.toNat).view ≤ (t.blk (bestF t l b).toNat).view ∧ ∀ x, x ∈ l → (t.blk x.toNat).view ≤ (t.blk (bestF t l b).toNat).view
  | [], b => ⟨.inl rfl, Int.le_refl _, fun x h => by cases h⟩
  | x :: r, b => by
    unfold bestF
    obtain ⟨h1, h2, h3⟩ := bestF_facts t r (if (t.blk x.toNat).view > (t.blk b.toNat).view then x else b)
    by_cases hg : (t.blk x.toNat).view > (t.blk b.toNat).view
    · rw [if_pos hg] at h1 h2 h3 ⊢
      refine ⟨.inr ?_, by omega, fun y hy => ?_⟩
      · rcases h1 with h1 | h1
        · rw [h1]; exact List.mem_cons_self ..
        · exact List.mem_cons_of_mem _ h1
      · rcases List.mem_cons.1 hy with rfl | hy
        · exact h2
        · exact h3 y hy
    · rw [if_neg hg] at h1 h2 h3 ⊢
      refine ⟨?_, h2, fun y hy => ?_⟩
      · rcases h1 with h1 | h1
        · exact .inl h1
        · exact .inr (List.mem_cons_of_mem _ h1)
      · rcases List.mem_cons.1 hy with rfl | hy
        · omega
        · exact h3 y hy

end Go.Proofs.YtehbgjikmchaoaaGreat

/- FnCommittedTo. -/
set_option linter.unusedSimpArgs false
set_option linter.unusedVariables false
set_option maxRecDepth 20000
set_option maxHeartbeats 4000000
namespace Go.Proofs.YtehbgjikmchaoaaGreat
open Go Go.RowKit

theorem c_spec_DrawCommittedTo (nb : Option Bool) (bs : List Int) (h : CodeOk bs) : FSpec Tryz.prog 6 [.sl nb (rows encB bs)] false [] DrawCsQ := by
  refine fspec_rel tab_ok Tryz.call6 Tryz.func6 rfl 8 Tryz.ntmps6 (of_decide_eq_true rfl) fun B => codeK_sound tab_ok _ _ _ ?_
  simp (config := { maxSteps := 4000000 }) only [go_sem, simprocAttr, ↓dnA, Tryz.f6, rows_length]
  refine CallTo.of (c_spec_DrawCertifiedBlocks nb bs h) ?_
  rintro r b ⟨t, cs, rfl, h1, h2, h3, h4⟩
  simp (config := { maxSteps := 4000000 }) only [go_sem, simprocAttr, ↓dnA, Tryz.f6, rows_length, encT]
  exact .same ⟨t, cs, by simp [encT], h1, h2, h3, h4⟩

theorem c_spec_DrawCommitsAgree (nb : Option Bool) (bs : List Int) (h : CodeOk bs) : FSpec Tryz.prog 12 [.sl nb (rows encB bs)] false [] DrawCsQ := by
  refine fspec_rel tab_ok Tryz.call12 Tryz.func12 rfl 8 Tryz.ntmps12 (of_decide_eq_true rfl) fun B => codeK_sound tab_ok _ _ _ ?_
  simp (config := { maxSteps := 4000000 }) only [go_sem, simprocAttr, ↓dnA, Tryz.f12, rows_length]
  refine CallTo.of (c_spec_DrawCertifiedBlocks nb bs h) ?_
  rintro r b ⟨t, cs, rfl, h1, h2, h3, h4⟩
  simp (config := { maxSteps := 4000000 }) only [go_sem, simprocAttr, ↓dnA, Tryz.f12, rows_length, encT]
  exact .same ⟨t, cs, by simp [encT], h1, h2, h3, h4⟩

/-- All heads are on the way to the one with the greatest view. -/
theorem agree_best {t : Tree} {l : List Int} (ht : TreeOk t) (ha : AgreeAll t l) (hl : ∀ x, x ∈ l → 0 ≤ x ∧ x < t.blocks.length) : ∀ k (h : k < l.length), isBefore t l[k] (bestF t l 0) = true := by
  intro k hk
  obtain ⟨b1, b2, b3⟩ := bestF_facts t l 0
  have hmem : l[k] ∈ l := List.getElem_mem hk
  have hkb := hl _ hmem
  obtain ⟨x, hx⟩ : ∃ x : Nat, l[k] = (x : Int) := ⟨l[k].toNat, by omega⟩
  have h0 := ht.len
  have self : ∀ y : Nat, y < t.blocks.length → isBefore t (y : Int) (y : Int) = true := fun y hy => isBefore_of ht hy (mem_back_self ht hy)
  -- a block on the way to another one has a view that is not greater
  have mono : ∀ (m e : Nat), e < m → e < t.blocks.length → ∀ a : Nat, (a : Int) ∈ back t (e : Int) → a = e ∨ (t.blk a).view < (t.blk e).view := by
    intro m
    induction m with
    | zero => intro e h; omega
    | succ m ih =>
      intro e he hel a ha
      obtain ⟨g1, g2, g3⟩ := back_cons ht e hel
      rw [g1] at ha
      rcases List.mem_cons.1 ha with ha | ha
      · exact .inl (by omega)
      · rcases g3 with g3 | g3
        · rw [g3, back_neg _ _ (by omega)] at ha; cases ha
        · obtain ⟨j, hj⟩ : ∃ j : Nat, t.bef e = (j : Int) := ⟨(t.bef e).toNat, by omega⟩
          rw [hj] at ha g2
          have he0 : 0 < e := by
            rcases Nat.eq_zero_or_pos e with rfl | h
            · rw [ht.bef0] at hj; omega
            · exact h
          have hv := (ht.link e he0 hel).view
          rw [hj, Int.toNat_natCast] at hv
          rcases ih j (by omega) (by omega) a ha with rfl | h
          · exact .inr hv
          · exact .inr (by omega)
  have before_mem : ∀ {a e : Nat}, e < t.blocks.length → isBefore t (a : Int) (e : Int) = true → (a : Int) ∈ back t (e : Int) := by
    intro a e he h
    unfold isBefore at h
    rw [pathTo_in (treeValid_true ht) (by omega) (by omega), List.any_eq_true] at h
    obtain ⟨y, hy, e2⟩ := h
    rw [beq_iff_eq] at e2
    subst e2
    unfold pathL at hy
    exact List.mem_reverse.1 hy
  rw [hx] at hkb ⊢
  rcases b1 with b1 | b1
  · -- the best one is the first block: then the head is the first block too
    rw [b1]
    have hle := b3 _ hmem
    rw [b1, hx, Int.toNat_natCast] at hle
    rcases Nat.eq_zero_or_pos x with rfl | hx0
    · exact self 0 (by omega)
    · have := view0_lt ht (x + 1) x (by omega) hx0 (by omega)
      rw [show (0 : Int).toNat = 0 from rfl] at hle
      omega
  · have hbb := hl _ b1
    obtain ⟨y, hy⟩ : ∃ y : Nat, bestF t l 0 = (y : Int) := ⟨(bestF t l 0).toNat, by omega⟩
    have hle := b3 _ hmem
    rw [hy] at b1 hbb hle ⊢
    rw [hx, Int.toNat_natCast, Int.toNat_natCast] at hle
    obtain ⟨j, hj, ej⟩ := List.getElem_of_mem b1
    have gk : l.getD k 0 = (x : Int) := by rw [← hx]; simp [List.getD_eq_getElem?_getD, hk]
    have gj : l.getD j 0 = (y : Int) := by rw [← ej]; simp [List.getD_eq_getElem?_getD, hj]
    have hag : agreeB t (x : Int) (y : Int) = true := by
      rcases Nat.lt_trichotomy j k with h | h | h
      · have := ha k j h hk
        rwa [gk, gj] at this
      · subst h
        rw [gk] at gj
        unfold agreeB
        rw [gj, Bool.or_eq_true]
        exact .inl (by have := self y (by omega); exact this)
      · have := ha j k h hj
        rw [gk, gj] at this
        rw [agreeB_symm]; exact this
    unfold agreeB at hag
    rw [Bool.or_eq_true] at hag
    rcases hag with h | h
    · exact h
    · rcases mono (x + 1) x (by omega) (by omega) y (before_mem (by omega) h) with rfl | h2
      · exact self _ (by omega)
      · omega

end Go.Proofs.YtehbgjikmchaoaaGreat

/- Arguments of the laws, by their types. -/
set_option linter.unusedSimpArgs false
namespace Go.Proofs.YtehbgjikmchaoaaGreat
open Go Go.ChangeShapes Go.WideShapes Go.ChangeAt Go.RowKit

theorem own_ : ownKnob Tryz.prog.godebug = none := by kernel_rfl
theorem laidOut_ : laidOutB Tryz.prog = true := by kernel_rfl

/-- The cells of one value read as the cells of a datum. -/
def Leqs (r c : List AV) : Prop := r.length = c.length ∧ ∀ (j : Nat) (_ : j < c.length), Leq (r.getD j .top) (c.getD j .top)
theorem Leqs.refl (c : List AV) : Leqs c c := ⟨rfl, fun _ _ => Leq.refl _⟩
theorem Leqs.agg {r c : List AV} (h : Leqs r c) : Leq (.agg r) (.agg c) := Leq.agg h.1 h.2

theorem Leqs.cons {a b : AV} {r c : List AV} (h : Leq a b) (h' : Leqs r c) : Leqs (a :: r) (b :: c) := by
  refine ⟨by simp [h'.1], fun j hj => ?_⟩
  cases j with
  | zero => exact h
  | succ j => exact h'.2 j (by simpa using hj)

theorem Leqs.one {r : List AV} {b : AV} (h : Leqs r [b]) : ∃ a, r = [a] ∧ Leq a b := by
  obtain ⟨h1, h2⟩ := h
  match r, h1 with
  | [a], _ => exact ⟨a, rfl, h2 0 (by simp)⟩

end Go.Proofs.YtehbgjikmchaoaaGreat

/- Arguments of the laws, by their types: slices of entries, of actions. -/
set_option linter.unusedSimpArgs false
namespace Go.Proofs.YtehbgjikmchaoaaGreat
open Go Go.RowKit

end Go.Proofs.YtehbgjikmchaoaaGreat

/- Arguments of the laws, by their types: blocks. -/
set_option linter.unusedSimpArgs false
namespace Go.Proofs.YtehbgjikmchaoaaGreat
open Go Go.RowKit

end Go.Proofs.YtehbgjikmchaoaaGreat

/- Arguments of the laws, by their types: codes. -/
set_option linter.unusedSimpArgs false
namespace Go.Proofs.YtehbgjikmchaoaaGreat
open Go Go.RowKit

/-- A slice of elements that read as data. -/
theorem ty_rowsC {α : Type} (e : α → List AV) {et : TypeId} {es : List (List AV)} (h : ∀ (j : Nat) (_ : j < es.length), Ty tab et (es.getD j [])) (hx : ∀ r, Ty tab et r → ∃ x, r.length = (e x).length ∧ ∀ (j : Nat) (_ : j < (e x).length), Leq (r.getD j .top) ((e x).getD j .top)) :
    ∃ xs : List α, es.length = xs.length ∧ ∀ nn, Leq (.sl nn es) (.sl nn (rows e xs)) := by
  have key : ∃ xs : List α, es.length = xs.length ∧ ∀ (i : Nat) (hi : i < xs.length), (es.getD i []).length = (e (xs[i]'hi)).length ∧ ∀ (j : Nat) (_ : j < (e (xs[i]'hi)).length), Leq ((es.getD i []).getD j .top) ((e (xs[i]'hi)).getD j .top) := by
    induction es with
    | nil => exact ⟨[], rfl, fun i hi => absurd hi (by simp)⟩
    | cons r rs ih =>
      obtain ⟨x, hx1, hx2⟩ := hx r (h 0 (by simp))
      obtain ⟨xs, h1, h2⟩ := ih (fun j hj => h (j + 1) (by simpa using hj))
      refine ⟨x :: xs, by simp [h1], fun i hi => ?_⟩
      cases i with
      | zero => exact ⟨hx1, hx2⟩
      | succ i => exact h2 i (by simpa using hi)
  obtain ⟨xs, h1, h2⟩ := key
  refine ⟨xs, h1, fun nn => Leq.sl (by rw [rows_length, h1]) (fun i hi => ?_) (fun i j hi hj => ?_)⟩
  · rw [rows_length] at hi
    rw [rows_get _ _ _ hi]
    exact (h2 i hi).1
  · rw [rows_length] at hi
    rw [rows_get _ _ _ hi] at hj ⊢
    exact (h2 i hi).2 j hj

theorem ty_code {a : AV} (h : TyArg tab 22 a) : ∃ nb bs, Leq a (.sl nb (rows encB bs)) ∧ ∀ b, b ∈ bs → 0 ≤ b ∧ b ≤ 255 := by
  obtain ⟨nn, es, e1, _, _, he⟩ := (h.one_inv tabAt_22 rfl).slice_inv tabAt_22 rfl
  have hx : ∀ r, Ty tab 5 r → ∃ x : { n : Int // 0 ≤ n ∧ n ≤ 255 }, r.length = (encB x.1).length ∧ ∀ (j : Nat) (_ : j < (encB x.1).length), Leq (r.getD j .top) ((encB x.1).getD j .top) := by
    intro r hr
    obtain ⟨n, e, hn⟩ := hr.int_inv tabAt_5 rfl
    have hn' : 0 ≤ n ∧ n ≤ 255 := hn
    exact ⟨⟨n, hn'⟩, by rw [e]; rfl, fun j _ => by rw [e]; exact Leq.refl _⟩
  obtain ⟨xs, h1, h2⟩ := ty_rowsC (fun x : { n : Int // 0 ≤ n ∧ n ≤ 255 } => encB x.1) he hx
  have ea : a = .sl (some nn) es := by simpa using e1
  refine ⟨some nn, xs.map (·.1), ?_, fun b hb => ?_⟩
  · rw [ea]
    have := h2 (some nn)
    have e3 : rows (fun x : { n : Int // 0 ≤ n ∧ n ≤ 255 } => encB x.1) xs = rows encB (xs.map (·.1)) := by simp [rows]
    rwa [e3] at this
  · obtain ⟨x, _, rfl⟩ := List.mem_map.1 hb
    exact x.2

/-- A law of a code. -/
theorem law_code {k : FuncId} (h : ∀ nb bs, (∀ b, b ∈ bs → 0 ≤ b ∧ b ≤ 255) → Det Tryz.prog k [.sl nb (rows encB bs)] (.bool true)) {cs : List AV} (hc : TyArgs tab [22] cs) : Det Tryz.prog k cs (.bool true) := by
  match cs, hc with
  | [a], hc =>
    obtain ⟨nb, bs, h1, h2⟩ := ty_code hc.1
    refine FSpec.args (h nb bs h2) rfl fun i hi => ?_
    have : i = 0 := by simp at hi; exact hi
    subst this
    exact h1

end Go.Proofs.YtehbgjikmchaoaaGreat

