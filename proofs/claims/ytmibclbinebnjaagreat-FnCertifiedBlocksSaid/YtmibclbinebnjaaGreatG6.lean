/- Shared texts G (part 6): W115, W27, W30, W31, W67, W70, W74, W77, W78, W79, W113, W72, W80, W73, W98, W65, W105, W120, W119, Ty1, Ty4, Ty5, Ty6, C0 -/
import Derived.Test.YtmibclbinebnjaaGreatRows
import Derived.ProofKit
import Derived.Test.YtmibclbinebnjaaGreatG5

set_option linter.unusedSimpArgs false
set_option linter.unusedVariables false

/- Contracts: drawn lists of certificates; FnCertifiedBlocks. -/
set_option linter.unusedSimpArgs false
set_option linter.unusedVariables false
set_option maxRecDepth 20000
set_option maxHeartbeats 4000000
namespace Go.Proofs.YtmibclbinebnjaaGreat
open Go Go.RowKit

def CertsQ (nb : Option Bool) (bs : List Int) (p : Int) (r : AV) (b : List AV) : Prop := ∃ (cs : List Cert) (q : Int), r = .osl true 3 (rows encC cs) ∧ b = rd nb bs q ∧ p ≤ q ∧ q ≤ p + 200 ∧ cs.length ≤ 40

theorem c_spec_l20Certs (nb : Option Bool) (bs : List Int) (p : Int) (n1 n2 n3 : Option Bool) (t : Tree) (h : RdOk bs p) (hp : p ≤ 999998000) (hts : tsz t ≤ 300) (hl1 : 1 ≤ t.blocks.length) (hl2 : t.blocks.length ≤ 14) :
    FSpec Tryz.prog 110 [.loc 0 0, .agg (encT n1 n2 n3 t)] true (rd nb bs p) (CertsQ nb bs p) := by
  refine fspec_rel tab_ok Tryz.call110 Tryz.func110 rfl 53 Tryz.ntmps110 (of_decide_eq_true rfl) fun B => codeK_sound tab_ok _ _ _ ?_
  unfold rd
  simp (config := { maxSteps := 4000000 }) only [go_sem, simprocAttr, ↓dnA, Tryz.f110, rows_length, tn0, tn1, tn2, tn3, tn4, encT]
  refine semL_for tab_ok (fun s : List Cert × Nat × Int => ⟨53, [(0, .loc 900 0), (3, .loc 3 0), (4, .sl (some false) []), (5, .row 600 s.1.length), (6, .int .i64 s.2.1)],
      [(900, .var (rd nb bs s.2.2)), (3, .var (encT n1 n2 n3 t)), (600, .row true true 3 (rows encC s.1))]⟩) (fun s => t.blocks.length - s.2.1)
    (fun s => s.2.1 ≤ t.blocks.length ∧ s.1.length ≤ s.2.1 ∧ p ≤ s.2.2 ∧ s.2.2 ≤ p + 2 * s.2.1) ([], 1, p) [(900, 900), (3, 3), (7, 600)] (Weak.of (by rfl) ?_ ?_ (by rfl)) ⟨by dsimp only; omega, by dsimp only; simp, by dsimp only; omega, by dsimp only; omega⟩ ?_
  · simp (config := { maxSteps := 4000000 }) only [go_sem, simprocAttr, ↓dnA, Tryz.f110, rows_length, tn0, tn1, tn2, tn3, tn4, rd, encT, frW, wk2, wk1, wkL, wkB, hpW, List.mem_cons, Prod.mk.injEq, exists_eq_left, exists_eq_right, exists_eq]
    try rfl
  · simp (config := { maxSteps := 4000000 }) only [go_sem, simprocAttr, ↓dnA, Tryz.f110, rows_length, tn0, tn1, tn2, tn3, tn4, rd, List.length_nil, frW, wk2, wk1, wkL, wkB, hpW, List.mem_cons, Prod.mk.injEq, exists_eq_left, exists_eq_right, exists_eq]
    try rfl
  · rintro ⟨cs, i, q⟩ ⟨i1, i2, i3, i4⟩
    dsimp only at i1 i2 i3 i4 ⊢
    have hq := h.step (q := q) (by omega) (by omega)
    have htk : (rows encC cs).take cs.length = rows encC cs := by rw [List.take_of_length_le]; rw [rows_length]; omega
    by_cases hi : i < t.blocks.length
    · have hw : IntKind.i64.wrap ((i : Int) + 1) = ((i + 1 : Nat) : Int) := wsucc hi (by omega)
      have hbk : (rows encB1 t.blocks).getD i [] = encB1 (t.blk i) := rows_gd encB1 t.blocks i hi
      have hkl : (t.blk i).list.length ≤ 300 := by
        have := lsum_mem t.blocks (t.blk i) (by rw [← t.blk_get i hi]; exact List.getElem_mem hi)
        unfold tsz at hts; omega
      generalize t.blk i = x at hbk hkl
      have hB := c_spec_BlockSum none x (by omega)
      generalize blockSum x = sm at hB
      simp (config := { maxSteps := 4000000 }) only [go_sem, simprocAttr, ↓dnA, Tryz.f110, rows_length, tn0, tn1, tn2, tn3, tn4, rd, encT, nlt hi]
      refine CallTo.of (c_spec_pick nb bs q 6 hq) ?_
      rintro r b ⟨z, rfl, rfl, hz⟩
      have hr1 := h.step (q := q + 1) (by omega) (by omega)
      cases hz0 : decide (z > 0) with
      | false =>
        simp (config := { maxSteps := 4000000 }) only [go_sem, simprocAttr, ↓dnA, Tryz.f110, rows_length, tn0, tn1, tn2, tn3, tn4, rd, encT, nlt hi, hz0, hw]
        refine ⟨(cs, i + 1, q + 1), [(900, 900), (3, 3), (600, 600)], ⟨by dsimp only; omega, by dsimp only; omega, by dsimp only; omega, by dsimp only; omega⟩, by dsimp only; omega, Weak.of (by rfl) ?_ ?_ (by rfl)⟩
        · simp (config := { maxSteps := 4000000 }) only [go_sem, simprocAttr, ↓dnA, Tryz.f110, rows_length, tn0, tn1, tn2, tn3, tn4, rd, encT, frW, wk2, wk1, wkL, wkB, hpW, List.mem_cons, Prod.mk.injEq, exists_eq_left, exists_eq_right, exists_eq]
          try rfl
        · simp (config := { maxSteps := 4000000 }) only [go_sem, simprocAttr, ↓dnA, Tryz.f110, rows_length, tn0, tn1, tn2, tn3, tn4, rd, frW, wk2, wk1, wkL, wkB, hpW, List.mem_cons, Prod.mk.injEq, exists_eq_left, exists_eq_right, exists_eq]
          try rfl
      | true =>
        simp (config := { maxSteps := 4000000 }) only [go_sem, simprocAttr, ↓dnA, Tryz.f110, rows_length, tn0, tn1, tn2, tn3, tn4, rd, encT, nlt hi, hz0, hw]
        refine semL_slotsL tab_ok 15 [6, 17] 23 mixed_ rfl (by decide) (os := [([0, 1, 2, 3, 4, 5, 15, 16, 6, 7, 8, 9, 10, 11, 12, 14, 13, 17, 18, 19, 20, 21, 22], [(0, []), (1, []), (2, []), (3, []), (4, []), (5, []), (8, []), (9, []), (10, []), (11, []), (12, []), (13, []), (14, []), (16, []), (15, [0, 1, 2, 3, 4, 5, 8, 9, 10, 11, 12, 13, 14, 16]), (6, [0, 8, 9, 10, 11, 12, 13, 14, 16]), (7, []), (17, [0, 8, 9, 10, 11, 12, 13, 14, 7]), (18, []), (19, []), (20, []), (21, [0]), (22, [])]), ([0, 1, 2, 3, 4, 5, 14, 15, 6, 7, 8, 9, 10, 11, 12, 16, 13, 17, 18, 19, 20, 21, 22], [(0, []), (1, []), (2, []), (3, []), (4, []), (5, []), (8, []), (9, []), (10, []), (11, []), (12, []), (13, []), (14, []), (16, []), (6, [0, 8, 9, 10, 11, 12, 13, 14, 16]), (7, []), (15, [0, 8, 9, 10, 11, 12, 13, 14, 16, 7]), (17, [0, 8, 9, 10, 11, 12, 13, 14, 7]), (18, []), (19, []), (20, []), (21, [0]), (22, [])]), ([0, 1, 2, 3, 4, 5, 14, 15, 6, 7, 8, 9, 10, 11, 12, 17, 13, 16, 18, 19, 20, 21, 22], [(0, []), (1, []), (2, []), (3, []), (4, []), (5, []), (8, []), (9, []), (10, []), (11, []), (12, []), (13, []), (14, []), (16, []), (6, [0, 8, 9, 10, 11, 12, 13, 14, 16]), (7, []), (17, [0, 8, 9, 10, 11, 12, 13, 14, 7]), (15, [0, 8, 9, 10, 11, 12, 13, 14, 7]), (18, []), (19, []), (20, []), (21, [0]), (22, [])])]) (by dsimp only; decide +kernel) ?_
        refine ⟨?_, ?_, ?_, trivial⟩
        all_goals
          simp (config := { maxSteps := 4000000 }) only [go_sem, simprocAttr, ↓dnA, Tryz.f110, rows_length, tn0, tn1, tn2, tn3, tn4, rd, encT, nlt hi, hi, nn0, hbk, encB1, encBk, hz0, hw]
          refine CallTo.det hB fun _ => ?_
          simp (config := { maxSteps := 4000000 }) only [go_sem, simprocAttr, ↓dnA, Tryz.f110, rows_length, tn0, tn1, tn2, tn3, tn4, rd, encT, nlt hi, hi, nn0, hbk, encB1, encBk, hz0, hw]
          refine CallTo.of (c_spec_pick nb bs (q + 1) 4 hr1) ?_
          rintro r b ⟨y, rfl, rfl, hy⟩
          have hy4 : y = 0 ∨ y = 1 ∨ y = 2 ∨ y = 3 := by omega
          rcases hy4 with rfl | rfl | rfl | rfl
          · simp (config := { maxSteps := 4000000 }) only [go_sem, simprocAttr, ↓dnA, Tryz.f110, rows_length, tn0, tn1, tn2, tn3, tn4, rd, encT, nlt hi, hi, nn0, hbk, encB1, encBk, hz0, hw, htk]
            repeat refine And.intro (by first | omega | (simp; done) | (simp; omega) | assumption) ?_
            refine ⟨(cs ++ [⟨(if sm > 0 then sm else 0), (if x.view > 0 then x.view else 0), 7⟩], i + 1, q + 1 + 1), [(900, 900), (3, 3), (40, 600)], ⟨by dsimp only; omega, by dsimp only; simp; omega, by dsimp only; omega, by dsimp only; omega⟩, by dsimp only; omega, Weak.of (by rfl) ?_ ?_ (by rfl)⟩
            · simp (config := { maxSteps := 4000000 }) only [go_sem, simprocAttr, ↓dnA, Tryz.f110, rows_length, tn0, tn1, tn2, tn3, tn4, rd, encT, ← rows_snoc, encC, frW, wk2, wk1, wkL, wkB, hpW, List.mem_cons, Prod.mk.injEq, exists_eq_left, exists_eq_right, exists_eq]
              try rfl
            · simp (config := { maxSteps := 4000000 }) only [go_sem, simprocAttr, ↓dnA, Tryz.f110, rows_length, tn0, tn1, tn2, tn3, tn4, rd, List.length_append, frW, wk2, wk1, wkL, wkB, hpW, List.mem_cons, Prod.mk.injEq, exists_eq_left, exists_eq_right, exists_eq]
              try rfl
          · simp (config := { maxSteps := 4000000 }) only [go_sem, simprocAttr, ↓dnA, Tryz.f110, rows_length, tn0, tn1, tn2, tn3, tn4, rd, encT, nlt hi, hi, nn0, hbk, encB1, encBk, hz0, hw, htk]
            repeat refine And.intro (by first | omega | (simp; done) | (simp; omega) | assumption) ?_
            refine ⟨(cs ++ [⟨(if sm > 0 then sm else 0), (if x.view > 0 then x.view else 0), 13⟩], i + 1, q + 1 + 1), [(900, 900), (3, 3), (40, 600)], ⟨by dsimp only; omega, by dsimp only; simp; omega, by dsimp only; omega, by dsimp only; omega⟩, by dsimp only; omega, Weak.of (by rfl) ?_ ?_ (by rfl)⟩
            · simp (config := { maxSteps := 4000000 }) only [go_sem, simprocAttr, ↓dnA, Tryz.f110, rows_length, tn0, tn1, tn2, tn3, tn4, rd, encT, ← rows_snoc, encC, frW, wk2, wk1, wkL, wkB, hpW, List.mem_cons, Prod.mk.injEq, exists_eq_left, exists_eq_right, exists_eq]
              try rfl
            · simp (config := { maxSteps := 4000000 }) only [go_sem, simprocAttr, ↓dnA, Tryz.f110, rows_length, tn0, tn1, tn2, tn3, tn4, rd, List.length_append, frW, wk2, wk1, wkL, wkB, hpW, List.mem_cons, Prod.mk.injEq, exists_eq_left, exists_eq_right, exists_eq]
              try rfl
          · simp (config := { maxSteps := 4000000 }) only [go_sem, simprocAttr, ↓dnA, Tryz.f110, rows_length, tn0, tn1, tn2, tn3, tn4, rd, encT, nlt hi, hi, nn0, hbk, encB1, encBk, hz0, hw, htk]
            repeat refine And.intro (by first | omega | (simp; done) | (simp; omega) | assumption) ?_
            refine ⟨(cs ++ [⟨(if sm > 0 then sm else 0), (if x.view > 0 then x.view else 0), 15⟩], i + 1, q + 1 + 1), [(900, 900), (3, 3), (40, 600)], ⟨by dsimp only; omega, by dsimp only; simp; omega, by dsimp only; omega, by dsimp only; omega⟩, by dsimp only; omega, Weak.of (by rfl) ?_ ?_ (by rfl)⟩
            · simp (config := { maxSteps := 4000000 }) only [go_sem, simprocAttr, ↓dnA, Tryz.f110, rows_length, tn0, tn1, tn2, tn3, tn4, rd, encT, ← rows_snoc, encC, frW, wk2, wk1, wkL, wkB, hpW, List.mem_cons, Prod.mk.injEq, exists_eq_left, exists_eq_right, exists_eq]
              try rfl
            · simp (config := { maxSteps := 4000000 }) only [go_sem, simprocAttr, ↓dnA, Tryz.f110, rows_length, tn0, tn1, tn2, tn3, tn4, rd, List.length_append, frW, wk2, wk1, wkL, wkB, hpW, List.mem_cons, Prod.mk.injEq, exists_eq_left, exists_eq_right, exists_eq]
              try rfl
          · simp (config := { maxSteps := 4000000 }) only [go_sem, simprocAttr, ↓dnA, Tryz.f110, rows_length, tn0, tn1, tn2, tn3, tn4, rd, encT, nlt hi, hi, nn0, hbk, encB1, encBk, hz0, hw, htk]
            repeat refine And.intro (by first | omega | (simp; done) | (simp; omega) | assumption) ?_
            refine ⟨(cs ++ [⟨(if sm > 0 then sm else 0), (if x.view > 0 then x.view else 0), 3⟩], i + 1, q + 1 + 1), [(900, 900), (3, 3), (40, 600)], ⟨by dsimp only; omega, by dsimp only; simp; omega, by dsimp only; omega, by dsimp only; omega⟩, by dsimp only; omega, Weak.of (by rfl) ?_ ?_ (by rfl)⟩
            · simp (config := { maxSteps := 4000000 }) only [go_sem, simprocAttr, ↓dnA, Tryz.f110, rows_length, tn0, tn1, tn2, tn3, tn4, rd, encT, ← rows_snoc, encC, frW, wk2, wk1, wkL, wkB, hpW, List.mem_cons, Prod.mk.injEq, exists_eq_left, exists_eq_right, exists_eq]
              try rfl
            · simp (config := { maxSteps := 4000000 }) only [go_sem, simprocAttr, ↓dnA, Tryz.f110, rows_length, tn0, tn1, tn2, tn3, tn4, rd, List.length_append, frW, wk2, wk1, wkL, wkB, hpW, List.mem_cons, Prod.mk.injEq, exists_eq_left, exists_eq_right, exists_eq]
              try rfl
    · have hi' : i = t.blocks.length := by omega
      simp (config := { maxSteps := 4000000 }) only [go_sem, simprocAttr, ↓dnA, Tryz.f110, rows_length, tn0, tn1, tn2, tn3, tn4, rd, encT, nlf hi]
      refine CallTo.of (c_spec_odd nb bs q 9 hq (by omega)) ?_
      rintro r b ⟨g1, q1, rfl, rfl, hq1, hq1'⟩
      have hr1 := h.step (q := q1) (by omega) (by omega)
      cases g1 with
      | false =>
        simp (config := { maxSteps := 4000000 }) only [go_sem, simprocAttr, ↓dnA, Tryz.f110, rows_length, tn0, tn1, tn2, tn3, tn4, rd, encT, nlf hi]
        refine CallTo.of (c_spec_odd nb bs q1 24 hr1 (by omega)) ?_
        rintro r b ⟨g2, q2, rfl, rfl, hq2, hq2'⟩
        cases g2 with
        | false =>
          simp (config := { maxSteps := 4000000 }) only [go_sem, simprocAttr, ↓dnA, Tryz.f110, rows_length, tn0, tn1, tn2, tn3, tn4, rd, encT, nlf hi]
          exact .same ⟨cs, q2, rfl, rfl, by omega, by omega, by omega⟩
        | true =>
          simp (config := { maxSteps := 4000000 }) only [go_sem, simprocAttr, ↓dnA, Tryz.f110, rows_length, tn0, tn1, tn2, tn3, tn4, rd, encT, nlf hi]
          exact .same ⟨List.replicate 31 ⟨0, 0, 0⟩, q2, by rw [← rows_replicate]; rfl, rfl, by omega, by omega, by simp⟩
      | true =>
        simp (config := { maxSteps := 4000000 }) only [go_sem, simprocAttr, ↓dnA, Tryz.f110, rows_length, tn0, tn1, tn2, tn3, tn4, rd, encT, nlf hi]
        refine CallTo.of (c_spec_l20Cert nb bs q1 2 n1 n2 n3 t hr1 (by omega) (by omega) hts hl1) ?_
        rintro r b ⟨c, q3, rfl, rfl, hq3, hq3'⟩
        have hr3 := h.step (q := q3) (by omega) (by omega)
        have hsn : rows encC cs ++ [[.int .i64 c.sum, .int .i64 c.view, .int .i64 c.signers]] = rows encC (cs ++ [c]) := by rw [← rows_snoc]; rfl
        have hll : (cs ++ [c]).length = cs.length + 1 := by simp
        simp (config := { maxSteps := 4000000 }) only [go_sem, simprocAttr, ↓dnA, Tryz.f110, rows_length, tn0, tn1, tn2, tn3, tn4, rd, encT, nlf hi, encC, htk, hsn, hll]
        repeat refine And.intro (by first | omega | (simp; done) | (simp; omega) | assumption) ?_
        refine CallTo.of (c_spec_odd nb bs q3 24 hr3 (by omega)) ?_
        rintro r b ⟨g2, q2, rfl, rfl, hq2, hq2'⟩
        cases g2 with
        | false =>
          simp (config := { maxSteps := 4000000 }) only [go_sem, simprocAttr, ↓dnA, Tryz.f110, rows_length, tn0, tn1, tn2, tn3, tn4, rd, encT, nlf hi, encC, htk, hsn, hll]
          exact .same ⟨cs ++ [c], q2, rfl, rfl, by omega, by omega, by rw [hll]; omega⟩
        | true =>
          simp (config := { maxSteps := 4000000 }) only [go_sem, simprocAttr, ↓dnA, Tryz.f110, rows_length, tn0, tn1, tn2, tn3, tn4, rd, encT, nlf hi, encC, htk, hsn, hll]
          exact .same ⟨List.replicate 31 ⟨0, 0, 0⟩, q2, by rw [← rows_replicate]; rfl, rfl, by omega, by omega, by simp⟩

def CertsP (nb : Option Bool) (bs : List Int) (p : Int) (r : AV) (b : List AV) : Prop := ∃ (cs : List Cert) (q : Int), r = .sl none (rows encC cs) ∧ b = rd nb bs q ∧ p ≤ q ∧ q ≤ p + 200 ∧ cs.length ≤ 40
theorem c_spec_l20CertsP (nb : Option Bool) (bs : List Int) (p : Int) (n1 n2 n3 : Option Bool) (t : Tree) (h : RdOk bs p) (hp : p ≤ 999998000) (hts : tsz t ≤ 300) (hl1 : 1 ≤ t.blocks.length) (hl2 : t.blocks.length ≤ 14) :
    FSpec Tryz.prog 110 [.loc 0 0, .agg (encT n1 n2 n3 t)] true (rd nb bs p) (CertsP nb bs p) := by
  refine (c_spec_l20Certs nb bs p n1 n2 n3 t h hp hts hl1 hl2).pureOne ?_
  rintro r b ⟨cs, q, rfl, rfl, h1, h2, h3⟩
  exact ⟨_, _, _, rfl, cs, q, rfl, rfl, h1, h2, h3⟩

def DrawCsQ (r : AV) (b : List AV) : Prop := ∃ (t : Tree) (cs : List Cert), r = .tup [.agg (encT none none none t), .sl none (rows encC cs)] ∧ tsz t ≤ 200 ∧ 1 ≤ t.blocks.length ∧ t.blocks.length ≤ 14 ∧ cs.length ≤ 40

theorem c_spec_DrawCertifiedBlocks (nb : Option Bool) (bs : List Int) (h : CodeOk bs) : FSpec Tryz.prog 29 [.sl nb (rows encB bs)] false [] DrawCsQ := by
  refine fspec_rel tab_ok Tryz.call29 Tryz.func29 rfl 14 Tryz.ntmps29 (of_decide_eq_true rfl) fun B => codeK_sound tab_ok _ _ _ ?_
  simp (config := { maxSteps := 4000000 }) only [go_sem, simprocAttr, ↓dnA, Tryz.f29, rows_length]
  refine CallTo.of (c_spec_l20Open nb bs h) ?_
  rintro r b rfl
  unfold rd
  simp (config := { maxSteps := 4000000 }) only [go_sem, simprocAttr, ↓dnA, Tryz.f29, rows_length]
  have h0 := code_take h
  generalize bs.take 2000 = bs at h0
  refine CallTo.of (c_spec_l20LineP nb _ 0 12 h0 (by omega) (by omega)) ?_
  rintro r b ⟨t, q, rfl, rfl, hq1, hq2, hts, hl1, hl2, _⟩
  have hq := h0.step (q := q) (by omega) (by omega)
  simp (config := { maxSteps := 4000000 }) only [go_sem, simprocAttr, ↓dnA, Tryz.f29, rows_length, rd, encT]
  refine semL_draw tab_ok mixed_ rfl (ord := [(0, []), (1, []), (2, []), (3, [0]), (4, []), (5, [])]) (by dsimp only; decide +kernel) ?_
  simp (config := { maxSteps := 4000000 }) only [go_sem, simprocAttr, ↓dnA, Tryz.f29, rows_length, rd, encT]
  refine CallTo.of (c_spec_l20CertsP nb bs q none none none t hq (by omega) (by omega) hl1 hl2) ?_
  rintro r b ⟨cs, q2, rfl, rfl, _, _, hcs⟩
  simp (config := { maxSteps := 4000000 }) only [go_sem, simprocAttr, ↓dnA, Tryz.f29, rows_length, rd, encT]
  exact .same ⟨t, cs, by simp [encT], hts, hl1, hl2, hcs⟩

structure LeBool (l m : List Bool) : Prop where
  len : l.length = m.length
  le : ∀ k, l.getD k false = true → m.getD k false = true
theorem LeBool.refl (l : List Bool) : LeBool l l := ⟨rfl, fun _ h => h⟩
theorem LeBool.trans {a b c : List Bool} (h : LeBool a b) (g : LeBool b c) : LeBool a c := ⟨h.len.trans g.len, fun k hk => g.le k (h.le k hk)⟩
theorem getD_setT (l : List Bool) (i k : Nat) (h : l.getD k false = true) : (l.set i true).getD k false = true := by
  rw [List.getD_eq_getElem?_getD] at h ⊢
  rw [List.getElem?_set]
  split
  · rename_i e
    subst e
    split
    · rfl
    · rename_i e2
      rw [List.getElem?_eq_none (by omega)] at h
      cases h
  · exact h
theorem certStep_leB (t : Tree) (l : List Bool) (c : Cert) : LeBool l (certStep t l c) := by
  refine ⟨(certStep_len t l c).symm, fun k hk => ?_⟩
  unfold certStep
  split
  · exact hk
  · exact getD_setT _ _ _ hk
theorem certF_leB (t : Tree) : ∀ (cs : List Cert) (l : List Bool), LeBool l (certF t cs l)
  | [], l => LeBool.refl l
  | c :: cs, l => (certStep_leB t l c).trans (certF_leB t cs _)
theorem certL_takeB (t : Tree) (cs : List Cert) (h : Nat) : LeBool (certL t (cs.take h)) (certL t cs) := by
  have e : certL t cs = certF t (cs.drop h) (certL t (cs.take h)) := by
    unfold certL certF
    rw [← List.foldl_append, List.take_append_drop]
  rw [e]
  exact certF_leB t _ _
theorem certL_first (t : Tree) (cs : List Cert) (h : 1 ≤ t.blocks.length) : (certL t cs).getD 0 false = true := by
  refine (certF_leB t cs _).le 0 ?_
  obtain ⟨n, e⟩ : ∃ n, t.blocks.length = n + 1 := ⟨t.blocks.length - 1, by omega⟩
  rw [e]; rfl

theorem c_laws_FnCertifiedBlocks (nb : Option Bool) (bs : List Int) (h : ∀ b, b ∈ bs → 0 ≤ b ∧ b ≤ 255) : Det Tryz.prog 5 [.sl nb (rows encB bs)] (.bool true) := by
  refine fspec_det tab_ok Tryz.call5 Tryz.func5 rfl 84 Tryz.ntmps5 (of_decide_eq_true rfl) fun B => codeK_sound tab_ok _ _ _ ?_
  simp (config := { maxSteps := 4000000 }) only [go_sem, simprocAttr, ↓dnA, Tryz.f5, rows_length]
  intro hl
  have hc : CodeOk bs := ⟨h, by simp at hl; omega⟩
  refine CallTo.of (c_spec_DrawCertifiedBlocks nb bs hc) ?_
  rintro r b ⟨t, cs, rfl, hts, hl1, hl2, hcs⟩
  have hx : TreeSz t := tsz_sz (m := 200) hts (by decide)
  have hI := c_impl_CertifiedBlocks none none none none t cs hx
  have hS := c_spec_CertifiedBlocks none none none none t cs hx
  by_cases hv : treeValid t = true ∧ cs.length ≤ 30
  · rw [certified_yes hv.1 hv.2] at hI hS
    have hL := c_impl_CertifiedBlocks none none none none t (cs.take (cs.length / 2)) hx
    rw [certified_yes hv.1 (by rw [List.length_take]; omega)] at hL
    have hle := certL_takeB t cs (cs.length / 2)
    have h0 := certL_first t cs hl1
    have hll := certL_len t cs
    generalize certL t (cs.take (cs.length / 2)) = m at hL hle
    generalize certL t cs = l at hI hS hle h0 hll
    obtain ⟨hml, hle⟩ := hle
    have hne : ((l.length : Int) != (l.length : Int)) = false := by simp
    have hn0 : ((l.length : Int) == 0) = false := beq_eq_false_iff_ne.2 (by omega)
    have hw2 : IntKind.i64.wrap ((cs.length : Int).tdiv 2) = ((cs.length / 2 : Nat) : Int) := by rw [Int.tdiv_eq_ediv_of_nonneg (by omega), wrap_small _ (by omega) (by omega)]; omega
    have hrt : (rows encC cs).take (cs.length / 2) = rows encC (cs.take (cs.length / 2)) := rows_take _ _ _
    simp (config := { maxSteps := 4000000 }) only [go_sem, simprocAttr, ↓dnA, Tryz.f5, rows_length, encT, boolRows_length]
    refine CallTo.det hI fun _ => ?_
    simp (config := { maxSteps := 4000000 }) only [go_sem, simprocAttr, ↓dnA, Tryz.f5, rows_length, encT, boolRows_length]
    refine CallTo.det hS fun _ => ?_
    simp (config := { maxSteps := 4000000 }) only [go_sem, simprocAttr, ↓dnA, Tryz.f5, rows_length, encT, boolRows_length, hne, hn0]
    refine semL_draw tab_ok mixed_ rfl (ord := [(0, []), (1, []), (2, []), (3, []), (4, []), (5, []), (6, []), (7, [])]) (by dsimp only; decide +kernel) ?_
    simp (config := { maxSteps := 4000000 }) only [go_sem, simprocAttr, ↓dnA, Tryz.f5, rows_length, encT, boolRows_length, hne, hn0, hw2, nn0, hrt, List.drop_zero]
    repeat refine And.intro (by first | omega | (simp; done) | (simp; omega) | assumption) ?_
    refine CallTo.det hL fun _ => ?_
    simp (config := { maxSteps := 4000000 }) only [go_sem, simprocAttr, ↓dnA, Tryz.f5, rows_length, encT, boolRows_length, hne, hn0, hw2, nn0, hrt, List.drop_zero]
    refine semL_for tab_ok (fun k : Nat => ⟨84, [(3, .loc 3 0), (5, .row 601 l.length), (6, .row 602 l.length), (7, .row 603 m.length), (8, .int .i64 k)],
      [(3, .var (encT none none none t)), (601, .row true false 1 (boolRows l)), (602, .row true true 1 (boolRows l)), (603, .row true false 1 (boolRows m))]⟩) (fun k => l.length - k)
      (fun k => k ≤ l.length) 0 [(3, 3), (20000, 601), (23000, 602), (39000, 603)] (Weak.of (by rfl) ?_ ?_ (by rfl)) (by omega) ?_
    · simp (config := { maxSteps := 4000000 }) only [go_sem, simprocAttr, ↓dnA, Tryz.f5, rows_length, encT, boolRows_length, frW, wk2, wk1, wkL, wkB, hpW, List.mem_cons, Prod.mk.injEq, exists_eq_left, exists_eq_right, exists_eq]
      try rfl
    · simp (config := { maxSteps := 4000000 }) only [go_sem, simprocAttr, ↓dnA, Tryz.f5, rows_length, encT, boolRows_length, nc0, frW, wk2, wk1, wkL, wkB, hpW, List.mem_cons, Prod.mk.injEq, exists_eq_left, exists_eq_right, exists_eq]
      try rfl
    · rintro k hk
      by_cases hkl : k < l.length
      · have hkm : k < m.length := by omega
        have hwk : IntKind.i64.wrap ((k : Int) + 1) = ((k + 1 : Nat) : Int) := wsucc hkl (by omega)
        have g1 := boolRows_get l k hkl
        have g2 := boolRows_get m k hkm
        have hlk := hle k
        have d1 : decide ((k : Int) ≥ (m.length : Int)) = false := by simp; omega
        generalize l.getD k false = lb at g1 hlk
        generalize m.getD k false = mb at g2 hlk
        have hbb : (lb != lb) = false := by cases lb <;> rfl
        simp (config := { maxSteps := 4000000 }) only [go_sem, simprocAttr, ↓dnA, Tryz.f5, rows_length, encT, boolRows_length, nlt hkl]
        refine semL_draw tab_ok mixed_ rfl (ord := [(0, []), (1, []), (2, []), (3, []), (4, []), (5, []), (6, []), (7, []), (8, []), (9, []), (10, []), (11, []), (12, []), (13, []), (14, []), (15, []), (16, []), (17, []), (18, []), (19, []), (20, []), (21, []), (22, []), (23, []), (24, []), (25, []), (26, []), (27, [])]) (by dsimp only; decide +kernel) ?_
        cases mb with
        | false =>
          simp (config := { maxSteps := 4000000 }) only [go_sem, simprocAttr, ↓dnA, Tryz.f5, rows_length, encT, boolRows_length, nlt hkl, hkl, nlt hkm, hkm, nn0, g1, g2, hbb, d1, hwk]
          refine ⟨k + 1, [(3, 3), (601, 601), (602, 602), (603, 603)], by omega, by dsimp only; omega, Weak.of (by rfl) ?_ ?_ (by rfl)⟩
          · simp (config := { maxSteps := 4000000 }) only [go_sem, simprocAttr, ↓dnA, Tryz.f5, rows_length, encT, boolRows_length, frW, wk2, wk1, wkL, wkB, hpW, List.mem_cons, Prod.mk.injEq, exists_eq_left, exists_eq_right, exists_eq]
            try rfl
          · simp (config := { maxSteps := 4000000 }) only [go_sem, simprocAttr, ↓dnA, Tryz.f5, rows_length, encT, boolRows_length, frW, wk2, wk1, wkL, wkB, hpW, List.mem_cons, Prod.mk.injEq, exists_eq_left, exists_eq_right, exists_eq]
            try rfl
        | true =>
          have hlb : lb = true := hlk rfl
          subst hlb
          simp (config := { maxSteps := 4000000 }) only [go_sem, simprocAttr, ↓dnA, Tryz.f5, rows_length, encT, boolRows_length, nlt hkl, hkl, nlt hkm, hkm, nn0, g1, g2, hbb, d1, hwk]
          refine ⟨k + 1, [(3, 3), (601, 601), (602, 602), (603, 603)], by omega, by dsimp only; omega, Weak.of (by rfl) ?_ ?_ (by rfl)⟩
          · simp (config := { maxSteps := 4000000 }) only [go_sem, simprocAttr, ↓dnA, Tryz.f5, rows_length, encT, boolRows_length, frW, wk2, wk1, wkL, wkB, hpW, List.mem_cons, Prod.mk.injEq, exists_eq_left, exists_eq_right, exists_eq]
            try rfl
          · simp (config := { maxSteps := 4000000 }) only [go_sem, simprocAttr, ↓dnA, Tryz.f5, rows_length, encT, boolRows_length, frW, wk2, wk1, wkL, wkB, hpW, List.mem_cons, Prod.mk.injEq, exists_eq_left, exists_eq_right, exists_eq]
            try rfl
      · have hk' : k = l.length := by omega
        subst hk'
        have hl0 : 0 < l.length := by omega
        have g1 := boolRows_get l 0 hl0
        rw [h0] at g1
        have hee : ((l.length : Int) == (t.blocks.length : Int)) = true := by simp; omega
        simp (config := { maxSteps := 4000000 }) only [go_sem, simprocAttr, ↓dnA, Tryz.f5, rows_length, encT, boolRows_length, nlf hkl, nlt hl0, hl0, nn0, nc0, tn0, g1, hee]
        omega
  · rw [certified_no hv] at hI hS
    have z : ((0 : Int) == 0) = true := rfl
    have z2 : ((0 : Int) != 0) = false := rfl
    simp (config := { maxSteps := 4000000 }) only [go_sem, simprocAttr, ↓dnA, Tryz.f5, rows_length, encT, boolRows_length]
    refine CallTo.det hI fun _ => ?_
    simp (config := { maxSteps := 4000000 }) only [go_sem, simprocAttr, ↓dnA, Tryz.f5, rows_length, encT, boolRows_length]
    refine CallTo.det hS fun _ => ?_
    simp (config := { maxSteps := 4000000 }) only [go_sem, simprocAttr, ↓dnA, Tryz.f5, rows_length, encT, boolRows_length, List.length_nil, nc0, z, z2]
    refine CallTo.det c_laws_alive fun _ => ?_
    simp (config := { maxSteps := 4000000 }) only [go_sem, simprocAttr, ↓dnA, Tryz.f5, rows_length, encT, boolRows_length, List.length_nil, nc0, z, z2]

end Go.Proofs.YtmibclbinebnjaaGreat

/- Contracts: voters after their votes. -/
set_option linter.unusedSimpArgs false
set_option linter.unusedVariables false
set_option maxRecDepth 20000
set_option maxHeartbeats 4000000
namespace Go.Proofs.YtmibclbinebnjaaGreat
open Go Go.RowKit

open Classical in
/-- A voter after its vote. -/
noncomputable def voteFor (v : Voter) (t : Tree) (c : List Bool) (n : Int) : Voter × Bool :=
  if voterValid v.last v.lock then (if mayVote v t c n then
    (⟨(t.blk n.toNat).view, if t.bef (t.bef n.toNat).toNat ≥ 0 then max v.lock (t.blk (t.bef (t.bef n.toNat).toNat).toNat).view else v.lock⟩, true) else (v, false)) else (⟨0, 0⟩, false)

theorem max_if (a b : Int) : (if b > a then b else a) = max a b := by
  rw [Int.max_def]; split <;> split <;> omega

/-- What is needed of the block before the one before. -/
theorem voteFor_ok {v : Voter} {t : Tree} {c : List Bool} {n : Int} (h0 : voterValid v.last v.lock = true) (h : mayVote v t c n = true) :
    ∃ j k : Nat, n = (j : Int) ∧ j < t.blocks.length ∧ j < t.before.length ∧ k < t.before.length ∧ (rows encI t.before).getD j [] = [.int .i64 (k : Int)] ∧ (rows encI t.before).getD k [] = [.int .i64 (t.bef k)] ∧
      (rows encB1 t.blocks).getD j [] = encB1 (t.blk j) ∧
      ((t.bef k < 0 ∧ decide (t.bef k ≥ 0) = false ∧ voteFor v t c n = (⟨(t.blk j).view, v.lock⟩, true)) ∨
       ∃ m : Nat, t.bef k = (m : Int) ∧ m < t.blocks.length ∧ (rows encB1 t.blocks).getD m [] = encB1 (t.blk m) ∧ voteFor v t c n = (⟨(t.blk j).view, max v.lock (t.blk m).view⟩, true)) := by
  have hm := mayOk_of h
  obtain ⟨j, k, rfl, hj0, hj, hjb, hkj, hk, g1, g2, g3, _⟩ := may_facts hm.tree hm.len hm.n1 hm.n2
  have hkb : k < t.before.length := by omega
  have g4 : (rows encI t.before).getD k [] = [.int .i64 (t.bef k)] := by rw [rows_get _ _ k hkb, t.bef_get k hkb]; rfl
  refine ⟨j, k, rfl, hj, hjb, hkb, g1, g4, g2, ?_⟩
  have hv : voteFor v t c (j : Int) = (⟨(t.blk j).view, if t.bef k ≥ 0 then max v.lock (t.blk (t.bef k).toNat).view else v.lock⟩, true) := by
    unfold voteFor
    rw [h0, h, if_pos rfl, if_pos rfl, Int.toNat_natCast, hk, Int.toNat_natCast]
  by_cases hb : t.bef k ≥ 0
  · obtain ⟨m, hmk⟩ : ∃ m : Nat, t.bef k = (m : Int) := ⟨(t.bef k).toNat, by omega⟩
    have hml : m < t.blocks.length := by
      by_cases hk0 : k = 0
      · subst hk0; rw [hm.tree.bef0] at hb; omega
      · have := (hm.tree.link k (by omega) (by omega)).hi; omega
    refine .inr ⟨m, hmk, hml, rows_gd _ _ m hml, ?_⟩
    rw [hv, if_pos hb, hmk, Int.toNat_natCast]
  · exact .inl ⟨by omega, by simp; omega, by rw [hv, if_neg hb]⟩

theorem c_spec_VoteFor (n1 n2 n3 n4 : Option Bool) (v : Voter) (t : Tree) (c : List Bool) (n : Int) (hx : TreeSz t) (hc : c.length < 2 ^ 62) :
    Det Tryz.prog 141 [.agg (encV v), .agg (encT n1 n2 n3 t), .sl n4 (boolRows c), .int .i64 n] (.tup [.agg (encV (voteFor v t c n).1), .bool (voteFor v t c n).2]) := by
  refine fspec_det tab_ok Tryz.call141 Tryz.func141 rfl 54 Tryz.ntmps141 (of_decide_eq_true rfl) fun B => codeK_sound tab_ok _ _ _ ?_
  unfold encT
  simp (config := { maxSteps := 4000000 }) only [go_sem, simprocAttr, ↓dnA, Tryz.f141, encV]
  refine CallTo.det (c_spec_VoterValid _ _) fun _ => ?_
  cases h1 : voterValid v.last v.lock with
  | false =>
    have hv : voteFor v t c n = (⟨0, 0⟩, false) := by unfold voteFor; rw [h1, if_neg Bool.false_ne_true]
    simp (config := { maxSteps := 4000000 }) only [go_sem, simprocAttr, ↓dnA, Tryz.f141, encV, h1, hv]
  | true =>
    simp (config := { maxSteps := 4000000 }) only [go_sem, simprocAttr, ↓dnA, Tryz.f141, encV, h1]
    refine CallTo.det (c_spec_MayVote n1 n2 n3 n4 v t c n hx hc) fun _ => ?_
    cases h2 : mayVote v t c n with
    | false =>
      have hv : voteFor v t c n = (v, false) := by unfold voteFor; rw [h1, h2, if_pos rfl, if_neg Bool.false_ne_true]
      simp (config := { maxSteps := 4000000 }) only [go_sem, simprocAttr, ↓dnA, Tryz.f141, encV, h1, h2, hv]
    | true =>
      obtain ⟨j, k, rfl, hj, hjb, hkb, g1, g4, g2, hcase⟩ := voteFor_ok h1 h2
      simp (config := { maxSteps := 4000000 }) only [go_sem, simprocAttr, ↓dnA, Tryz.f141, encV, h1, h2, rows_length, nn0, nlt hj, nlt hjb, nlt hkb, g1, g2, g4, encB1, encBk]
      refine semL_draw tab_ok mixed_ rfl (ord := [(0, []), (1, []), (2, []), (3, []), (4, []), (5, []), (6, []), (7, []), (8, []), (9, [0, 1, 2, 3, 4, 5, 6, 7, 8]), (10, [])]) (by dsimp only; decide +kernel) ?_
      simp (config := { maxSteps := 4000000 }) only [go_sem, simprocAttr, ↓dnA, Tryz.f141, encV, h1, h2, rows_length, nn0, nlt hj, nlt hjb, nlt hkb, g1, g2, g4, encB1, encBk]
      refine semL_draw tab_ok mixed_ rfl (ord := [(0, []), (1, []), (2, []), (3, []), (4, []), (5, []), (6, []), (7, []), (8, []), (9, [])]) (by dsimp only; decide +kernel) ?_
      rcases hcase with ⟨hb, hd, hv⟩ | ⟨m, hm, hml, g5, hv⟩
      · simp (config := { maxSteps := 4000000 }) only [go_sem, simprocAttr, ↓dnA, Tryz.f141, encV, h1, h2, rows_length, nn0, nlt hj, nlt hjb, nlt hkb, g1, g2, g4, encB1, encBk, hd, hv]
      · have hd : decide ((m : Int) ≥ 0) = true := by simp
        simp (config := { maxSteps := 4000000 }) only [go_sem, simprocAttr, ↓dnA, Tryz.f141, encV, h1, h2, rows_length, nn0, nlt hj, nlt hjb, nlt hkb, g1, g2, g4, encB1, encBk, hd, hm]
        refine semL_draw tab_ok mixed_ rfl (ord := [(0, []), (1, []), (2, []), (3, []), (4, []), (5, []), (6, []), (7, []), (8, []), (9, []), (10, [])]) (by dsimp only; decide +kernel) ?_
        simp (config := { maxSteps := 4000000 }) only [go_sem, simprocAttr, ↓dnA, Tryz.f141, encV, h1, h2, rows_length, nn0, nlt hml, g5, encB1, encBk, max_if, hv]

end Go.Proofs.YtmibclbinebnjaaGreat

/- Contracts: worlds, and when they are valid. -/
set_option linter.unusedSimpArgs false
set_option linter.unusedVariables false
set_option maxRecDepth 20000
set_option maxHeartbeats 4000000
namespace Go.Proofs.YtmibclbinebnjaaGreat
open Go Go.RowKit

structure Wld where
  tree : Tree
  voters : List Voter
  votes : List Int
deriving DecidableEq, Inhabited

def encW (n1 n2 n3 n4 n5 : Option Bool) (w : Wld) : List AV :=
  [.sl n1 (rows encE w.tree.base), .sl n2 (rows encB1 w.tree.blocks), .sl n3 (rows encI w.tree.before), .sl n4 (rows encV w.voters), .sl n5 (rows encI w.votes)]
structure WldSz (w : Wld) : Prop where
  tree : TreeSz w.tree
  voters : w.voters.length < 2 ^ 62
  votes : w.votes.length < 2 ^ 62

def voterOk (v : Voter) : Bool := voterValid v.last v.lock
noncomputable def worldValid (w : Wld) : Bool := ((((treeValid w.tree && decide (w.voters.length = 4)) && w.voters.all voterOk) && decide (w.votes.length = w.tree.blocks.length)) && w.votes.all fun n => inB n 0 15)

theorem c_impl_WorldValid1 (v : Voter) : Det Tryz.prog 93 [.agg (encV v)] (.bool (!voterOk v)) := by
  refine fspec_det tab_ok Tryz.call93 Tryz.func93 rfl 6 Tryz.ntmps93 (of_decide_eq_true rfl) fun B => codeK_sound tab_ok _ _ _ ?_
  simp (config := { maxSteps := 4000000 }) only [go_sem, simprocAttr, ↓dnA, Tryz.f93, encV]
  refine CallTo.det (c_impl_VoterValid _ _) fun _ => ?_
  simp (config := { maxSteps := 4000000 }) only [go_sem, simprocAttr, ↓dnA, Tryz.f93, encV, voterOk]

theorem c_impl_WorldValid2 (n : Int) : Det Tryz.prog 96 [.int .i64 n] (.bool (!inB n 0 15)) := by
  refine fspec_det tab_ok Tryz.call96 Tryz.func96 rfl 6 Tryz.ntmps96 (of_decide_eq_true rfl) fun B => codeK_sound tab_ok _ _ _ ?_
  simp (config := { maxSteps := 4000000 }) only [go_sem, simprocAttr, ↓dnA, Tryz.f96]
  refine CallTo.det (c_impl_isSigners _) fun _ => ?_
  simp (config := { maxSteps := 4000000 }) only [go_sem, simprocAttr, ↓dnA, Tryz.f96]

theorem c_slices_IndexFunc_Voter (n1 : Option Bool) (xs : List Voter) (k : FuncId) (p : Voter → Bool) (hx : xs.length < 2 ^ 62) (hm : mutB k = false) (hp : ∀ x, x ∈ xs → Det Tryz.prog k [.agg (encV x)] (.bool (p x))) :
    Det Tryz.prog 164 [.sl n1 (rows encV xs), .fn k []] (.int .i64 (idxF p xs 0)) := by
  simp only [mutB] at hm
  refine fspec_det tab_ok Tryz.call164 Tryz.func164 rfl 19 Tryz.ntmps164 (of_decide_eq_true rfl) fun B => codeK_sound tab_ok _ _ _ ?_
  simp (config := { maxSteps := 4000000 }) only [go_sem, simprocAttr, ↓dnA, Tryz.f164, rows_length, hm]
  refine semL_for tab_ok (fun i : Nat => ⟨19, [(0, .sl n1 (rows encV xs)), (1, .fn k []), (7, .int .i64 xs.length), (8, .int .i64 i)], []⟩) (fun i => xs.length - i)
    (fun i => i ≤ xs.length ∧ idxF p (xs.drop i) i = idxF p xs 0) 0 [] (Weak.of rfl trivial ?_ rfl) ⟨by omega, rfl⟩ ?_
  · simp (config := { maxSteps := 4000000 }) only [go_sem, simprocAttr, ↓dnA, Tryz.f164, frW, wk2, wk1, wkL, wkB, hpW, List.mem_cons, Prod.mk.injEq, exists_eq_left, exists_eq_right, exists_eq]
  · rintro i ⟨hi, hp'⟩
    by_cases h : i < xs.length
    · simp (config := { maxSteps := 4000000 }) only [go_sem, simprocAttr, ↓dnA, Tryz.f164, rows_length, rows_get _ _ _ h, encV, nlt h, nn0, hm]
      refine CallTo.det (hp _ (List.getElem_mem h)) fun _ => ?_
      rw [drop_cons xs i h] at hp'
      simp (config := { maxSteps := 4000000 }) only [go_sem, simprocAttr, ↓dnA, Tryz.f164, rows_length, rows_get _ _ _ h, encV, nlt h, hm]
      refine ⟨fun h => ?_, fun h' => ?_⟩
      · rw [← hp']; simp [idxF, h]
      · refine ⟨i + 1, [], ⟨by omega, ?_⟩, by dsimp only; omega, Weak.of rfl trivial ?_ rfl⟩
        · rw [← hp']; simp [idxF, h']
        · simp (config := { maxSteps := 4000000 }) only [go_sem, simprocAttr, ↓dnA, Tryz.f164, wsucc h hx, frW, wk2, wk1, wkL, wkB, hpW, List.mem_cons, Prod.mk.injEq, exists_eq_left, exists_eq_right, exists_eq]
    · have : i = xs.length := by omega
      subst this
      rw [List.drop_length] at hp'
      simp (config := { maxSteps := 4000000 }) only [go_sem, simprocAttr, ↓dnA, Tryz.f164, nlf h, hm]
      rw [← hp']
      rfl

theorem c_slices_ContainsFunc_Voter (n1 : Option Bool) (xs : List Voter) (k : FuncId) (p : Voter → Bool) (hx : xs.length < 2 ^ 62) (hm : mutB k = false) (hp : ∀ x, x ∈ xs → Det Tryz.prog k [.agg (encV x)] (.bool (p x))) :
    Det Tryz.prog 92 [.sl n1 (rows encV xs), .fn k []] (.bool (xs.any p)) := by
  refine fspec_det tab_ok Tryz.call92 Tryz.func92 rfl 9 Tryz.ntmps92 (of_decide_eq_true rfl) fun B => codeK_sound tab_ok _ _ _ ?_
  simp (config := { maxSteps := 4000000 }) only [go_sem, simprocAttr, ↓dnA, Tryz.f92]
  refine CallTo.det (c_slices_IndexFunc_Voter _ _ _ _ hx hm hp) fun _ => ?_
  simp (config := { maxSteps := 4000000 }) only [go_sem, simprocAttr, ↓dnA, Tryz.f92, idxF_any]


theorem eqN (a b : Nat) : (((a : Int)) == (b : Int)) = decide (a = b) := by
  rw [Bool.eq_iff_iff]; simp; omega

theorem eqN4 (a : Nat) : (((a : Int)) == 4) = decide (a = 4) := by
  rw [Bool.eq_iff_iff]; simp; omega

theorem c_impl_WorldValid (n1 n2 n3 n4 n5 : Option Bool) (w : Wld) (hx : WldSz w) : Det Tryz.prog 21 [.agg (encW n1 n2 n3 n4 n5 w)] (.bool (worldValid w)) := by
  refine fspec_det tab_ok Tryz.call21 Tryz.func21 rfl 34 Tryz.ntmps21 (of_decide_eq_true rfl) fun B => codeK_sound tab_ok _ _ _ ?_
  unfold worldValid
  have e1 : w.voters.any (fun v => !voterOk v) = !w.voters.all voterOk := any_not _ _
  have e2 : w.votes.any (fun n => !inB n 0 15) = !w.votes.all fun n => inB n 0 15 := any_not _ _
  simp (config := { maxSteps := 4000000 }) only [go_sem, simprocAttr, ↓dnA, Tryz.f21, encW]
  refine CallTo.det (c_impl_BlockTreeValid n1 n2 n3 w.tree hx.tree) fun _ => ?_
  cases h1 : treeValid w.tree with
  | false => simp (config := { maxSteps := 4000000 }) only [go_sem, simprocAttr, ↓dnA, Tryz.f21, h1]
  | true =>
    cases h2 : decide (w.voters.length = 4) with
    | false => simp (config := { maxSteps := 4000000 }) only [go_sem, simprocAttr, ↓dnA, Tryz.f21, h1, rows_length, eqN4, h2]
    | true =>
      simp (config := { maxSteps := 4000000 }) only [go_sem, simprocAttr, ↓dnA, Tryz.f21, h1, rows_length, eqN4, h2]
      refine CallTo.det (c_slices_ContainsFunc_Voter n4 w.voters _ _ hx.voters rfl fun v _ => c_impl_WorldValid1 v) fun _ => ?_
      cases h3 : w.voters.all voterOk with
      | false => simp (config := { maxSteps := 4000000 }) only [go_sem, simprocAttr, ↓dnA, Tryz.f21, h1, rows_length, eqN4, h2, e1, h3]
      | true =>
        cases h4 : decide (w.votes.length = w.tree.blocks.length) with
        | false => simp (config := { maxSteps := 4000000 }) only [go_sem, simprocAttr, ↓dnA, Tryz.f21, h1, rows_length, eqN4, h2, e1, h3, eqN, h4]
        | true =>
          simp (config := { maxSteps := 4000000 }) only [go_sem, simprocAttr, ↓dnA, Tryz.f21, h1, rows_length, eqN4, h2, e1, h3, eqN, h4]
          refine CallTo.det (c_slices_ContainsFunc_int n5 w.votes _ _ hx.votes rfl fun v _ => c_impl_WorldValid2 v) fun _ => ?_
          simp (config := { maxSteps := 4000000 }) only [go_sem, simprocAttr, ↓dnA, Tryz.f21, h1, rows_length, eqN4, h2, e1, h3, eqN, h4, e2, Bool.not_not]

theorem c_spec_WorldValid (n1 n2 n3 n4 n5 : Option Bool) (w : Wld) (hx : WldSz w) : Det Tryz.prog 22 [.agg (encW n1 n2 n3 n4 n5 w)] (.bool (worldValid w)) := by
  refine fspec_det tab_ok Tryz.call22 Tryz.func22 rfl 52 Tryz.ntmps22 (of_decide_eq_true rfl) fun B => codeK_sound tab_ok _ _ _ ?_
  have hf1 : w.voters.all voterOk = false → worldValid w = false := fun h => by unfold worldValid; rw [h]; simp
  have hf2 : w.votes.all (fun n => inB n 0 15) = false → worldValid w = false := fun h => by unfold worldValid; rw [h]; simp
  simp (config := { maxSteps := 4000000 }) only [go_sem, simprocAttr, ↓dnA, Tryz.f22, encW]
  refine semL_for tab_ok (fun i : Nat => ⟨52, [(1, .loc 1 0), (3, .int .i64 i)], [(1, .var (encW n1 n2 n3 n4 n5 w))]⟩) (fun i => w.voters.length - i)
    (fun i => i ≤ w.voters.length ∧ (w.voters.drop i).all voterOk = w.voters.all voterOk) 0 [(1, 1)] (Weak.of (by rfl) ?_ ?_ (by rfl)) ⟨by omega, rfl⟩ ?_
  · simp (config := { maxSteps := 4000000 }) only [go_sem, simprocAttr, ↓dnA, Tryz.f22, encW, frW, wk2, wk1, wkL, wkB, hpW, List.mem_cons, Prod.mk.injEq, exists_eq_left, exists_eq_right, exists_eq]
  · simp (config := { maxSteps := 4000000 }) only [go_sem, simprocAttr, ↓dnA, Tryz.f22, encW, frW, wk2, wk1, wkL, wkB, hpW, List.mem_cons, Prod.mk.injEq, exists_eq_left, exists_eq_right, exists_eq]
  rintro i ⟨hi, hp⟩
  by_cases h : i < w.voters.length
  · rw [drop_cons w.voters i h, List.all_cons] at hp
    simp (config := { maxSteps := 4000000 }) only [go_sem, simprocAttr, ↓dnA, Tryz.f22, encW, rows_length, rows_get _ _ _ h, encV, nlt h, nn0]
    refine CallTo.det (c_spec_VoterValid _ _) fun _ => ?_
    cases h1 : voterOk w.voters[i] with
    | false =>
      rw [h1, Bool.false_and] at hp
      have h1' : voterValid w.voters[i].last w.voters[i].lock = false := h1
      simp (config := { maxSteps := 4000000 }) only [go_sem, simprocAttr, ↓dnA, Tryz.f22, h1', hf1 hp.symm]
    | true =>
      rw [h1, Bool.true_and] at hp
      have h1' : voterValid w.voters[i].last w.voters[i].lock = true := h1
      simp (config := { maxSteps := 4000000 }) only [go_sem, simprocAttr, ↓dnA, Tryz.f22, h1']
      refine ⟨i + 1, [(1, 1)], ⟨by omega, hp⟩, by dsimp only; omega, Weak.of (by rfl) ?_ ?_ (by rfl)⟩
      · simp (config := { maxSteps := 4000000 }) only [go_sem, simprocAttr, ↓dnA, Tryz.f22, encW, frW, wk2, wk1, wkL, wkB, hpW, List.mem_cons, Prod.mk.injEq, exists_eq_left, exists_eq_right, exists_eq]
      · simp (config := { maxSteps := 4000000 }) only [go_sem, simprocAttr, ↓dnA, Tryz.f22, encW, wsucc h hx.voters, frW, wk2, wk1, wkL, wkB, hpW, List.mem_cons, Prod.mk.injEq, exists_eq_left, exists_eq_right, exists_eq]
  have hi' : i = w.voters.length := by omega
  subst hi'
  simp only [List.drop_length, List.all_nil] at hp
  simp (config := { maxSteps := 4000000 }) only [go_sem, simprocAttr, ↓dnA, Tryz.f22, encW, rows_length, nlf h]
  refine semL_for tab_ok (fun i : Nat => ⟨52, [(1, .loc 1 0), (4, .int .i64 i)], [(1, .var (encW n1 n2 n3 n4 n5 w))]⟩) (fun i => w.votes.length - i)
    (fun i => i ≤ w.votes.length ∧ (w.votes.drop i).all (fun n => inB n 0 15) = w.votes.all fun n => inB n 0 15) 0 [(1, 1)] (Weak.of (by rfl) ?_ ?_ (by rfl)) ⟨by omega, rfl⟩ ?_
  · simp (config := { maxSteps := 4000000 }) only [go_sem, simprocAttr, ↓dnA, Tryz.f22, encW, frW, wk2, wk1, wkL, wkB, hpW, List.mem_cons, Prod.mk.injEq, exists_eq_left, exists_eq_right, exists_eq]
  · simp (config := { maxSteps := 4000000 }) only [go_sem, simprocAttr, ↓dnA, Tryz.f22, encW, frW, wk2, wk1, wkL, wkB, hpW, List.mem_cons, Prod.mk.injEq, exists_eq_left, exists_eq_right, exists_eq]
  rintro i ⟨hi, hq⟩
  by_cases h : i < w.votes.length
  · rw [drop_cons w.votes i h, List.all_cons] at hq
    simp (config := { maxSteps := 4000000 }) only [go_sem, simprocAttr, ↓dnA, Tryz.f22, encW, rows_length, rows_get _ _ _ h, encI, nlt h, nn0]
    refine CallTo.det (c_l1In _ _ _) fun _ => ?_
    cases h1 : inB w.votes[i] 0 15 with
    | false =>
      rw [h1, Bool.false_and] at hq
      simp (config := { maxSteps := 4000000 }) only [go_sem, simprocAttr, ↓dnA, Tryz.f22, h1, hf2 hq.symm]
    | true =>
      rw [h1, Bool.true_and] at hq
      simp (config := { maxSteps := 4000000 }) only [go_sem, simprocAttr, ↓dnA, Tryz.f22, h1]
      refine ⟨i + 1, [(1, 1)], ⟨by omega, hq⟩, by dsimp only; omega, Weak.of (by rfl) ?_ ?_ (by rfl)⟩
      · simp (config := { maxSteps := 4000000 }) only [go_sem, simprocAttr, ↓dnA, Tryz.f22, encW, frW, wk2, wk1, wkL, wkB, hpW, List.mem_cons, Prod.mk.injEq, exists_eq_left, exists_eq_right, exists_eq]
      · simp (config := { maxSteps := 4000000 }) only [go_sem, simprocAttr, ↓dnA, Tryz.f22, encW, wsucc h hx.votes, frW, wk2, wk1, wkL, wkB, hpW, List.mem_cons, Prod.mk.injEq, exists_eq_left, exists_eq_right, exists_eq]
  have hi' : i = w.votes.length := by omega
  subst hi'
  simp only [List.drop_length, List.all_nil] at hq
  have hw : worldValid w = ((treeValid w.tree && decide (w.voters.length = 4)) && decide (w.votes.length = w.tree.blocks.length)) := by
    unfold worldValid; rw [← hp, ← hq]; simp
  rw [hw]
  simp (config := { maxSteps := 4000000 }) only [go_sem, simprocAttr, ↓dnA, Tryz.f22, encW, rows_length, nlf h]
  refine CallTo.det (c_spec_BlockTreeValid n1 n2 n3 w.tree hx.tree) fun _ => ?_
  cases h1 : treeValid w.tree with
  | false => simp (config := { maxSteps := 4000000 }) only [go_sem, simprocAttr, ↓dnA, Tryz.f22, encW, h1]
  | true =>
    cases h2 : decide (w.voters.length = 4) with
    | false => simp (config := { maxSteps := 4000000 }) only [go_sem, simprocAttr, ↓dnA, Tryz.f22, encW, h1, rows_length, eqN4, h2]
    | true => simp (config := { maxSteps := 4000000 }) only [go_sem, simprocAttr, ↓dnA, Tryz.f22, encW, h1, rows_length, eqN4, h2, eqN]

end Go.Proofs.YtmibclbinebnjaaGreat

/- Contracts: FnExactWorldValid. -/
set_option linter.unusedSimpArgs false
set_option linter.unusedVariables false
set_option maxRecDepth 20000
set_option maxHeartbeats 4000000
namespace Go.Proofs.YtmibclbinebnjaaGreat
open Go Go.RowKit

/-- How much a world is. -/
def wsz (w : Wld) : Nat := tsz w.tree + w.voters.length + w.votes.length
structure WldS32 (w : Wld) : Prop where
  sum : wsz w ≤ 1048576
theorem WldS32.tree {w : Wld} (h : WldS32 w) : TreeS32 w.tree := ⟨by have := h.sum; unfold wsz at this; omega⟩
theorem WldS32.voters {w : Wld} (h : WldS32 w) : w.voters.length < 2 ^ 32 := by have := h.sum; unfold wsz at this; omega
theorem WldS32.votes {w : Wld} (h : WldS32 w) : w.votes.length < 2 ^ 32 := by have := h.sum; unfold wsz at this; omega

theorem WldS32.sz {w : Wld} (h : WldS32 w) : WldSz w := ⟨h.tree.sz, by have := h.voters; omega, by have := h.votes; omega⟩

end Go.Proofs.YtmibclbinebnjaaGreat

/- Contracts: copies, sizes, tests and marks of certificates, bools, worlds. -/
set_option linter.unusedSimpArgs false
set_option linter.unusedVariables false
set_option maxRecDepth 20000
set_option maxHeartbeats 4000000
namespace Go.Proofs.YtmibclbinebnjaaGreat
open Go Go.RowKit

def encBo (b : Bool) : List AV := [.bool b]
end Go.Proofs.YtmibclbinebnjaaGreat

/- Worlds: new ones, their certificates, what is committed in them: plain. -/
set_option linter.unusedSimpArgs false
set_option linter.unusedVariables false
set_option maxRecDepth 20000
set_option maxHeartbeats 4000000
namespace Go.Proofs.YtmibclbinebnjaaGreat
open Go Go.RowKit

def noW : Wld := ⟨⟨[], [], []⟩, [], []⟩
noncomputable def worldOf (t : Tree) : Wld := if treeValid t then ⟨t, List.replicate 4 ⟨0, 0⟩, List.replicate t.blocks.length 0⟩ else noW
def encWF (w : Wld) : List AV :=
  [.osl false 2 (rows encE w.tree.base), .osl false 6 (rows encB1 w.tree.blocks), .osl false 1 (rows encI w.tree.before), .osl false 2 (rows encV w.voters), .osl false 1 (rows encI w.votes)]

theorem worldValid_parts {w : Wld} (h : worldValid w = true) : TreeOk w.tree ∧ w.voters.length = 4 ∧ (∀ v, v ∈ w.voters → voterOk v = true) ∧ w.votes.length = w.tree.blocks.length ∧ ∀ n, n ∈ w.votes → 0 ≤ n ∧ n ≤ 15 := by
  unfold worldValid at h
  simp only [Bool.and_eq_true, decide_eq_true_eq, List.all_eq_true] at h
  exact ⟨treeOk_of h.1.1.1.1, h.1.1.1.2, h.1.1.2, h.1.2, fun n hn => inB_iff.1 (h.2 n hn)⟩

/-! Valid trees and worlds are small. -/
theorem tb_ent {lo : Int} : ∀ {s : List Entry} {last : Int}, -1 ≤ last → entOk lo last s = true → s = [] ∨ (s.length : Int) ≤ 31 - last
  | [], _, _, _ => .inl rfl
  | e :: r, last, hl, h => by
    simp only [entOk, Bool.and_eq_true, inB_iff] at h
    obtain ⟨⟨h1, h2⟩, h3⟩ := h
    rcases tb_ent (by omega) h3 with e1 | e1
    · subst e1; right; simp only [List.length_cons, List.length_nil]; omega
    · right; rw [List.length_cons]; omega
theorem tb_store {s : List Entry} (h : storeValid s = true) : s.length ≤ 32 := by
  rcases tb_ent (by omega) h with e | e
  · subst e; simp
  · omega
theorem tb_list {b : Block} (h : blockValid b = true) : b.list.length ≤ 10 := by
  unfold blockValid at h
  simp only [Bool.and_eq_true] at h
  obtain ⟨⟨⟨⟨⟨_, _⟩, _⟩, _⟩, _⟩, h6⟩ := h
  unfold actionsValid at h6
  rw [Bool.and_eq_true] at h6
  exact of_decide_eq_true h6.1
theorem tb_lsum : ∀ (bs : List Block), (∀ b, b ∈ bs → b.list.length ≤ 10) → lsum bs ≤ 10 * bs.length
  | [], _ => Nat.le_refl _
  | b :: r, h => by
    have h1 := h b (List.mem_cons_self ..)
    have h2 := tb_lsum r fun c hc => h c (List.mem_cons_of_mem _ hc)
    unfold lsum
    rw [List.length_cons]
    omega
theorem treeOk_tsz {t : Tree} (ht : TreeOk t) : tsz t ≤ 200 := by
  have h1 := tb_store ht.store
  have h2 := ht.len
  have h3 := ht.bef
  have h4 := tb_lsum t.blocks fun b hb => by
    obtain ⟨i, hi, rfl⟩ := List.getElem_of_mem hb
    rw [t.blk_get i hi]
    exact tb_list (ht.valid i hi)
  unfold tsz; omega
theorem tb_s32 {t : Tree} (ht : TreeOk t) : TreeS32 t := ⟨by have := treeOk_tsz ht; omega⟩
theorem worldOk_wsz {w : Wld} (h : worldValid w = true) : wsz w ≤ 218 := by
  obtain ⟨ht, h4, _, hl, _⟩ := worldValid_parts h
  have h1 := treeOk_tsz ht
  have h2 := ht.len
  unfold wsz; omega
theorem worldOk_s32 {w : Wld} (h : worldValid w = true) : WldS32 w := ⟨by have := worldOk_wsz h; omega⟩

/-- The certificate of the block k. -/
def certAt (w : Wld) (k : Nat) : Cert := ⟨blockSum (w.tree.blk k), (w.tree.blk k).view, w.votes.getD k 0⟩
/-- The certificates of the first k blocks. -/
def certsTo (w : Wld) : Nat → List Cert
  | 0 => []
  | k + 1 => if 0 < k ∧ 0 < w.votes.getD k 0 then certsTo w k ++ [certAt w k] else certsTo w k
noncomputable def worldCerts (w : Wld) : List Cert := if worldValid w then certsTo w w.votes.length else []

theorem certsTo_len (w : Wld) : ∀ k, (certsTo w k).length ≤ k - 1
  | 0 => by simp [certsTo]
  | k + 1 => by
    have := certsTo_len w k
    unfold certsTo
    split
    · rename_i h
      simp; omega
    · omega

end Go.Proofs.YtmibclbinebnjaaGreat

/- Contracts: copies of worlds, new worlds, their certificates and heads. -/
set_option linter.unusedSimpArgs false
set_option linter.unusedVariables false
set_option maxRecDepth 20000
set_option maxHeartbeats 4000000
namespace Go.Proofs.YtmibclbinebnjaaGreat
open Go Go.RowKit

theorem rows_rep {α : Type} (e : α → List AV) (n : Nat) (x : α) : rows e (List.replicate n x) = List.replicate n (e x) := by simp [rows]
theorem c_spec_l18Copy (n1 n2 n3 n4 n5 : Option Bool) (w : Wld) (hx : TreeS32 w.tree) (h1 : w.voters.length < 2 ^ 32) (h2 : w.votes.length < 2 ^ 32) :
    Det Tryz.prog 140 [.agg (encW n1 n2 n3 n4 n5 w)] (.agg (encWF w)) := by
  refine fspec_det tab_ok Tryz.call140 Tryz.func140 rfl 15 Tryz.ntmps140 (of_decide_eq_true rfl) fun B => codeK_sound tab_ok _ _ _ ?_
  have a1 := all_rows encI AV.flat (fun _ => rfl) w.votes
  have a2 := all_rows encI AV.one (fun _ => rfl) w.votes
  have a3 := sz0_rows encI 1 (fun _ => rfl) w.votes
  have b1 := all_rows encV AV.flat (fun _ => rfl) w.voters
  have b2 := all_rows encV AV.one (fun _ => rfl) w.voters
  have b3 := sz0_rows encV 2 (fun _ => rfl) w.voters
  unfold encW encWF
  simp (config := { maxSteps := 4000000 }) only [go_sem, simprocAttr, ↓dnA, Tryz.f140, rows_length]
  refine semL_draw tab_ok mixed_ rfl (ord := [(0, []), (1, []), (4, []), (5, []), (8, []), (9, []), (2, [4, 5, 8, 9]), (3, [0, 1, 4, 5, 8, 9]), (6, [8, 9]), (7, [0, 1, 4, 5, 8, 9]), (10, []), (11, []), (12, [])]) (by dsimp only; decide +kernel) ?_
  simp (config := { maxSteps := 4000000 }) only [go_sem, simprocAttr, ↓dnA, Tryz.f140, rows_length]
  refine CallTo.det (c_spec_l13Copy n1 n2 n3 w.tree hx) fun _ => ?_
  simp (config := { maxSteps := 4000000 }) only [go_sem, simprocAttr, ↓dnA, Tryz.f140, rows_length, encTF]
  repeat refine And.intro (by first | omega | (simp; done) | (simp; omega) | assumption) ?_
  omega

theorem c_spec_WorldOf (n1 n2 n3 : Option Bool) (t : Tree) (hx : TreeS32 t) : Det Tryz.prog 55 [.agg (encT n1 n2 n3 t)] (.agg (encWF (worldOf t))) := by
  refine fspec_det tab_ok Tryz.call55 Tryz.func55 rfl 15 Tryz.ntmps55 (of_decide_eq_true rfl) fun B => codeK_sound tab_ok _ _ _ ?_
  unfold worldOf
  have hb := hx.blocks
  simp (config := { maxSteps := 4000000 }) only [go_sem, simprocAttr, ↓dnA, Tryz.f55, rows_length, encT]
  refine CallTo.det (c_spec_BlockTreeValid n1 n2 n3 t hx.sz) fun _ => ?_
  cases h0 : treeValid t with
  | false => simp (config := { maxSteps := 4000000 }) only [go_sem, simprocAttr, ↓dnA, Tryz.f55, rows_length, encT, h0, noW, encWF, rows_nil]
  | true =>
    simp (config := { maxSteps := 4000000 }) only [go_sem, simprocAttr, ↓dnA, Tryz.f55, rows_length, encT, h0]
    refine semL_draw tab_ok mixed_ rfl (ord := [(0, []), (3, []), (4, []), (5, [6]), (1, [3, 4, 5, 6]), (2, [0, 3, 4, 5, 6]), (6, [0]), (7, []), (8, [])]) (by dsimp only; decide +kernel) ?_
    simp (config := { maxSteps := 4000000 }) only [go_sem, simprocAttr, ↓dnA, Tryz.f55, rows_length, encT, h0]
    refine ⟨by omega, ?_⟩
    refine CallTo.det (c_spec_l13Copy n1 n2 n3 t hx) fun _ => ?_
    simp (config := { maxSteps := 4000000 }) only [go_sem, simprocAttr, ↓dnA, Tryz.f55, rows_length, encT, encTF, h0, encWF, rows_rep, encV, encI, List.length_replicate]
    repeat refine And.intro (by first | omega | (simp; done) | (simp; omega) | assumption) ?_
    rfl

end Go.Proofs.YtmibclbinebnjaaGreat

/- Contracts: votes in worlds. -/
set_option linter.unusedSimpArgs false
set_option linter.unusedVariables false
set_option maxRecDepth 20000
set_option maxHeartbeats 4000000
namespace Go.Proofs.YtmibclbinebnjaaGreat
open Go Go.RowKit

/-- Whether the member m is in a mask; the mask with it. -/
def hasB (v : Int) (m : Nat) : Bool := (v / 2 ^ m) % 2 == 1
def orB (v : Int) (m : Nat) : Int := if hasB v m then v else v + 2 ^ m
def andI (a b : Int) : Int := IntKind.i64.wrap ((BitVec.ofInt 64 a &&& BitVec.ofInt 64 b).toNat : Nat)
def orI (a b : Int) : Int := IntKind.i64.wrap ((BitVec.ofInt 64 a ||| BitVec.ofInt 64 b).toNat : Nat)
theorem intK_or (a b : Int) (K : AV → Prop) : intK .or .i64 .i64 a b K = K (.int .i64 (orI a b)) := propext ⟨fun h => h.2, fun h => ⟨rfl, h⟩⟩
theorem maskF : ∀ (a : Fin 16) (m : Fin 4), (andI ((a.val : Int).fdiv (2 ^ min m.val 64)) 1 == 1) = hasB a.val m.val ∧
    ((((a.val : Int).fdiv (2 ^ min m.val 64)).tmod 2 == 1) = hasB a.val m.val) ∧
    orI (a.val : Int) (IntKind.i64.wrap (1 * 2 ^ min m.val 64)) = orB a.val m.val ∧
    0 ≤ orB a.val m.val ∧ orB a.val m.val ≤ 15 := by decide +kernel
theorem mask_facts {v : Int} (h : 0 ≤ v ∧ v ≤ 15) {m : Nat} (hm : m < 4) : (andI (v.fdiv (2 ^ min m 64)) 1 == 1) = hasB v m ∧
    (((v.fdiv (2 ^ min m 64)).tmod 2 == 1) = hasB v m) ∧
    orI v (IntKind.i64.wrap (1 * 2 ^ min m 64)) = orB v m ∧ 0 ≤ orB v m ∧ orB v m ≤ 15 := by
  obtain ⟨a, rfl⟩ : ∃ a : Nat, v = (a : Int) := ⟨v.toNat, by omega⟩
  exact maskF ⟨a, by omega⟩ ⟨m, hm⟩

/-- Which blocks are certified by their votes. -/
def certW (w : Wld) : List Bool := (List.range w.votes.length).map fun i => i == 0 || decide (many (w.votes.getD i 0) ≥ 3)
theorem certW_len (w : Wld) : (certW w).length = w.votes.length := by simp [certW]
theorem certW_get (w : Wld) (i : Nat) (h : i < w.votes.length) : (certW w).getD i false = (i == 0 || decide (many w.votes[i] ≥ 3)) := by
  have hg : w.votes.getD i 0 = w.votes[i] := by rw [List.getD_eq_getElem?_getD, List.getElem?_eq_getElem h]; rfl
  rw [List.getD_eq_getElem?_getD]
  unfold certW
  rw [List.getElem?_map, List.getElem?_range h]
  show (i == 0 || decide (many (w.votes.getD i 0) ≥ 3)) = _
  rw [hg]
theorem certW_take (w : Wld) (i : Nat) (h : i < w.votes.length) : (certW w).take (i + 1) = (certW w).take i ++ [(certW w).getD i false] := take_succ_getD _ i false (by rw [certW_len]; exact h)

def VoteOk (w : Wld) (m n : Int) : Prop := (0 ≤ m ∧ m ≤ 3) ∧ (1 ≤ n ∧ n < w.votes.length) ∧ hasB (w.votes.getD n.toNat 0) m.toNat = false
def voted (w : Wld) (m n : Int) : List Int := w.votes.set n.toNat (orB (w.votes.getD n.toNat 0) m.toNat)
noncomputable def voteR (w : Wld) (m n : Int) : Voter × Bool := voteFor (w.voters.getD m.toNat ⟨0, 0⟩) w.tree (certW w) n
open Classical in
/-- A world after a vote. -/
noncomputable def voteW (w : Wld) (m n : Int) : Wld × Bool :=
  if VoteOk w m n then (if m = 3 then (⟨w.tree, w.voters, voted w m n⟩, true) else if (voteR w m n).2 then (⟨w.tree, w.voters.set m.toNat (voteR w m n).1, voted w m n⟩, true) else (w, false)) else (w, false)

theorem voteW_no {w : Wld} {m n : Int} (h : ¬ VoteOk w m n) : voteW w m n = (w, false) := by unfold voteW; rw [if_neg h]
theorem voteW_3 {w : Wld} {m n : Int} (h : VoteOk w m n) (h3 : m = 3) : voteW w m n = (⟨w.tree, w.voters, voted w m n⟩, true) := by unfold voteW; rw [if_pos h, if_pos h3]
theorem voteW_yes {w : Wld} {m n : Int} (h : VoteOk w m n) (h3 : m ≠ 3) (hr : (voteR w m n).2 = true) : voteW w m n = (⟨w.tree, w.voters.set m.toNat (voteR w m n).1, voted w m n⟩, true) := by unfold voteW; rw [if_pos h, if_neg h3, if_pos hr]
theorem voteW_not {w : Wld} {m n : Int} (h : VoteOk w m n) (h3 : m ≠ 3) (hr : (voteR w m n).2 = false) : voteW w m n = (w, false) := by unfold voteW; rw [if_pos h, if_neg h3, hr]; rfl

theorem voteW_wsz (w : Wld) (m n : Int) : wsz (voteW w m n).1 = wsz w := by
  unfold voteW
  split
  · split
    · simp [wsz, voted]
    · split
      · simp [wsz, voted]
      · rfl
  · rfl

theorem voterOk_iff (v : Voter) : voterOk v = true ↔ (0 ≤ v.last ∧ v.last ≤ 1000) ∧ 0 ≤ v.lock ∧ v.lock ≤ 1000 := by
  unfold voterOk voterValid
  simp only [Bool.and_eq_true, decide_eq_true_eq]

theorem voteFor_valid {v : Voter} {t : Tree} {c : List Bool} {n : Int} (h : (voteFor v t c n).2 = true) : voterOk (voteFor v t c n).1 = true := by
  cases h0 : voterValid v.last v.lock with
  | false => unfold voteFor at h; rw [h0, if_neg Bool.false_ne_true] at h; cases h
  | true =>
    cases h1 : mayVote v t c n with
    | false => unfold voteFor at h; rw [h0, h1, if_pos rfl, if_neg Bool.false_ne_true] at h; cases h
    | true =>
      have hm := mayOk_of h1
      have hv := (voterOk_iff v).1 h0
      obtain ⟨j, k, rfl, hj, hjb, hkb, g1, g4, g2, hcase⟩ := voteFor_ok h0 h1
      have hbj := view_bd (hm.tree.valid j hj)
      rcases hcase with ⟨hb, hd, he⟩ | ⟨i, hi, hil, g5, he⟩
      · rw [he, voterOk_iff]
        exact ⟨hbj, hv.2⟩
      · have hbi := view_bd (hm.tree.valid i hil)
        rw [he, voterOk_iff]
        refine ⟨hbj, ?_⟩
        show 0 ≤ max v.lock (t.blk i).view ∧ max v.lock (t.blk i).view ≤ 1000
        omega

theorem voteW_valid {w : Wld} (h : worldValid w = true) (m n : Int) : worldValid (voteW w m n).1 = true := by
  obtain ⟨ht, h4, hvo, hvl, hvs⟩ := worldValid_parts h
  have mk : ∀ (vs : List Voter) (ns : List Int), vs.length = 4 → (∀ v, v ∈ vs → voterOk v = true) → ns.length = w.tree.blocks.length → (∀ n, n ∈ ns → 0 ≤ n ∧ n ≤ 15) → worldValid ⟨w.tree, vs, ns⟩ = true := by
    intro vs ns a1 a2 a3 a4
    unfold worldValid
    simp only [Bool.and_eq_true, decide_eq_true_eq, List.all_eq_true]
    exact ⟨⟨⟨⟨treeValid_true ht, a1⟩, a2⟩, a3⟩, fun n hn => inB_iff.2 (a4 n hn)⟩
  by_cases hok : VoteOk w m n
  · obtain ⟨⟨h1, h2⟩, ⟨h3, h5⟩, h6⟩ := hok
    have hnl : n.toNat < w.votes.length := by omega
    have hvb : 0 ≤ w.votes.getD n.toNat 0 ∧ w.votes.getD n.toNat 0 ≤ 15 := by
      rw [List.getD_eq_getElem?_getD, List.getElem?_eq_getElem hnl]
      exact hvs _ (List.getElem_mem hnl)
    have hor := (mask_facts hvb (m := m.toNat) (by omega)).2.2.2
    have hvd : ∀ x, x ∈ voted w m n → 0 ≤ x ∧ x ≤ 15 := fun x hx => by
      unfold voted at hx
      rcases List.mem_or_eq_of_mem_set hx with e | e
      · exact hvs x e
      · rw [e]; exact hor
    have hvdl : (voted w m n).length = w.tree.blocks.length := by unfold voted; rw [List.length_set]; exact hvl
    by_cases hm3 : m = 3
    · rw [voteW_3 ⟨⟨h1, h2⟩, ⟨h3, h5⟩, h6⟩ hm3]
      exact mk _ _ h4 hvo hvdl hvd
    · cases hr : (voteR w m n).2 with
      | false => rw [voteW_not ⟨⟨h1, h2⟩, ⟨h3, h5⟩, h6⟩ hm3 hr]; exact h
      | true =>
        rw [voteW_yes ⟨⟨h1, h2⟩, ⟨h3, h5⟩, h6⟩ hm3 hr]
        refine mk _ _ (by rw [List.length_set]; exact h4) (fun v hv => ?_) hvdl hvd
        rcases List.mem_or_eq_of_mem_set hv with e | e
        · exact hvo v e
        · rw [e]; exact voteFor_valid hr
  · rw [voteW_no hok]; exact h

theorem c_spec_l18Certified (n1 n2 n3 n4 n5 : Option Bool) (w : Wld) (hvt : w.votes.length < 2 ^ 32) (hvs : ∀ n, n ∈ w.votes → 0 ≤ n ∧ n ≤ 15) :
    Det Tryz.prog 142 [.agg (encW n1 n2 n3 n4 n5 w)] (.osl true 1 (boolRows (certW w))) := by
  refine fspec_det tab_ok Tryz.call142 Tryz.func142 rfl 28 Tryz.ntmps142 (of_decide_eq_true rfl) fun B => codeK_sound tab_ok _ _ _ ?_
  simp (config := { maxSteps := 4000000 }) only [go_sem, simprocAttr, ↓dnA, Tryz.f142, rows_length, boolRows_length, encW]
  refine semL_for tab_ok (fun i : Nat => ⟨28, [(1, .loc 1 0), (3, .row 600 i), (4, .int .i64 i)], [(1, .var (encW n1 n2 n3 n4 n5 w)), (600, .row true true 1 (boolRows ((certW w).take i)))]⟩) (fun i => w.votes.length - i)
    (fun i => i ≤ w.votes.length) 0 [(1, 1), (5, 600)] (Weak.of (by rfl) ?_ ?_ (by rfl)) (by omega) ?_
  · simp (config := { maxSteps := 4000000 }) only [go_sem, simprocAttr, ↓dnA, Tryz.f142, rows_length, boolRows_length, encW, frW, wk2, wk1, wkL, wkB, hpW, List.mem_cons, Prod.mk.injEq, exists_eq_left, exists_eq_right, exists_eq]
    try rfl
  · simp (config := { maxSteps := 4000000 }) only [go_sem, simprocAttr, ↓dnA, Tryz.f142, rows_length, boolRows_length, nc0, frW, wk2, wk1, wkL, wkB, hpW, List.mem_cons, Prod.mk.injEq, exists_eq_left, exists_eq_right, exists_eq]
  · rintro i hi
    have hcl := certW_len w
    by_cases h : i < w.votes.length
    · have hw : IntKind.i64.wrap ((i : Int) + 1) = ((i + 1 : Nat) : Int) := wsucc h (by omega)
      have hg := certW_get w i h
      have hst := certW_take w i h
      have htl : ((certW w).take i).length = i := by rw [List.length_take]; omega
      have htk : (boolRows ((certW w).take i)).take i = boolRows ((certW w).take i) := by rw [List.take_of_length_le]; rw [boolRows_length, htl]; omega
      have hsn : ∀ b : Bool, boolRows ((certW w).take i) ++ [[.bool b]] = boolRows ((certW w).take i ++ [b]) := fun b => rows_snoc encBo _ b
      by_cases h0 : i = 0
      · have hz : ((i : Int) == 0) = true := by simp; omega
        have hgt : (certW w).getD i false = true := by rw [hg]; simp [h0]
        rw [hgt] at hst
        simp (config := { maxSteps := 4000000 }) only [go_sem, simprocAttr, ↓dnA, Tryz.f142, rows_length, boolRows_length, encW, nlt h, h, nn0, hz, htl, htk, hw]
        repeat refine And.intro (by first | omega | (simp; done) | (simp; omega) | assumption) ?_
        refine ⟨i + 1, [(1, 1), (26, 600)], by omega, by dsimp only; omega, Weak.of (by rfl) ?_ ?_ (by rfl)⟩
        · simp (config := { maxSteps := 4000000 }) only [go_sem, simprocAttr, ↓dnA, Tryz.f142, rows_length, boolRows_length, encW, hst, hsn, frW, wk2, wk1, wkL, wkB, hpW, List.mem_cons, Prod.mk.injEq, exists_eq_left, exists_eq_right, exists_eq]
        · simp (config := { maxSteps := 4000000 }) only [go_sem, simprocAttr, ↓dnA, Tryz.f142, rows_length, boolRows_length, frW, wk2, wk1, wkL, wkB, hpW, List.mem_cons, Prod.mk.injEq, exists_eq_left, exists_eq_right, exists_eq]
      · have hz : ((i : Int) == 0) = false := by simp; omega
        have hb := hvs _ (List.getElem_mem h)
        have hgt : (certW w).getD i false = decide (many w.votes[i] ≥ 3) := by rw [hg]; simp [h0]
        rw [hgt] at hst
        simp (config := { maxSteps := 4000000 }) only [go_sem, simprocAttr, ↓dnA, Tryz.f142, rows_length, boolRows_length, encW, nlt h, h, nn0, hz, rows_get _ _ _ h, encI]
        refine CallTo.det (c_spec_l15Many _ hb) fun _ => ?_
        simp (config := { maxSteps := 4000000 }) only [go_sem, simprocAttr, ↓dnA, Tryz.f142, rows_length, boolRows_length, encW, nlt h, h, nn0, hz, rows_get _ _ _ h, encI, htl, htk, hw]
        repeat refine And.intro (by first | omega | (simp; done) | (simp; omega) | assumption) ?_
        refine ⟨i + 1, [(1, 1), (26, 600)], by omega, by dsimp only; omega, Weak.of (by rfl) ?_ ?_ (by rfl)⟩
        · simp (config := { maxSteps := 4000000 }) only [go_sem, simprocAttr, ↓dnA, Tryz.f142, rows_length, boolRows_length, encW, hst, hsn, frW, wk2, wk1, wkL, wkB, hpW, List.mem_cons, Prod.mk.injEq, exists_eq_left, exists_eq_right, exists_eq]
        · simp (config := { maxSteps := 4000000 }) only [go_sem, simprocAttr, ↓dnA, Tryz.f142, rows_length, boolRows_length, frW, wk2, wk1, wkL, wkB, hpW, List.mem_cons, Prod.mk.injEq, exists_eq_left, exists_eq_right, exists_eq]
    · have hi' : i = w.votes.length := by omega
      subst hi'
      have htl : (certW w).take w.votes.length = certW w := by rw [List.take_of_length_le]; omega
      simp (config := { maxSteps := 4000000 }) only [go_sem, simprocAttr, ↓dnA, Tryz.f142, rows_length, boolRows_length, encW, nlf h, htl, hcl]

end Go.Proofs.YtmibclbinebnjaaGreat

/- Contracts: worlds after a vote. -/
set_option linter.unusedSimpArgs false
set_option linter.unusedVariables false
set_option maxRecDepth 20000
set_option maxHeartbeats 4000000
namespace Go.Proofs.YtmibclbinebnjaaGreat
open Go Go.RowKit

noncomputable def worldVote (w : Wld) (m n : Int) : Wld × Bool := if worldValid w then voteW w m n else (noW, false)
theorem worldVote_yes {w : Wld} (h : worldValid w = true) (m n : Int) : worldVote w m n = voteW w m n := by unfold worldVote; rw [if_pos h]
theorem worldVote_no {w : Wld} (h : worldValid w = false) (m n : Int) : worldVote w m n = (noW, false) := by unfold worldVote; rw [h]; rfl
theorem c_spec_WorldVote (n1 n2 n3 n4 n5 : Option Bool) (w : Wld) (m n : Int) (hx : WldSz w) :
    Det Tryz.prog 72 [.agg (encW n1 n2 n3 n4 n5 w), .int .i64 m, .int .i64 n] (.tup [.agg (encWF (worldVote w m n).1), .bool (worldVote w m n).2]) := by
  refine fspec_det tab_ok Tryz.call72 Tryz.func72 rfl 78 Tryz.ntmps72 (of_decide_eq_true rfl) fun B => codeK_sound tab_ok _ _ _ ?_
  simp (config := { maxSteps := 4000000 }) only [go_sem, simprocAttr, ↓dnA, Tryz.f72, rows_length, encW, encWF]
  refine CallTo.det (c_spec_WorldValid n1 n2 n3 n4 n5 w hx) fun _ => ?_
  cases h0 : worldValid w with
  | false => simp (config := { maxSteps := 4000000 }) only [go_sem, simprocAttr, ↓dnA, Tryz.f72, rows_length, encW, encWF, h0, worldVote_no h0, noW, rows_nil]
  | true =>
    have hs := worldOk_s32 h0
    obtain ⟨ht, h4, hvo, hvl, hvs⟩ := worldValid_parts h0
    have hlen := ht.len
    have hw : IntKind.i64.wrap ((w.votes.length : Int) - 1) = (w.votes.length : Int) - 1 := wrap_small _ (by omega) (by omega)
    rw [worldVote_yes h0]
    simp (config := { maxSteps := 4000000 }) only [go_sem, simprocAttr, ↓dnA, Tryz.f72, rows_length, encW, encWF, h0]
    refine CallTo.det (c_spec_l18Copy n1 n2 n3 n4 n5 w hs.tree hs.voters hs.votes) fun _ => ?_
    simp (config := { maxSteps := 4000000 }) only [go_sem, simprocAttr, ↓dnA, Tryz.f72, rows_length, encW, encWF, h0, hw]
    refine CallTo.det (c_l1In _ _ _) fun _ => ?_
    cases q1 : inB m 0 3 with
    | false =>
      have hno := voteW_no (w := w) (m := m) (n := n) (fun e => by have := inB_iff.2 e.1; rw [q1] at this; cases this)
      simp (config := { maxSteps := 4000000 }) only [go_sem, simprocAttr, ↓dnA, Tryz.f72, rows_length, encW, encWF, h0, hw, q1, hno]
    | true =>
      have hm := inB_iff.1 q1
      obtain ⟨a, rfl⟩ : ∃ a : Nat, m = (a : Int) := ⟨m.toNat, by omega⟩
      simp (config := { maxSteps := 4000000 }) only [go_sem, simprocAttr, ↓dnA, Tryz.f72, rows_length, encW, encWF, h0, hw, q1]
      refine CallTo.det (c_l1In _ _ _) fun _ => ?_
      cases q2 : inB n 1 ((w.votes.length : Int) - 1) with
      | false =>
        have hno := voteW_no (w := w) (m := (a : Int)) (n := n) (fun e => by have h := e.2.1; have := inB_iff.2 (show 1 ≤ n ∧ n ≤ (w.votes.length : Int) - 1 by omega); rw [q2] at this; cases this)
        simp (config := { maxSteps := 4000000 }) only [go_sem, simprocAttr, ↓dnA, Tryz.f72, rows_length, encW, encWF, h0, hw, q1, q2, hno]
      | true =>
        have hn := inB_iff.1 q2
        obtain ⟨b, rfl⟩ : ∃ b : Nat, n = (b : Int) := ⟨n.toNat, by omega⟩
        have hbl : b < w.votes.length := by omega
        have hgb : w.votes.getD b 0 = w.votes[b] := by rw [List.getD_eq_getElem?_getD, List.getElem?_eq_getElem hbl]; rfl
        have hvb := hvs _ (List.getElem_mem hbl)
        have ha4 : a < 4 := by omega
        obtain ⟨k1, k2, k3, k4, k5⟩ := mask_facts hvb ha4
        cases q3 : hasB w.votes[b] a with
        | true =>
          have hno := voteW_no (w := w) (m := (a : Int)) (n := (b : Int)) (fun e => by have h := e.2.2; rw [Int.toNat_natCast, Int.toNat_natCast, hgb, q3] at h; cases h)
          rw [q3] at k2
          simp (config := { maxSteps := 4000000 }) only [go_sem, simprocAttr, ↓dnA, Tryz.f72, rows_length, encW, encWF, h0, hw, q1, q2, nlt hbl, hbl, nn0, rows_get _ _ _ hbl, encI, k2, hno]
        | false =>
          have hok : VoteOk w (a : Int) (b : Int) := ⟨hm, by omega, by rw [Int.toNat_natCast, Int.toNat_natCast, hgb]; exact q3⟩
          have hvd : voted w (a : Int) (b : Int) = w.votes.set b (orB w.votes[b] a) := by unfold voted; rw [Int.toNat_natCast, Int.toNat_natCast, hgb]
          have hrs : (rows encI w.votes).set b [.int .i64 (orB w.votes[b] a)] = rows encI (w.votes.set b (orB w.votes[b] a)) := by rw [← rows_set]; rfl
          rw [q3] at k2
          by_cases hm3 : (a : Int) = 3
          · have hne : decide ((a : Int) < 3) = false := by simp; omega
            have hr := voteW_3 hok hm3
            rw [hvd] at hr
            simp (config := { maxSteps := 4000000 }) only [go_sem, simprocAttr, ↓dnA, Tryz.f72, rows_length, encW, encWF, h0, hw, q1, q2, nlt hbl, hbl, nn0, rows_get _ _ _ hbl, encI, k2, hne]
            refine semL_draw tab_ok mixed_ rfl (ord := [(0, []), (1, []), (2, []), (3, []), (4, []), (5, []), (6, []), (7, []), (8, []), (9, []), (10, []), (11, []), (12, [])]) (by dsimp only; decide +kernel) ?_
            simp (config := { maxSteps := 4000000 }) only [go_sem, simprocAttr, ↓dnA, Tryz.f72, rows_length, encW, encWF, h0, hw, q1, q2, nlt hbl, hbl, nn0, rows_get _ _ _ hbl, encI, k2, hne, ↓intK_or, k3, spliceL, hr, hrs, List.length_set]
          · have hne : decide ((a : Int) < 3) = true := by simp; omega
            have hav : a < w.voters.length := by omega
            have hgv : w.voters.getD a ⟨0, 0⟩ = w.voters[a] := by rw [List.getD_eq_getElem?_getD, List.getElem?_eq_getElem hav]; rfl
            have hre : voteR w (a : Int) (b : Int) = voteFor w.voters[a] w.tree (certW w) (b : Int) := by unfold voteR; rw [Int.toNat_natCast, hgv]
            have ev : encV w.voters[a] = [.int .i64 w.voters[a].last, .int .i64 w.voters[a].lock] := rfl
            have hcl := certW_len w
            simp (config := { maxSteps := 4000000 }) only [go_sem, simprocAttr, ↓dnA, Tryz.f72, rows_length, encW, encWF, h0, hw, q1, q2, nlt hbl, hbl, nn0, rows_get _ _ _ hbl, encI, k2, hne]
            refine semL_draw tab_ok mixed_ rfl (ord := [(0, []), (1, []), (2, []), (3, []), (4, []), (5, []), (6, []), (7, []), (9, []), (8, [0, 1, 2, 3, 4, 5, 6, 9]), (10, []), (11, []), (12, []), (13, []), (14, [0, 1, 2, 3, 4, 5, 6, 7, 9, 11, 12, 13]), (15, [13]), (16, [])]) (by dsimp only; decide +kernel) ?_
            simp (config := { maxSteps := 4000000 }) only [go_sem, simprocAttr, ↓dnA, Tryz.f72, rows_length, encW, encWF, h0, hw, q1, q2, nlt hbl, hbl, nn0, rows_get _ _ _ hbl, encI, k2, hne, nlt hav, hav, rows_get _ _ _ hav, ev]
            refine CallTo.det (c_spec_l18Certified n1 n2 n3 n4 n5 w hs.votes hvs) fun _ => ?_
            simp (config := { maxSteps := 4000000 }) only [go_sem, simprocAttr, ↓dnA, Tryz.f72, rows_length, encW, encWF, h0, hw, q1, q2, nlt hbl, hbl, nn0, rows_get _ _ _ hbl, encI, k2, hne, nlt hav, hav, rows_get _ _ _ hav, ev]
            refine CallTo.det (c_spec_VoteFor n1 n2 n3 (some true) w.voters[a] w.tree (certW w) (b : Int) hs.tree.sz (by omega)) fun _ => ?_
            have hy := voteW_yes hok hm3
            have hnt := voteW_not hok hm3
            rw [hre, hvd] at hy
            rw [hre] at hnt
            generalize voteFor w.voters[a] w.tree (certW w) (b : Int) = r at hy hnt
            obtain ⟨x, ok⟩ := r
            dsimp only at hy hnt ⊢
            cases ok with
            | false =>
              have hnt := hnt rfl
              simp (config := { maxSteps := 4000000 }) only [go_sem, simprocAttr, ↓dnA, Tryz.f72, rows_length, encW, encWF, h0, hw, q1, q2, nlt hbl, hbl, nn0, rows_get _ _ _ hbl, encI, k2, hne, nlt hav, hav, rows_get _ _ _ hav, encV, hnt]
            | true =>
              have hy := hy rfl
              rw [Int.toNat_natCast] at hy
              have hrv : (rows encV w.voters).set a [.int .i64 x.last, .int .i64 x.lock] = rows encV (w.voters.set a x) := by rw [← rows_set]; rfl
              simp (config := { maxSteps := 4000000 }) only [go_sem, simprocAttr, ↓dnA, Tryz.f72, rows_length, encW, encWF, h0, hw, q1, q2, nlt hbl, hbl, nn0, rows_get _ _ _ hbl, encI, k2, hne, nlt hav, hav, rows_get _ _ _ hav, encV, spliceL, List.length_set]
              refine semL_draw tab_ok mixed_ rfl (ord := [(0, []), (1, []), (2, []), (3, []), (4, []), (5, []), (6, []), (7, []), (8, []), (9, []), (10, []), (11, []), (12, [])]) (by dsimp only; decide +kernel) ?_
              simp (config := { maxSteps := 4000000 }) only [go_sem, simprocAttr, ↓dnA, Tryz.f72, rows_length, encW, encWF, h0, hw, q1, q2, nlt hbl, hbl, nn0, rows_get _ _ _ hbl, encI, k2, hne, nlt hav, hav, rows_get _ _ _ hav, encV, ↓intK_or, k3, spliceL, hy, hrs, hrv, List.length_set]

end Go.Proofs.YtmibclbinebnjaaGreat

/- Contracts: worlds after votes. -/
set_option linter.unusedSimpArgs false
set_option linter.unusedVariables false
set_option maxRecDepth 20000
set_option maxHeartbeats 4000000
namespace Go.Proofs.YtmibclbinebnjaaGreat
open Go Go.RowKit

noncomputable def stepV (p : Wld × Int) (m : Int) : Wld × Int := ((voteW p.1 (m.tmod 4) (m.tdiv 4)).1, if (voteW p.1 (m.tmod 4) (m.tdiv 4)).2 then p.2 + 1 else p.2)
noncomputable def runW (w : Wld) (sc : List Int) : Wld × Int := sc.foldl stepV (w, 0)
def ScOk (sc : List Int) : Prop := sc.length ≤ 100 ∧ (sc.all fun m => inB m 0 1000) = true
open Classical in
noncomputable def worldRun (w : Wld) (sc : List Int) : Wld × Int := if worldValid w = true ∧ ScOk sc then runW w sc else (noW, -1)

theorem worldRun_yes {w : Wld} {sc : List Int} (h : worldValid w = true) (hs : ScOk sc) : worldRun w sc = runW w sc := by unfold worldRun; rw [if_pos ⟨h, hs⟩]
theorem worldRun_no {w : Wld} {sc : List Int} (h : ¬ (worldValid w = true ∧ ScOk sc)) : worldRun w sc = (noW, -1) := by unfold worldRun; rw [if_neg h]
theorem runW_take (w : Wld) (sc : List Int) (i : Nat) (h : i < sc.length) : runW w (sc.take (i + 1)) = stepV (runW w (sc.take i)) sc[i] := by
  unfold runW; rw [take_snoc _ _ h, List.foldl_append]; rfl
theorem runW_ok {w : Wld} (hv : worldValid w = true) (sc : List Int) : ∀ i, i ≤ sc.length → worldValid (runW w (sc.take i)).1 = true ∧ wsz (runW w (sc.take i)).1 = wsz w ∧ 0 ≤ (runW w (sc.take i)).2 ∧ (runW w (sc.take i)).2 ≤ i
  | 0, _ => ⟨hv, rfl, by simp [runW], by simp [runW]⟩
  | i + 1, hi => by
    obtain ⟨h1, h2, h3, h4⟩ := runW_ok hv sc i (by omega)
    rw [runW_take w sc i (by omega)]
    refine ⟨voteW_valid h1 _ _, ?_, ?_, ?_⟩
    · show wsz (voteW _ _ _).1 = _; rw [voteW_wsz, h2]
    · unfold stepV; dsimp only; split <;> omega
    · unfold stepV; dsimp only; split <;> omega
theorem c_spec_WorldRun (n1 n2 n3 n4 n5 n6 : Option Bool) (w : Wld) (sc : List Int) (hx : WldSz w) (hsc : sc.length < 2 ^ 62) :
    Det Tryz.prog 79 [.agg (encW n1 n2 n3 n4 n5 w), .sl n6 (rows encI sc)] (.tup [.agg (encWF (worldRun w sc).1), .int .i64 (worldRun w sc).2]) := by
  refine fspec_det tab_ok Tryz.call79 Tryz.func79 rfl 56 Tryz.ntmps79 (of_decide_eq_true rfl) fun B => codeK_sound tab_ok _ _ _ ?_
  simp (config := { maxSteps := 4000000 }) only [go_sem, simprocAttr, ↓dnA, Tryz.f79, rows_length, encW, encWF]
  refine CallTo.det (c_spec_WorldValid n1 n2 n3 n4 n5 w hx) fun _ => ?_
  cases h0 : worldValid w with
  | false =>
    have hno := worldRun_no (w := w) (sc := sc) (fun e => by rw [h0] at e; cases e.1)
    simp (config := { maxSteps := 4000000 }) only [go_sem, simprocAttr, ↓dnA, Tryz.f79, rows_length, encW, encWF, h0, hno, noW, rows_nil]
  | true =>
    by_cases h100 : (sc.length : Int) > 100
    · have hno := worldRun_no (w := w) (sc := sc) (fun e => by have := e.2.1; omega)
      simp (config := { maxSteps := 4000000 }) only [go_sem, simprocAttr, ↓dnA, Tryz.f79, rows_length, encW, encWF, h0, decide_eq_true h100, hno, noW, rows_nil]
    · have d100 := decide_eq_false h100
      have hs := worldOk_s32 h0
      simp (config := { maxSteps := 4000000 }) only [go_sem, simprocAttr, ↓dnA, Tryz.f79, rows_length, encW, encWF, h0, d100]
      refine CallTo.det (c_spec_l18Copy n1 n2 n3 n4 n5 w hs.tree hs.voters hs.votes) fun _ => ?_
      simp (config := { maxSteps := 4000000 }) only [go_sem, simprocAttr, ↓dnA, Tryz.f79, rows_length, encW, encWF, h0, d100]
      refine semL_for tab_ok (fun i : Nat => ⟨56, [(1, .sl n6 (rows encI sc)), (4, .loc 4 0), (6, .int .i64 (runW w (sc.take i)).2), (7, .loc 7 0), (8, .int .i64 i)],
          [(4, .var [.sl (some false) [], .sl (some false) [], .sl (some false) [], .sl (some false) [], .sl (some false) []]),
            (7, .var [.row 601 (runW w (sc.take i)).1.tree.base.length, .row 602 (runW w (sc.take i)).1.tree.blocks.length, .row 603 (runW w (sc.take i)).1.tree.before.length, .row 604 (runW w (sc.take i)).1.voters.length, .row 605 (runW w (sc.take i)).1.votes.length]),
            (601, .row true false 2 (rows encE (runW w (sc.take i)).1.tree.base)), (602, .row true false 6 (rows encB1 (runW w (sc.take i)).1.tree.blocks)), (603, .row true false 1 (rows encI (runW w (sc.take i)).1.tree.before)), (604, .row true false 2 (rows encV (runW w (sc.take i)).1.voters)), (605, .row true false 1 (rows encI (runW w (sc.take i)).1.votes))]⟩) (fun i => sc.length - i)
        (fun i => i ≤ sc.length ∧ ((sc.take i).all fun m => inB m 0 1000) = true) 0 [(4, 4), (7, 7), (22000, 601), (22001, 602), (22002, 603), (22003, 604), (22004, 605)] (Weak.of (by rfl) ?_ ?_ (by rfl)) ⟨by omega, rfl⟩ ?_
      · simp (config := { maxSteps := 4000000 }) only [go_sem, simprocAttr, ↓dnA, Tryz.f79, rows_length, encW, encWF, List.take_zero, runW, List.foldl_nil, frW, wk2, wk1, wkL, wkB, hpW, List.mem_cons, Prod.mk.injEq, exists_eq_left, exists_eq_right, exists_eq]
        try rfl
      · simp (config := { maxSteps := 4000000 }) only [go_sem, simprocAttr, ↓dnA, Tryz.f79, rows_length, encW, encWF, nc0, List.take_zero, runW, List.foldl_nil, frW, wk2, wk1, wkL, wkB, hpW, List.mem_cons, Prod.mk.injEq, exists_eq_left, exists_eq_right, exists_eq]
        try rfl
      · rintro i ⟨hi, hal⟩
        obtain ⟨r1, r2, r3, r4⟩ := runW_ok h0 sc i hi
        by_cases h : i < sc.length
        · have hw : IntKind.i64.wrap ((i : Int) + 1) = ((i + 1 : Nat) : Int) := wsucc h (by omega)
          have hst := runW_take w sc i h
          simp (config := { maxSteps := 4000000 }) only [go_sem, simprocAttr, ↓dnA, Tryz.f79, rows_length, encW, encWF, nlt h, h, nn0, rows_get _ _ _ h, encI]
          refine CallTo.det (c_l1In _ _ _) fun _ => ?_
          cases hb0 : inB sc[i] 0 1000 with
          | false =>
            have hno := worldRun_no (w := w) (sc := sc) (fun e => by
              have := List.all_eq_true.1 e.2.2 _ (List.getElem_mem h)
              rw [hb0] at this; cases this)
            simp (config := { maxSteps := 4000000 }) only [go_sem, simprocAttr, ↓dnA, Tryz.f79, rows_length, encW, encWF, nlt h, h, nn0, rows_get _ _ _ h, encI, hb0, hno, noW, rows_nil]
          | true =>
            have hb := inB_iff.1 hb0
            have hal' : ((sc.take (i + 1)).all fun m => inB m 0 1000) = true := by
              rw [take_snoc _ _ h, List.all_append, hal, List.all_cons, hb0]; rfl
            generalize runW w (sc.take i) = p at r1 r2 r3 r4 hst
            obtain ⟨u, d⟩ := p
            dsimp only at r1 r2 r3 r4
            have t1 : IntKind.i64.wrap (sc[i].tdiv 4) = sc[i].tdiv 4 := by
              have : sc[i].tdiv 4 = sc[i] / 4 := Int.tdiv_eq_ediv_of_nonneg hb.1
              rw [this]
              exact wrap_small _ (by omega) (by omega)
            have hwd : IntKind.i64.wrap (d + 1) = d + 1 := wrap_small _ (by omega) (by omega)
            simp (config := { maxSteps := 4000000 }) only [go_sem, simprocAttr, ↓dnA, Tryz.f79, rows_length, encW, encWF, nlt h, h, nn0, rows_get _ _ _ h, encI, hb0]
            refine semL_draw tab_ok mixed_ rfl (ord := [(0, []), (1, []), (2, []), (3, []), (4, []), (5, []), (6, []), (7, []), (8, []), (9, []), (10, []), (11, []), (12, []), (13, []), (14, []), (15, [0, 1, 2, 3, 4, 5, 6, 7, 8, 9, 10, 12, 13, 14]), (16, [14]), (17, [])]) (by dsimp only; decide +kernel) ?_
            simp (config := { maxSteps := 4000000 }) only [go_sem, simprocAttr, ↓dnA, Tryz.f79, rows_length, encW, encWF, nlt h, h, nn0, rows_get _ _ _ h, encI, hb0, t1]
            refine CallTo.det (c_spec_WorldVote none none none none none u (sc[i].tmod 4) (sc[i].tdiv 4) (worldOk_s32 r1).sz) fun _ => ?_
            rw [worldVote_yes r1]
            unfold stepV at hst
            dsimp only at hst
            generalize voteW u (sc[i].tmod 4) (sc[i].tdiv 4) = r at hst
            obtain ⟨x, ok⟩ := r
            dsimp only at hst
            cases ok with
            | false =>
              rw [if_neg Bool.false_ne_true] at hst
              simp (config := { maxSteps := 4000000 }) only [go_sem, simprocAttr, ↓dnA, Tryz.f79, rows_length, encW, encWF, nlt h, h, nn0, rows_get _ _ _ h, encI, hb0, t1, hw]
              refine ⟨i + 1, [(4, 4), (7, 7), (48000, 601), (48001, 602), (48002, 603), (48003, 604), (48004, 605)], ⟨by omega, hal'⟩, by dsimp only; omega, Weak.of (by rfl) ?_ ?_ (by rfl)⟩
              · simp (config := { maxSteps := 4000000 }) only [go_sem, simprocAttr, ↓dnA, Tryz.f79, rows_length, encW, encWF, hst, frW, wk2, wk1, wkL, wkB, hpW, List.mem_cons, Prod.mk.injEq, exists_eq_left, exists_eq_right, exists_eq]
              · simp (config := { maxSteps := 4000000 }) only [go_sem, simprocAttr, ↓dnA, Tryz.f79, rows_length, encW, encWF, hst, frW, wk2, wk1, wkL, wkB, hpW, List.mem_cons, Prod.mk.injEq, exists_eq_left, exists_eq_right, exists_eq]
            | true =>
              rw [if_pos rfl] at hst
              simp (config := { maxSteps := 4000000 }) only [go_sem, simprocAttr, ↓dnA, Tryz.f79, rows_length, encW, encWF, nlt h, h, nn0, rows_get _ _ _ h, encI, hb0, t1, hwd, hw]
              refine ⟨i + 1, [(4, 4), (7, 7), (48000, 601), (48001, 602), (48002, 603), (48003, 604), (48004, 605)], ⟨by omega, hal'⟩, by dsimp only; omega, Weak.of (by rfl) ?_ ?_ (by rfl)⟩
              · simp (config := { maxSteps := 4000000 }) only [go_sem, simprocAttr, ↓dnA, Tryz.f79, rows_length, encW, encWF, hst, frW, wk2, wk1, wkL, wkB, hpW, List.mem_cons, Prod.mk.injEq, exists_eq_left, exists_eq_right, exists_eq]
              · simp (config := { maxSteps := 4000000 }) only [go_sem, simprocAttr, ↓dnA, Tryz.f79, rows_length, encW, encWF, hst, frW, wk2, wk1, wkL, wkB, hpW, List.mem_cons, Prod.mk.injEq, exists_eq_left, exists_eq_right, exists_eq]
        · have hi' : i = sc.length := by omega
          subst hi'
          rw [List.take_length] at hal
          have hyes := worldRun_yes h0 (sc := sc) ⟨by omega, hal⟩
          simp (config := { maxSteps := 4000000 }) only [go_sem, simprocAttr, ↓dnA, Tryz.f79, rows_length, encW, encWF, nlf h, List.take_length, hyes]

end Go.Proofs.YtmibclbinebnjaaGreat

/- Contracts: drawn votes and worlds; FnWorldValid. -/
set_option linter.unusedSimpArgs false
set_option linter.unusedVariables false
set_option maxRecDepth 20000
set_option maxHeartbeats 4000000
namespace Go.Proofs.YtmibclbinebnjaaGreat
open Go Go.RowKit

def VotesQ (nb : Option Bool) (bs : List Int) (p : Int) (n : Nat) (r : AV) (b : List AV) : Prop := ∃ (l : List Int) (q : Int), r = .osl true 1 (rows encI l) ∧ b = rd nb bs q ∧ p ≤ q ∧ q ≤ p + 100 ∧ l.length + 5 ≤ 5 * n ∧ ∀ x, x ∈ l → 0 ≤ x ∧ x ≤ 1000

theorem c_spec_l20Votes (nb : Option Bool) (bs : List Int) (p : Int) (n : Nat) (h : RdOk bs p) (hp : p ≤ 999999000) (hn : 1 ≤ n ∧ n ≤ 14) : FSpec Tryz.prog 157 [.loc 0 0, .int .i64 (n : Nat)] true (rd nb bs p) (VotesQ nb bs p n) := by
  refine fspec_rel tab_ok Tryz.call157 Tryz.func157 rfl 39 Tryz.ntmps157 (of_decide_eq_true rfl) fun B => codeK_sound tab_ok _ _ _ ?_
  unfold rd
  simp (config := { maxSteps := 4000000 }) only [go_sem, simprocAttr, ↓dnA, Tryz.f157, rows_length]
  refine semL_for tab_ok (fun s : List Int × Nat × Int => ⟨39, [(0, .loc 900 0), (1, .int .i64 (n : Nat)), (4, .sl (some false) []), (5, .row 600 s.1.length), (6, .int .i64 s.2.1)], [(900, .var (rd nb bs s.2.2)), (600, .row true true 1 (rows encI s.1))]⟩) (fun s => n - s.2.1)
    (fun s => 1 ≤ s.2.1 ∧ s.2.1 ≤ n ∧ s.1.length + 5 ≤ 5 * s.2.1 ∧ p ≤ s.2.2 ∧ s.2.2 + 6 ≤ p + 6 * s.2.1 ∧ ∀ x, x ∈ s.1 → 0 ≤ x ∧ x ≤ 1000) ([], 1, p) [(900, 900), (8, 600)] (Weak.of (by rfl) ?_ ?_ (by rfl)) ⟨by dsimp only; omega, by dsimp only; omega, by dsimp only; simp, by dsimp only; omega, by dsimp only; omega, fun x hx => by cases hx⟩ ?_
  · simp (config := { maxSteps := 4000000 }) only [go_sem, simprocAttr, ↓dnA, Tryz.f157, rows_length, rd, frW, wk2, wk1, wkL, wkB, hpW, List.mem_cons, Prod.mk.injEq, exists_eq_left, exists_eq_right, exists_eq]
    try rfl
  · simp (config := { maxSteps := 4000000 }) only [go_sem, simprocAttr, ↓dnA, Tryz.f157, rows_length, rd, frW, wk2, wk1, wkL, wkB, hpW, List.mem_cons, Prod.mk.injEq, exists_eq_left, exists_eq_right, exists_eq]
    try rfl
  · rintro ⟨l, k, q⟩ ⟨i0, i1, i2, i3, i4, i5⟩
    dsimp only at i0 i1 i2 i3 i4 i5 ⊢
    by_cases hk : k < n
    · have hwk : IntKind.i64.wrap ((k : Int) + 1) = ((k + 1 : Nat) : Int) := wsucc hk (by omega)
      simp (config := { maxSteps := 4000000 }) only [go_sem, simprocAttr, ↓dnA, Tryz.f157, rows_length, rd, nlt hk]
      refine semL_for tab_ok (fun s : List Int × Nat × Int => ⟨39, [(0, .loc 900 0), (1, .int .i64 (n : Nat)), (4, .sl (some false) []), (5, .row 600 s.1.length), (6, .int .i64 (k : Nat)), (7, .int .i64 s.2.1)], [(900, .var (rd nb bs s.2.2)), (600, .row true true 1 (rows encI s.1))]⟩) (fun s => 4 - s.2.1)
        (fun s => s.2.1 ≤ 4 ∧ s.1.length ≤ l.length + s.2.1 ∧ q ≤ s.2.2 ∧ s.2.2 ≤ q + s.2.1 ∧ ∀ x, x ∈ s.1 → 0 ≤ x ∧ x ≤ 1000) (l, 0, q) [(900, 900), (600, 600)] (Weak.of (by rfl) ?_ ?_ (by rfl)) ⟨by dsimp only; omega, by dsimp only; omega, by dsimp only; omega, by dsimp only; omega, i5⟩ ?_
      · simp (config := { maxSteps := 4000000 }) only [go_sem, simprocAttr, ↓dnA, Tryz.f157, rows_length, rd, frW, wk2, wk1, wkL, wkB, hpW, List.mem_cons, Prod.mk.injEq, exists_eq_left, exists_eq_right, exists_eq]
        try rfl
      · simp (config := { maxSteps := 4000000 }) only [go_sem, simprocAttr, ↓dnA, Tryz.f157, rows_length, rd, frW, wk2, wk1, wkL, wkB, hpW, List.mem_cons, Prod.mk.injEq, exists_eq_left, exists_eq_right, exists_eq]
        try rfl
      · rintro ⟨l1, m, q1⟩ ⟨j1, j2, j3, j4, j5⟩
        dsimp only at j1 j2 j3 j4 j5 ⊢
        have hq1 := h.step (q := q1) (by omega) (by omega)
        have hr2 := h.step (q := q1 + 1) (by omega) (by omega)
        have htk : (rows encI l1).take l1.length = rows encI l1 := by rw [List.take_of_length_le]; rw [rows_length]; omega
        have hsn : ∀ v : Int, rows encI l1 ++ [[.int .i64 v]] = rows encI (l1 ++ [v]) := fun v => by rw [← rows_snoc]; rfl
        have hmem : ∀ v : Int, 0 ≤ v ∧ v ≤ 1000 → ∀ x, x ∈ l1 ++ [v] → 0 ≤ x ∧ x ≤ 1000 := fun v hv x hx => by
          rcases List.mem_append.1 hx with h | h
          · exact j5 x h
          · rw [List.mem_singleton] at h; rw [h]; exact hv
        by_cases hm : m < 4
        · have hm4 : ((m : Int) < 4) = True := by simp; omega
          have hwm : IntKind.i64.wrap ((m : Int) + 1) = ((m + 1 : Nat) : Int) := wsucc hm (by omega)
          simp (config := { maxSteps := 4000000 }) only [go_sem, simprocAttr, ↓dnA, Tryz.f157, rows_length, rd, hm4]
          refine CallTo.of (c_spec_pick nb bs q1 6 hq1) ?_
          rintro r b ⟨x, rfl, rfl, hx⟩
          cases hx0 : decide (x > 0) with
          | false =>
            simp (config := { maxSteps := 4000000 }) only [go_sem, simprocAttr, ↓dnA, Tryz.f157, rows_length, rd, hm4, hx0, hwm]
            refine ⟨(l1, m + 1, q1 + 1), [(900, 900), (600, 600)], ⟨by dsimp only; omega, by dsimp only; omega, by dsimp only; omega, by dsimp only; omega, j5⟩, by dsimp only; omega, Weak.of (by rfl) ?_ ?_ (by rfl)⟩
            · simp (config := { maxSteps := 4000000 }) only [go_sem, simprocAttr, ↓dnA, Tryz.f157, rows_length, rd, frW, wk2, wk1, wkL, wkB, hpW, List.mem_cons, Prod.mk.injEq, exists_eq_left, exists_eq_right, exists_eq]
              try rfl
            · simp (config := { maxSteps := 4000000 }) only [go_sem, simprocAttr, ↓dnA, Tryz.f157, rows_length, rd, frW, wk2, wk1, wkL, wkB, hpW, List.mem_cons, Prod.mk.injEq, exists_eq_left, exists_eq_right, exists_eq]
              try rfl
          | true =>
            have w1 : IntKind.i64.wrap ((k : Int) * 4) = (k : Int) * 4 := wrap_small _ (by omega) (by omega)
            have w2 : IntKind.i64.wrap ((k : Int) * 4 + (m : Int)) = (k : Int) * 4 + (m : Int) := wrap_small _ (by omega) (by omega)
            simp (config := { maxSteps := 4000000 }) only [go_sem, simprocAttr, ↓dnA, Tryz.f157, rows_length, rd, hm4, hx0, hwm, w1, w2, htk, hsn]
            repeat refine And.intro (by first | omega | (simp; done) | (simp; omega) | assumption) ?_
            refine ⟨(l1 ++ [(k : Int) * 4 + (m : Int)], m + 1, q1 + 1), [(900, 900), (27, 600)], ⟨by dsimp only; omega, by dsimp only; simp; omega, by dsimp only; omega, by dsimp only; omega, hmem _ (by omega)⟩, by dsimp only; omega, Weak.of (by rfl) ?_ ?_ (by rfl)⟩
            · simp (config := { maxSteps := 4000000 }) only [go_sem, simprocAttr, ↓dnA, Tryz.f157, rows_length, rd, List.length_append, List.length_singleton, frW, wk2, wk1, wkL, wkB, hpW, List.mem_cons, Prod.mk.injEq, exists_eq_left, exists_eq_right, exists_eq]
              try rfl
            · simp (config := { maxSteps := 4000000 }) only [go_sem, simprocAttr, ↓dnA, Tryz.f157, rows_length, rd, List.length_append, List.length_singleton, frW, wk2, wk1, wkL, wkB, hpW, List.mem_cons, Prod.mk.injEq, exists_eq_left, exists_eq_right, exists_eq]
              try rfl
        · obtain rfl : m = 4 := by omega
          have hm4 : (((4 : Nat) : Int) < 4) = False := by simp
          have w3 : IntKind.i64.wrap ((n : Int) * 4) = (n : Int) * 4 := wrap_small _ (by omega) (by omega)
          simp (config := { maxSteps := 4000000 }) only [go_sem, simprocAttr, ↓dnA, Tryz.f157, rows_length, rd, hm4]
          refine CallTo.of (c_spec_pick nb bs q1 5 hq1) ?_
          rintro r b ⟨x, rfl, rfl, hx⟩
          cases hx0 : (x == 0) with
          | false =>
            simp (config := { maxSteps := 4000000 }) only [go_sem, simprocAttr, ↓dnA, Tryz.f157, rows_length, rd, hm4, hx0, hwk]
            refine ⟨(l1, k + 1, q1 + 1), [(900, 900), (600, 600)], ⟨by dsimp only; omega, by dsimp only; omega, by dsimp only; omega, by dsimp only; omega, by dsimp only; omega, j5⟩, by dsimp only; omega, Weak.of (by rfl) ?_ ?_ (by rfl)⟩
            · simp (config := { maxSteps := 4000000 }) only [go_sem, simprocAttr, ↓dnA, Tryz.f157, rows_length, rd, frW, wk2, wk1, wkL, wkB, hpW, List.mem_cons, Prod.mk.injEq, exists_eq_left, exists_eq_right, exists_eq]
              try rfl
            · simp (config := { maxSteps := 4000000 }) only [go_sem, simprocAttr, ↓dnA, Tryz.f157, rows_length, rd, frW, wk2, wk1, wkL, wkB, hpW, List.mem_cons, Prod.mk.injEq, exists_eq_left, exists_eq_right, exists_eq]
              try rfl
          | true =>
            simp (config := { maxSteps := 4000000 }) only [go_sem, simprocAttr, ↓dnA, Tryz.f157, rows_length, rd, hm4, hx0, hwk, w3]
            refine CallTo.of (c_spec_pick nb bs (q1 + 1) ((n : Int) * 4) hr2) ?_
            rintro r b ⟨y, rfl, rfl, hy⟩
            simp (config := { maxSteps := 4000000 }) only [go_sem, simprocAttr, ↓dnA, Tryz.f157, rows_length, rd, hm4, hx0, hwk, w3, htk, hsn]
            repeat refine And.intro (by first | omega | (simp; done) | (simp; omega) | assumption) ?_
            refine ⟨(l1 ++ [y], k + 1, q1 + 1 + 1), [(900, 900), (37, 600)], ⟨by dsimp only; omega, by dsimp only; omega, by dsimp only; simp; omega, by dsimp only; omega, by dsimp only; omega, hmem _ (by omega)⟩, by dsimp only; omega, Weak.of (by rfl) ?_ ?_ (by rfl)⟩
            · simp (config := { maxSteps := 4000000 }) only [go_sem, simprocAttr, ↓dnA, Tryz.f157, rows_length, rd, List.length_append, List.length_singleton, frW, wk2, wk1, wkL, wkB, hpW, List.mem_cons, Prod.mk.injEq, exists_eq_left, exists_eq_right, exists_eq]
              try rfl
            · simp (config := { maxSteps := 4000000 }) only [go_sem, simprocAttr, ↓dnA, Tryz.f157, rows_length, rd, List.length_append, List.length_singleton, frW, wk2, wk1, wkL, wkB, hpW, List.mem_cons, Prod.mk.injEq, exists_eq_left, exists_eq_right, exists_eq]
              try rfl
    · obtain rfl : k = n := by omega
      simp (config := { maxSteps := 4000000 }) only [go_sem, simprocAttr, ↓dnA, Tryz.f157, rows_length, rd, nlf hk]
      exact .same ⟨l, q, rfl, rfl, by omega, by omega, by omega, i5⟩

def WorldR (nb : Option Bool) (bs : List Int) (p : Int) (r : AV) (b : List AV) : Prop := ∃ (w : Wld) (q : Int) (cs : List AV), r = .agg cs ∧ cs.map pureC = encW none none none none none w ∧ b = rd nb bs q ∧ p ≤ q ∧ q ≤ p + 2000 ∧ wsz w ≤ 300
def WorldQ (nb : Option Bool) (bs : List Int) (p : Int) (r : AV) (b : List AV) : Prop := ∃ (w : Wld) (q : Int), r = .agg (encW none none none none none w) ∧ b = rd nb bs q ∧ p ≤ q ∧ q ≤ p + 2000 ∧ wsz w ≤ 300

theorem worldOf_okay {t : Tree} (ht : TreeOk t) : worldValid (worldOf t) = true := by
  unfold worldOf
  rw [if_pos (treeValid_true ht)]
  unfold worldValid
  simp [treeValid_true ht, voterOk, voterValid, inB]

theorem c_spec_l20World0 (nb : Option Bool) (bs : List Int) (p n : Int) (h : RdOk bs p) (hp : p ≤ 999970000) (hn : 0 ≤ n ∧ n ≤ 1000000) : FSpec Tryz.prog 89 [.loc 0 0, .int .i64 n] true (rd nb bs p) (WorldR nb bs p) := by
  refine fspec_rel tab_ok Tryz.call89 Tryz.func89 rfl 62 Tryz.ntmps89 (of_decide_eq_true rfl) fun B => codeK_sound tab_ok _ _ _ ?_
  unfold rd
  simp (config := { maxSteps := 4000000 }) only [go_sem, simprocAttr, ↓dnA, Tryz.f89, rows_length, encT, encW, encWF]
  refine CallTo.of (c_spec_l20LineP nb bs p 0 h (by omega) (by omega)) ?_
  rintro r b ⟨t, q, rfl, rfl, hq1, hq2, hts, hl1, hl2, hT⟩
  have ht := hT rfl
  have hq := h.step (q := q) (by omega) (by omega)
  have hW := c_spec_WorldOf none none none t (tb_s32 ht)
  have hv := worldOf_okay ht
  generalize worldOf t = w at hW hv
  obtain ⟨ht1, hv4, _, hvl, _⟩ := worldValid_parts hv
  have hlen := ht1.len
  simp (config := { maxSteps := 4000000 }) only [go_sem, simprocAttr, ↓dnA, Tryz.f89, rows_length, encT, encW, encWF, rd]
  refine CallTo.det hW fun _ => ?_
  simp (config := { maxSteps := 4000000 }) only [go_sem, simprocAttr, ↓dnA, Tryz.f89, rows_length, encT, encW, encWF, rd]
  refine semL_draw tab_ok mixed_ rfl (ord := [(0, []), (1, []), (2, []), (3, []), (4, []), (5, [0]), (6, []), (7, []), (8, []), (9, []), (10, [9])]) (by dsimp only; decide +kernel) ?_
  simp (config := { maxSteps := 4000000 }) only [go_sem, simprocAttr, ↓dnA, Tryz.f89, rows_length, encT, encW, encWF, rd]
  refine CallTo.of (c_spec_l20Votes nb bs q w.votes.length hq (by omega) (by omega)) ?_
  rintro r b ⟨sc, q2, rfl, rfl, hq3, hq4, hsc, hsm⟩
  have hr2 := h.step (q := q2) (by omega) (by omega)
  have hok : ScOk sc := ⟨by omega, List.all_eq_true.2 fun x hx => inB_iff.2 (hsm x hx)⟩
  have hR := c_spec_WorldRun none none none none none (some true) w sc (worldOk_s32 hv).sz (by omega)
  rw [worldRun_yes hv hok] at hR
  have hx := runW_ok hv sc sc.length (Nat.le_refl _)
  rw [List.take_length] at hx
  generalize runW w sc = x at hR hx
  obtain ⟨x, xk⟩ := x
  obtain ⟨xv, _, _, _⟩ := hx
  dsimp only at hR xv
  have hwx := worldOk_wsz xv
  obtain ⟨xt, x4, _, xl, _⟩ := worldValid_parts xv
  have xlen := xt.len
  simp (config := { maxSteps := 4000000 }) only [go_sem, simprocAttr, ↓dnA, Tryz.f89, rows_length, encT, encW, encWF, rd]
  refine CallTo.det hR fun _ => ?_
  simp (config := { maxSteps := 4000000 }) only [go_sem, simprocAttr, ↓dnA, Tryz.f89, rows_length, encT, encW, encWF, rd]
  refine CallTo.of (c_spec_odd nb bs q2 n hr2 hn) ?_
  rintro r b ⟨gg, q3, rfl, rfl, hq5, hq6⟩
  have hr3 := h.step (q := q3) (by omega) (by omega)
  cases gg with
  | false =>
    simp (config := { maxSteps := 4000000 }) only [go_sem, simprocAttr, ↓dnA, Tryz.f89, rows_length, encT, encW, encWF, rd]
    exact .same ⟨x, q3, _, rfl, rfl, rfl, by omega, by omega, by omega⟩
  | true =>
    simp (config := { maxSteps := 4000000 }) only [go_sem, simprocAttr, ↓dnA, Tryz.f89, rows_length, encT, encW, encWF, rd]
    refine CallTo.of (c_spec_pick nb bs q3 4 hr3) ?_
    rintro r b ⟨z, rfl, rfl, hz⟩
    have hr4 := h.step (q := q3 + 1) (by omega) (by omega)
    have hz4 : z = 0 ∨ z = 1 ∨ z = 2 ∨ z = 3 := by omega
    rcases hz4 with rfl | rfl | rfl | rfl
    · simp (config := { maxSteps := 4000000 }) only [go_sem, simprocAttr, ↓dnA, Tryz.f89, rows_length, encT, encW, encWF, rd]
      refine semL_slots tab_ok 7 [6, 9] mixed_ rfl (by decide) (os := [([0, 1, 2, 3, 4, 5, 8, 7, 6, 9, 10, 11, 12, 13], [(0, []), (1, []), (2, []), (3, []), (4, []), (5, []), (8, []), (7, [0, 1, 2, 3, 4, 5, 8]), (6, [0, 1, 8]), (9, [0, 1]), (10, []), (11, []), (12, []), (13, [])]), ([0, 1, 2, 3, 4, 5, 7, 8, 6, 9, 10, 11, 12, 13], [(0, []), (1, []), (2, []), (3, []), (4, []), (5, []), (8, []), (6, [0, 1, 8]), (7, [0, 1, 8]), (9, [0, 1]), (10, []), (11, []), (12, []), (13, [])]), ([0, 1, 2, 3, 4, 5, 7, 9, 6, 8, 10, 11, 12, 13], [(0, []), (1, []), (2, []), (3, []), (4, []), (5, []), (8, []), (6, [0, 1, 8]), (9, [0, 1]), (7, [0, 1]), (10, []), (11, []), (12, []), (13, [])])]) (by dsimp only; decide +kernel) ?_
      refine ⟨?_, ?_, ?_, trivial⟩
      all_goals
        simp (config := { maxSteps := 4000000 }) only [go_sem, simprocAttr, ↓dnA, Tryz.f89, rows_length, encT, encW, encWF, rd]
        refine CallTo.of (c_spec_pick nb bs (q3 + 1) (x.votes.length : Int) hr4) ?_
        rintro r b ⟨m, rfl, rfl, hm⟩
        have hr5 := h.step (q := q3 + 1 + 1) (by omega) (by omega)
        obtain ⟨k, rfl⟩ : ∃ k : Nat, m = (k : Int) := ⟨m.toNat, by omega⟩
        have hk : k < x.votes.length := by omega
        have hrs : ∀ v : Int, (rows encI x.votes).set k [.int .i64 v] = rows encI (x.votes.set k v) := fun v => by rw [← rows_set]; rfl
        simp (config := { maxSteps := 4000000 }) only [go_sem, simprocAttr, ↓dnA, Tryz.f89, rows_length, encT, encW, encWF, rd]
        refine CallTo.of (c_spec_pick nb bs (q3 + 1 + 1) 3 hr5) ?_
        rintro r b ⟨y, rfl, rfl, hy⟩
        have hy3 : y = 0 ∨ y = 1 ∨ y = 2 := by omega
        rcases hy3 with rfl | rfl | rfl
        · simp (config := { maxSteps := 4000000 }) only [go_sem, simprocAttr, ↓dnA, Tryz.f89, rows_length, encT, encW, encWF, rd, tn0, tn1, tn2, nlt hk, hk, nn0, rows_get _ _ _ hk, encI, spliceL, List.length_set, hrs]
          exact .same ⟨⟨x.tree, x.voters, x.votes.set k (-1)⟩, q3 + 1 + 1 + 1, _, rfl, rfl, rfl, by omega, by omega, by unfold wsz at hwx ⊢; simp; omega⟩
        · simp (config := { maxSteps := 4000000 }) only [go_sem, simprocAttr, ↓dnA, Tryz.f89, rows_length, encT, encW, encWF, rd, tn0, tn1, tn2, nlt hk, hk, nn0, rows_get _ _ _ hk, encI, spliceL, List.length_set, hrs]
          exact .same ⟨⟨x.tree, x.voters, x.votes.set k (16)⟩, q3 + 1 + 1 + 1, _, rfl, rfl, rfl, by omega, by omega, by unfold wsz at hwx ⊢; simp; omega⟩
        · simp (config := { maxSteps := 4000000 }) only [go_sem, simprocAttr, ↓dnA, Tryz.f89, rows_length, encT, encW, encWF, rd, tn0, tn1, tn2, nlt hk, hk, nn0, rows_get _ _ _ hk, encI, spliceL, List.length_set, hrs]
          exact .same ⟨⟨x.tree, x.voters, x.votes.set k (7)⟩, q3 + 1 + 1 + 1, _, rfl, rfl, rfl, by omega, by omega, by unfold wsz at hwx ⊢; simp; omega⟩
    · have h0v : 0 < x.voters.length := by omega
      have htk : (rows encV x.voters).take x.voters.length = rows encV x.voters := by rw [List.take_of_length_le]; rw [rows_length]; omega
      simp (config := { maxSteps := 4000000 }) only [go_sem, simprocAttr, ↓dnA, Tryz.f89, rows_length, encT, encW, encWF, rd, htk]
      refine ⟨by omega, fun _ => by rw [rows_get _ _ _ h0v]; rfl, ?_⟩
      exact .same ⟨⟨x.tree, x.voters.drop 1, x.votes⟩, q3 + 1, _, rfl, by simp only [List.map_cons, List.map_nil, pureC, encW, rows_drop], rfl, by omega, by omega, by unfold wsz at hwx ⊢; simp; omega⟩
    · have htk : (rows encI x.votes).take x.votes.length = rows encI x.votes := by rw [List.take_of_length_le]; rw [rows_length]; omega
      have hsn : rows encI x.votes ++ [[.int .i64 0]] = rows encI (x.votes ++ [0]) := by rw [← rows_snoc]; rfl
      simp (config := { maxSteps := 4000000 }) only [go_sem, simprocAttr, ↓dnA, Tryz.f89, rows_length, encT, encW, encWF, rd, htk, hsn]
      repeat refine And.intro (by first | omega | (simp; done) | (simp; omega) | assumption) ?_
      exact .same ⟨⟨x.tree, x.voters, x.votes ++ [0]⟩, q3 + 1, _, rfl, rfl, rfl, by omega, by omega, by unfold wsz at hwx ⊢; simp; omega⟩
    · have h0v : 0 < x.voters.length := by omega
      have hrs : ∀ v : Int, (rows encV x.voters).set 0 [.int .i64 v, .int .i64 x.voters[0].lock] = rows encV (x.voters.set 0 ⟨v, x.voters[0].lock⟩) := fun v => by rw [← rows_set]; rfl
      simp (config := { maxSteps := 4000000 }) only [go_sem, simprocAttr, ↓dnA, Tryz.f89, rows_length, encT, encW, encWF, rd]
      refine semL_slots tab_ok 2 [4] mixed_ rfl (by decide) (os := [([0, 1, 3, 2, 4, 5, 6, 7, 8, 9], [(0, []), (1, []), (3, []), (2, [0, 1, 3]), (4, [0, 1]), (5, []), (6, []), (7, []), (8, []), (9, [])]), ([0, 1, 4, 2, 3, 5, 6, 7, 8, 9], [(0, []), (1, []), (3, []), (4, [0, 1]), (2, [0, 1]), (5, []), (6, []), (7, []), (8, []), (9, [])])]) (by dsimp only; decide +kernel) ?_
      refine ⟨?_, ?_, trivial⟩
      all_goals
        simp (config := { maxSteps := 4000000 }) only [go_sem, simprocAttr, ↓dnA, Tryz.f89, rows_length, encT, encW, encWF, rd]
        refine CallTo.of (c_spec_pick nb bs (q3 + 1) 2 hr4) ?_
        rintro r b ⟨y, rfl, rfl, hy⟩
        have hy2 : y = 0 ∨ y = 1 := by omega
        rcases hy2 with rfl | rfl
        · simp (config := { maxSteps := 4000000 }) only [go_sem, simprocAttr, ↓dnA, Tryz.f89, rows_length, encT, encW, encWF, rd, tn0, tn1, nlt h0v, h0v, nn0, nc0, rows_get _ _ _ h0v, encV, spliceL, List.length_set, hrs]
          refine ⟨by omega, ?_⟩
          exact .same ⟨⟨x.tree, x.voters.set 0 ⟨-1, x.voters[0].lock⟩, x.votes⟩, q3 + 1 + 1, _, rfl, rfl, rfl, by omega, by omega, by unfold wsz at hwx ⊢; simp; omega⟩
        · simp (config := { maxSteps := 4000000 }) only [go_sem, simprocAttr, ↓dnA, Tryz.f89, rows_length, encT, encW, encWF, rd, tn0, tn1, nlt h0v, h0v, nn0, nc0, rows_get _ _ _ h0v, encV, spliceL, List.length_set, hrs]
          refine ⟨by omega, ?_⟩
          exact .same ⟨⟨x.tree, x.voters.set 0 ⟨1000, x.voters[0].lock⟩, x.votes⟩, q3 + 1 + 1, _, rfl, rfl, rfl, by omega, by omega, by unfold wsz at hwx ⊢; simp; omega⟩

theorem c_spec_l20World (nb : Option Bool) (bs : List Int) (p n : Int) (h : RdOk bs p) (hp : p ≤ 999970000) (hn : 0 ≤ n ∧ n ≤ 1000000) : FSpec Tryz.prog 89 [.loc 0 0, .int .i64 n] true (rd nb bs p) (WorldQ nb bs p) := by
  refine (c_spec_l20World0 nb bs p n h hp hn).pureAgg ?_
  rintro r b ⟨w, q, cs, rfl, hc, rfl, h1, h2, h3⟩
  exact ⟨cs, rfl, w, q, by rw [hc], rfl, h1, h2, h3⟩

def DrawWQ (r : AV) (b : List AV) : Prop := ∃ w : Wld, r = .agg (encW none none none none none w) ∧ wsz w ≤ 300

theorem c_spec_DrawWorldValid (nb : Option Bool) (bs : List Int) (h : CodeOk bs) : FSpec Tryz.prog 20 [.sl nb (rows encB bs)] false [] DrawWQ := by
  refine fspec_rel tab_ok Tryz.call20 Tryz.func20 rfl 6 Tryz.ntmps20 (of_decide_eq_true rfl) fun B => codeK_sound tab_ok _ _ _ ?_
  simp (config := { maxSteps := 4000000 }) only [go_sem, simprocAttr, ↓dnA, Tryz.f20, rows_length]
  refine CallTo.of (c_spec_l20Open nb bs h) ?_
  rintro r b rfl
  unfold rd
  simp (config := { maxSteps := 4000000 }) only [go_sem, simprocAttr, ↓dnA, Tryz.f20, rows_length]
  have h0 := code_take h
  generalize bs.take 2000 = bs at h0
  refine CallTo.of (c_spec_l20World nb _ 0 2 h0 (by omega) (by omega)) ?_
  rintro r b ⟨w, q, rfl, rfl, _, _, hw⟩
  simp (config := { maxSteps := 4000000 }) only [go_sem, simprocAttr, ↓dnA, Tryz.f20, rows_length, rd, encW]
  exact .same ⟨w, by simp [encW], hw⟩

theorem worldMore' {w : Wld} (h : worldValid w = true) (x : Int) : worldValid ⟨w.tree, w.voters, w.votes ++ [x]⟩ = false := by
  obtain ⟨_, _, _, h4, _⟩ := worldValid_parts h
  cases e : worldValid ⟨w.tree, w.voters, w.votes ++ [x]⟩ with
  | false => rfl
  | true =>
    obtain ⟨_, _, _, h5, _⟩ := worldValid_parts e
    dsimp only at h5
    rw [List.length_append, List.length_singleton] at h5
    omega
theorem c_laws_FnWorldValid (nb : Option Bool) (bs : List Int) (h : ∀ b, b ∈ bs → 0 ≤ b ∧ b ≤ 255) : Det Tryz.prog 3 [.sl nb (rows encB bs)] (.bool true) := by
  refine fspec_det tab_ok Tryz.call3 Tryz.func3 rfl 35 Tryz.ntmps3 (of_decide_eq_true rfl) fun B => codeK_sound tab_ok _ _ _ ?_
  simp (config := { maxSteps := 4000000 }) only [go_sem, simprocAttr, ↓dnA, Tryz.f3, rows_length]
  intro hl
  have hc : CodeOk bs := ⟨h, by simp at hl; omega⟩
  refine CallTo.of (c_spec_DrawWorldValid nb bs hc) ?_
  rintro r b ⟨w, rfl, hw⟩
  have hx : WldSz w := WldS32.sz ⟨by omega⟩
  have hI := c_impl_WorldValid none none none none none w hx
  have hS := c_spec_WorldValid none none none none none w hx
  have hvl : w.votes.length ≤ 300 := by unfold wsz at hw; omega
  have hx2 : WldSz ⟨w.tree, w.voters, w.votes ++ [0]⟩ := WldS32.sz ⟨by unfold wsz at hw ⊢; simp; omega⟩
  have hM := c_impl_WorldValid none none none none (some true) ⟨w.tree, w.voters, w.votes ++ [0]⟩ hx2
  have hmo := fun h => worldMore' (w := w) h 0
  have b1 := all_rows encI AV.flat (fun _ => rfl) w.votes
  have b2 := all_rows encI AV.one (fun _ => rfl) w.votes
  have b3 := sz0_rows encI 1 (fun _ => rfl) w.votes
  have htk : (rows encI w.votes).take w.votes.length = rows encI w.votes := by rw [List.take_of_length_le]; rw [rows_length]; omega
  have hsn : rows encI w.votes ++ [[.int .i64 0]] = rows encI (w.votes ++ [0]) := by rw [← rows_snoc]; rfl
  have hll : (w.votes ++ [0]).length = w.votes.length + 1 := by simp
  generalize hwv : worldValid w = ok at hI hS hmo
  have hqq : (ok != ok) = false := by simp
  simp (config := { maxSteps := 4000000 }) only [go_sem, simprocAttr, ↓dnA, Tryz.f3, rows_length, encW]
  refine CallTo.det hI fun _ => ?_
  simp (config := { maxSteps := 4000000 }) only [go_sem, simprocAttr, ↓dnA, Tryz.f3, rows_length, encW]
  refine CallTo.det hS fun _ => ?_
  cases ok with
  | false =>
    simp (config := { maxSteps := 4000000 }) only [go_sem, simprocAttr, ↓dnA, Tryz.f3, rows_length, encW, hqq, b1, b2, b3, htk, hsn, hll]
    repeat refine And.intro (by first | omega | (simp; done) | (simp; omega) | assumption) ?_
    refine CallTo.det c_laws_alive fun _ => ?_
    simp (config := { maxSteps := 4000000 }) only [go_sem, simprocAttr, ↓dnA, Tryz.f3, rows_length, encW, hqq, b1, b2, b3, htk, hsn, hll]
  | true =>
    rw [hmo rfl] at hM
    simp (config := { maxSteps := 4000000 }) only [go_sem, simprocAttr, ↓dnA, Tryz.f3, rows_length, encW, hqq, b1, b2, b3, htk, hsn, hll]
    repeat refine And.intro (by first | omega | (simp; done) | (simp; omega) | assumption) ?_
    refine CallTo.det hM fun _ => ?_
    simp (config := { maxSteps := 4000000 }) only [go_sem, simprocAttr, ↓dnA, Tryz.f3, rows_length, encW, hqq, b1, b2, b3, htk, hsn, hll]
    refine CallTo.det c_laws_alive fun _ => ?_
    simp (config := { maxSteps := 4000000 }) only [go_sem, simprocAttr, ↓dnA, Tryz.f3, rows_length, encW, hqq, b1, b2, b3, htk, hsn, hll]

end Go.Proofs.YtmibclbinebnjaaGreat

/- Contracts: blocks that are committed at once. -/
set_option linter.unusedSimpArgs false
set_option linter.unusedVariables false
set_option maxRecDepth 20000
set_option maxHeartbeats 4000000
namespace Go.Proofs.YtmibclbinebnjaaGreat
open Go Go.RowKit

theorem v2 (b c d : Int) : ((c == b + 1) && (d == b + 2)) = ((b + 1 == c) && (c + 1 == d)) := by
  rw [Bool.eq_iff_iff]
  simp only [Bool.and_eq_true, beq_iff_eq]
  omega

end Go.Proofs.YtmibclbinebnjaaGreat

/- Contracts: the blocks that are committed at once, as a list. -/
set_option linter.unusedSimpArgs false
set_option linter.unusedVariables false
set_option maxRecDepth 20000
set_option maxHeartbeats 4000000
namespace Go.Proofs.YtmibclbinebnjaaGreat
open Go Go.RowKit

end Go.Proofs.YtmibclbinebnjaaGreat

/- Contracts: up to where everything is committed; whether commits agree. -/
set_option linter.unusedSimpArgs false
set_option linter.unusedVariables false
set_option maxRecDepth 20000
set_option maxHeartbeats 4000000
namespace Go.Proofs.YtmibclbinebnjaaGreat
open Go Go.RowKit

end Go.Proofs.YtmibclbinebnjaaGreat

/- Contracts: certificates and heads of worlds. -/
set_option linter.unusedSimpArgs false
set_option linter.unusedVariables false
set_option maxRecDepth 20000
set_option maxHeartbeats 4000000
namespace Go.Proofs.YtmibclbinebnjaaGreat
open Go Go.RowKit

theorem certsTo_yes {w : Wld} {k : Nat} (h : 0 < k ∧ 0 < w.votes.getD k 0) : certsTo w (k + 1) = certsTo w k ++ [certAt w k] := by
  conv => lhs; unfold certsTo
  rw [if_pos h]
theorem certsTo_no {w : Wld} {k : Nat} (h : ¬ (0 < k ∧ 0 < w.votes.getD k 0)) : certsTo w (k + 1) = certsTo w k := by
  conv => lhs; unfold certsTo
  rw [if_neg h]
theorem worldCerts_yes {w : Wld} (h : worldValid w = true) : worldCerts w = certsTo w w.votes.length := by unfold worldCerts; rw [if_pos h]
theorem worldCerts_no {w : Wld} (h : worldValid w = false) : worldCerts w = [] := by unfold worldCerts; rw [h]; rfl
theorem c_impl_certs (n1 n2 n3 n4 n5 : Option Bool) (w : Wld) (hx : WldSz w) (hv : worldValid w = true) :
    Det Tryz.prog 120 [.agg (encW n1 n2 n3 n4 n5 w)] (.osl false 3 (rows encC (certsTo w w.votes.length))) := by
  refine fspec_det tab_ok Tryz.call120 Tryz.func120 rfl 38 Tryz.ntmps120 (of_decide_eq_true rfl) fun B => codeK_sound tab_ok _ _ _ ?_
  obtain ⟨ht, h4, hvo, hvl, hvs⟩ := worldValid_parts hv
  have hlen := ht.len
  have hvt := hx.votes
  simp (config := { maxSteps := 4000000 }) only [go_sem, simprocAttr, ↓dnA, Tryz.f120, rows_length, encW]
  refine semL_nilA 3 3 3 true (by rfl) (by rfl) (by decide) (by decide) ?_
  refine semL_for tab_ok (fun i : Nat => ⟨38, [(1, .loc 1 0), (3, .row 3 (certsTo w i).length), (8, .sl n5 (rows encI w.votes)), (9, .int .i64 w.votes.length), (10, .int .i64 i)],
      [(1, .var (encW n1 n2 n3 n4 n5 w)), (3, .row true false 3 (rows encC (certsTo w i)))]⟩) (fun i => w.votes.length - i)
    (fun i => i ≤ w.votes.length) 0 [(1, 1), (3, 3)] (Weak.of (by rfl) ?_ ?_ (by rfl)) (by omega) ?_
  · simp (config := { maxSteps := 4000000 }) only [go_sem, simprocAttr, ↓dnA, Tryz.f120, rows_length, encW, frW, wk2, wk1, wkL, wkB, hpW, List.mem_cons, Prod.mk.injEq, exists_eq_left, exists_eq_right, exists_eq]
    try rfl
  · simp (config := { maxSteps := 4000000 }) only [go_sem, simprocAttr, ↓dnA, Tryz.f120, rows_length, nc0, certsTo, List.length_nil, frW, wk2, wk1, wkL, wkB, hpW, List.mem_cons, Prod.mk.injEq, exists_eq_left, exists_eq_right, exists_eq]
  · rintro i hi
    by_cases h : i < w.votes.length
    · have hw : IntKind.i64.wrap ((i : Int) + 1) = ((i + 1 : Nat) : Int) := wsucc h (by omega)
      have hgi : w.votes.getD i 0 = w.votes[i] := by rw [List.getD_eq_getElem?_getD, List.getElem?_eq_getElem h]; rfl
      have hac := certsTo_len w i
      have htk := take_rows encC (certsTo w i) (certsTo w i).length rfl
      by_cases hi0 : i = 0
      · have hd : decide ((i : Int) > 0) = false := by simp; omega
        have hst := certsTo_no (w := w) (k := i) (fun e => by omega)
        simp (config := { maxSteps := 4000000 }) only [go_sem, simprocAttr, ↓dnA, Tryz.f120, rows_length, encW, nlt h, h, nn0, rows_get _ _ _ h, encI, hd, hw]
        refine ⟨i + 1, [(1, 1), (3, 3)], by omega, by dsimp only; omega, Weak.of (by rfl) ?_ ?_ (by rfl)⟩
        · simp (config := { maxSteps := 4000000 }) only [go_sem, simprocAttr, ↓dnA, Tryz.f120, rows_length, encW, hst, frW, wk2, wk1, wkL, wkB, hpW, List.mem_cons, Prod.mk.injEq, exists_eq_left, exists_eq_right, exists_eq]
        · simp (config := { maxSteps := 4000000 }) only [go_sem, simprocAttr, ↓dnA, Tryz.f120, rows_length, hst, frW, wk2, wk1, wkL, wkB, hpW, List.mem_cons, Prod.mk.injEq, exists_eq_left, exists_eq_right, exists_eq]
      · have hd : decide ((i : Int) > 0) = true := by simp; omega
        by_cases hp : 0 < w.votes[i]
        · have hd2 : decide (w.votes[i] > 0) = true := decide_eq_true hp
          have hst := certsTo_yes (w := w) (k := i) ⟨by omega, by rw [hgi]; exact hp⟩
          have hil : i < w.tree.blocks.length := by omega
          have g1 := rows_gd encB1 w.tree.blocks i hil
          have hbl : (w.tree.blk i).list.length < 2 ^ 62 := by
            have := hx.tree.list _ (List.getElem_mem hil)
            rw [w.tree.blk_get i hil] at this
            exact this
          simp (config := { maxSteps := 4000000 }) only [go_sem, simprocAttr, ↓dnA, Tryz.f120, rows_length, encW, nlt h, h, nn0, rows_get _ _ _ h, encI, hd, hd2, nlt hil, hil, g1, encB1, encBk]
          refine semL_drawL tab_ok 9 mixed_ rfl (ord := [(0, []), (1, []), (3, []), (4, []), (5, []), (2, [0, 3, 4, 5]), (6, []), (7, [0]), (8, [])]) (by dsimp only; decide +kernel) ?_
          simp (config := { maxSteps := 4000000 }) only [go_sem, simprocAttr, ↓dnA, Tryz.f120, rows_length, encW, nlt h, h, nn0, rows_get _ _ _ h, encI, hd, hd2, nlt hil, hil, g1, encB1, encBk]
          refine CallTo.det (c_impl_BlockSum none (w.tree.blk i) hbl) fun _ => ?_
          simp (config := { maxSteps := 4000000 }) only [go_sem, simprocAttr, ↓dnA, Tryz.f120, rows_length, encW, nlt h, h, nn0, rows_get _ _ _ h, encI, hd, hd2, nlt hil, hil, g1, encB1, encBk, htk, hw]
          repeat refine And.intro (by first | omega | (simp; done) | (simp; omega) | assumption) ?_
          refine ⟨i + 1, [(1, 1), (35, 3)], by omega, by dsimp only; omega, Weak.of (by rfl) ?_ ?_ (by rfl)⟩
          · simp (config := { maxSteps := 4000000 }) only [go_sem, simprocAttr, ↓dnA, Tryz.f120, rows_length, encW, hst, frW, wk2, wk1, wkL, wkB, hpW, List.mem_cons, Prod.mk.injEq, exists_eq_left, exists_eq_right, exists_eq]
            rw [← rows_snoc]
            unfold certAt encC
            rw [hgi]
            rfl
          · simp (config := { maxSteps := 4000000 }) only [go_sem, simprocAttr, ↓dnA, Tryz.f120, rows_length, hst, List.length_append, frW, wk2, wk1, wkL, wkB, hpW, List.mem_cons, Prod.mk.injEq, exists_eq_left, exists_eq_right, exists_eq]
            try rfl
        · have hd2 : decide (w.votes[i] > 0) = false := decide_eq_false hp
          have hst := certsTo_no (w := w) (k := i) (fun e => hp (by rw [← hgi]; exact e.2))
          simp (config := { maxSteps := 4000000 }) only [go_sem, simprocAttr, ↓dnA, Tryz.f120, rows_length, encW, nlt h, h, nn0, rows_get _ _ _ h, encI, hd, hd2, hw]
          refine ⟨i + 1, [(1, 1), (3, 3)], by omega, by dsimp only; omega, Weak.of (by rfl) ?_ ?_ (by rfl)⟩
          · simp (config := { maxSteps := 4000000 }) only [go_sem, simprocAttr, ↓dnA, Tryz.f120, rows_length, encW, hst, frW, wk2, wk1, wkL, wkB, hpW, List.mem_cons, Prod.mk.injEq, exists_eq_left, exists_eq_right, exists_eq]
          · simp (config := { maxSteps := 4000000 }) only [go_sem, simprocAttr, ↓dnA, Tryz.f120, rows_length, hst, frW, wk2, wk1, wkL, wkB, hpW, List.mem_cons, Prod.mk.injEq, exists_eq_left, exists_eq_right, exists_eq]
    · have hi' : i = w.votes.length := by omega
      subst hi'
      simp (config := { maxSteps := 4000000 }) only [go_sem, simprocAttr, ↓dnA, Tryz.f120, rows_length, nlf h]

theorem c_impl_WorldCerts (n1 n2 n3 n4 n5 : Option Bool) (w : Wld) (hx : WldSz w) :
    Det Tryz.prog 41 [.agg (encW n1 n2 n3 n4 n5 w)] (.osl false 3 (rows encC (worldCerts w))) := by
  refine fspec_det tab_ok Tryz.call41 Tryz.func41 rfl 8 Tryz.ntmps41 (of_decide_eq_true rfl) fun B => codeK_sound tab_ok _ _ _ ?_
  simp (config := { maxSteps := 4000000 }) only [go_sem, simprocAttr, ↓dnA, Tryz.f41, rows_length, encW]
  refine CallTo.det (c_impl_WorldValid n1 n2 n3 n4 n5 w hx) fun _ => ?_
  cases h0 : worldValid w with
  | false => simp (config := { maxSteps := 4000000 }) only [go_sem, simprocAttr, ↓dnA, Tryz.f41, rows_length, encW, h0, worldCerts_no h0, rows_nil]
  | true =>
    simp (config := { maxSteps := 4000000 }) only [go_sem, simprocAttr, ↓dnA, Tryz.f41, rows_length, encW, h0]
    refine CallTo.det (c_impl_certs n1 n2 n3 n4 n5 w hx h0) fun _ => ?_
    simp (config := { maxSteps := 4000000 }) only [go_sem, simprocAttr, ↓dnA, Tryz.f41, rows_length, encW, h0, worldCerts_yes h0]

theorem c_spec_WorldCerts (n1 n2 n3 n4 n5 : Option Bool) (w : Wld) (hx : WldSz w) :
    Det Tryz.prog 42 [.agg (encW n1 n2 n3 n4 n5 w)] (.osl true 3 (rows encC (worldCerts w))) := by
  refine fspec_det tab_ok Tryz.call42 Tryz.func42 rfl 47 Tryz.ntmps42 (of_decide_eq_true rfl) fun B => codeK_sound tab_ok _ _ _ ?_
  have hvt := hx.votes
  cases h0 : worldValid w with
  | false =>
    rw [worldCerts_no h0]
    simp (config := { maxSteps := 4000000 }) only [go_sem, simprocAttr, ↓dnA, Tryz.f42, rows_length, encW]
    refine semL_for tab_ok (fun _ : Nat => ⟨47, [(1, .loc 1 0), (3, .row 600 0), (4, .int .i64 1)], [(1, .var (encW n1 n2 n3 n4 n5 w)), (600, .row true true 3 [])]⟩) (fun i => i) (fun _ => True) 0 [(1, 1), (5, 600)] (Weak.of (by rfl) ?_ ?_ (by rfl)) trivial ?_
    · simp (config := { maxSteps := 4000000 }) only [go_sem, simprocAttr, ↓dnA, Tryz.f42, rows_length, encW, frW, wk2, wk1, wkL, wkB, hpW, List.mem_cons, Prod.mk.injEq, exists_eq_left, exists_eq_right, exists_eq]
      try rfl
    · simp (config := { maxSteps := 4000000 }) only [go_sem, simprocAttr, ↓dnA, Tryz.f42, rows_length, frW, wk2, wk1, wkL, wkB, hpW, List.mem_cons, Prod.mk.injEq, exists_eq_left, exists_eq_right, exists_eq]
    · rintro i -
      by_cases h : (1 : Int) < (w.votes.length : Int)
      · simp (config := { maxSteps := 4000000 }) only [go_sem, simprocAttr, ↓dnA, Tryz.f42, rows_length, encW, decide_eq_true h]
        refine CallTo.det (c_spec_WorldValid n1 n2 n3 n4 n5 w hx) fun _ => ?_
        simp (config := { maxSteps := 4000000 }) only [go_sem, simprocAttr, ↓dnA, Tryz.f42, rows_length, encW, decide_eq_true h, h0, rows_nil, List.length_nil]
      · simp (config := { maxSteps := 4000000 }) only [go_sem, simprocAttr, ↓dnA, Tryz.f42, rows_length, encW, decide_eq_false h, rows_nil, List.length_nil]
  | true =>
    rw [worldCerts_yes h0]
    obtain ⟨ht, h4, hvo, hvl, hvs⟩ := worldValid_parts h0
    have hlen := ht.len
    have hc1 : certsTo w 1 = [] := certsTo_no (w := w) (k := 0) (fun e => by omega)
    simp (config := { maxSteps := 4000000 }) only [go_sem, simprocAttr, ↓dnA, Tryz.f42, rows_length, encW]
    refine semL_for tab_ok (fun i : Nat => ⟨47, [(1, .loc 1 0), (3, .row 600 (certsTo w i).length), (4, .int .i64 i)],
        [(1, .var (encW n1 n2 n3 n4 n5 w)), (600, .row true true 3 (rows encC (certsTo w i)))]⟩) (fun i => w.votes.length - i)
      (fun i => 1 ≤ i ∧ i ≤ w.votes.length) 1 [(1, 1), (5, 600)] (Weak.of (by rfl) ?_ ?_ (by rfl)) (by omega) ?_
    · simp (config := { maxSteps := 4000000 }) only [go_sem, simprocAttr, ↓dnA, Tryz.f42, rows_length, encW, hc1, frW, wk2, wk1, wkL, wkB, hpW, List.mem_cons, Prod.mk.injEq, exists_eq_left, exists_eq_right, exists_eq]
      try rfl
    · simp (config := { maxSteps := 4000000 }) only [go_sem, simprocAttr, ↓dnA, Tryz.f42, rows_length, hc1, List.length_nil, frW, wk2, wk1, wkL, wkB, hpW, List.mem_cons, Prod.mk.injEq, exists_eq_left, exists_eq_right, exists_eq]
      try rfl
    · rintro i ⟨hi1, hi⟩
      by_cases h : i < w.votes.length
      · have hw : IntKind.i64.wrap ((i : Int) + 1) = ((i + 1 : Nat) : Int) := wsucc h (by omega)
        have hgi : w.votes.getD i 0 = w.votes[i] := by rw [List.getD_eq_getElem?_getD, List.getElem?_eq_getElem h]; rfl
        have hac := certsTo_len w i
        have htk := take_rows encC (certsTo w i) (certsTo w i).length rfl
        have hd0 : decide ((i : Int) < (w.votes.length : Int)) = true := by simp; omega
        simp (config := { maxSteps := 4000000 }) only [go_sem, simprocAttr, ↓dnA, Tryz.f42, rows_length, encW, hd0]
        refine CallTo.det (c_spec_WorldValid n1 n2 n3 n4 n5 w hx) fun _ => ?_
        by_cases hp : 0 < w.votes[i]
        · have hd2 : decide (w.votes[i] > 0) = true := decide_eq_true hp
          have hst := certsTo_yes (w := w) (k := i) ⟨by omega, by rw [hgi]; exact hp⟩
          have hil : i < w.tree.blocks.length := by omega
          have g1 := rows_gd encB1 w.tree.blocks i hil
          have hbl : (w.tree.blk i).list.length < 2 ^ 62 := by
            have := hx.tree.list _ (List.getElem_mem hil)
            rw [w.tree.blk_get i hil] at this
            exact this
          simp (config := { maxSteps := 4000000 }) only [go_sem, simprocAttr, ↓dnA, Tryz.f42, rows_length, encW, hd0, h0, nlt h, h, nn0, rows_get _ _ _ h, encI, hd2]
          refine semL_drawL tab_ok 23 mixed_ rfl (ord := [(0, []), (1, []), (2, []), (3, []), (4, []), (5, []), (6, []), (8, []), (9, []), (10, []), (11, []), (12, []), (13, []), (14, []), (15, []), (16, []), (17, []), (18, []), (19, []), (7, [0, 8, 9, 10, 11, 12, 13, 14, 15, 16, 17, 18, 19]), (20, []), (21, [0]), (22, [])]) (by dsimp only; decide +kernel) ?_
          simp (config := { maxSteps := 4000000 }) only [go_sem, simprocAttr, ↓dnA, Tryz.f42, rows_length, encW, hd0, h0, nlt h, h, nn0, rows_get _ _ _ h, encI, hd2, nlt hil, hil, g1, encB1, encBk]
          refine CallTo.det (c_spec_BlockSum none (w.tree.blk i) hbl) fun _ => ?_
          simp (config := { maxSteps := 4000000 }) only [go_sem, simprocAttr, ↓dnA, Tryz.f42, rows_length, encW, hd0, h0, nlt h, h, nn0, rows_get _ _ _ h, encI, hd2, nlt hil, hil, g1, encB1, encBk, htk, hw]
          repeat refine And.intro (by first | omega | (simp; done) | (simp; omega) | assumption) ?_
          refine ⟨i + 1, [(1, 1), (45, 600)], by omega, by dsimp only; omega, Weak.of (by rfl) ?_ ?_ (by rfl)⟩
          · simp (config := { maxSteps := 4000000 }) only [go_sem, simprocAttr, ↓dnA, Tryz.f42, rows_length, encW, hst, frW, wk2, wk1, wkL, wkB, hpW, List.mem_cons, Prod.mk.injEq, exists_eq_left, exists_eq_right, exists_eq]
            rw [← rows_snoc]
            unfold certAt encC
            rw [hgi]
            rfl
          · simp (config := { maxSteps := 4000000 }) only [go_sem, simprocAttr, ↓dnA, Tryz.f42, rows_length, hst, List.length_append, frW, wk2, wk1, wkL, wkB, hpW, List.mem_cons, Prod.mk.injEq, exists_eq_left, exists_eq_right, exists_eq]
            try rfl
        · have hd2 : decide (w.votes[i] > 0) = false := decide_eq_false hp
          have hst := certsTo_no (w := w) (k := i) (fun e => hp (by rw [← hgi]; exact e.2))
          simp (config := { maxSteps := 4000000 }) only [go_sem, simprocAttr, ↓dnA, Tryz.f42, rows_length, encW, hd0, h0, nlt h, h, nn0, rows_get _ _ _ h, encI, hd2, hw]
          refine ⟨i + 1, [(1, 1), (600, 600)], by omega, by dsimp only; omega, Weak.of (by rfl) ?_ ?_ (by rfl)⟩
          · simp (config := { maxSteps := 4000000 }) only [go_sem, simprocAttr, ↓dnA, Tryz.f42, rows_length, encW, hst, frW, wk2, wk1, wkL, wkB, hpW, List.mem_cons, Prod.mk.injEq, exists_eq_left, exists_eq_right, exists_eq]
          · simp (config := { maxSteps := 4000000 }) only [go_sem, simprocAttr, ↓dnA, Tryz.f42, rows_length, hst, frW, wk2, wk1, wkL, wkB, hpW, List.mem_cons, Prod.mk.injEq, exists_eq_left, exists_eq_right, exists_eq]
      · have hi' : i = w.votes.length := by omega
        subst hi'
        have hd0 : decide ((w.votes.length : Int) < (w.votes.length : Int)) = false := by simp
        simp (config := { maxSteps := 4000000 }) only [go_sem, simprocAttr, ↓dnA, Tryz.f42, rows_length, encW, hd0]

end Go.Proofs.YtmibclbinebnjaaGreat

/- Bounds of sums; next blocks are valid; trees that grow stay valid: plain lemmas. -/
set_option linter.unusedSimpArgs false
set_option linter.unusedVariables false
set_option maxRecDepth 20000
set_option maxHeartbeats 4000000
namespace Go.Proofs.YtmibclbinebnjaaGreat
open Go Go.RowKit

theorem sumI_bd : ∀ (l : List Int) (s : Int), 0 ≤ s ∧ s ≤ 1000002 → 0 ≤ sumI s l ∧ sumI s l ≤ 1000002
  | [], s, h => h
  | x :: l, s, _ => sumI_bd l (moreI s x) (by have := moreI_bd s x; omega)

theorem blockSum_in {b : Block} (h : blockValid b = true) : 0 ≤ blockSum b ∧ blockSum b ≤ 1000002 := by
  unfold blockSum
  rw [if_pos h]
  exact sumI_bd _ _ (by decide)

end Go.Proofs.YtmibclbinebnjaaGreat

/- Plain laws of certificates and worlds. -/
set_option linter.unusedSimpArgs false
set_option linter.unusedVariables false
set_option maxRecDepth 20000
set_option maxHeartbeats 4000000
namespace Go.Proofs.YtmibclbinebnjaaGreat
open Go Go.RowKit

/-- What one list marks the other marks too. -/
structure LeB (l m : List Bool) : Prop where
  len : l.length = m.length
  le : ∀ k, l.getD k false = true → m.getD k false = true
theorem LeB.refl (l : List Bool) : LeB l l := ⟨rfl, fun _ h => h⟩
theorem LeB.trans {a b c : List Bool} (h : LeB a b) (g : LeB b c) : LeB a c := ⟨h.len.trans g.len, fun k hk => g.le k (h.le k hk)⟩
theorem getD_set_true (l : List Bool) (i k : Nat) (h : l.getD k false = true) : (l.set i true).getD k false = true := by
  rw [List.getD_eq_getElem?_getD] at h ⊢
  rw [List.getElem?_set]
  split
  · rename_i e
    subst e
    split
    · rfl
    · rename_i e2
      rw [List.getElem?_eq_none (by omega)] at h
      cases h
  · exact h
theorem findB_blk {t : Tree} (ht : TreeOk t) {i : Nat} (h : i < t.blocks.length) : findB t.blocks (blockSum (t.blk i)) = (i : Int) :=
  (findB_self t i h).2 fun k hk => ht.dist k i hk h
theorem certsTo_mem (w : Wld) : ∀ (n : Nat) (c : Cert), c ∈ certsTo w n → ∃ j, 0 < j ∧ j < n ∧ 0 < w.votes.getD j 0 ∧ c = certAt w j
  | 0, c, h => by simp [certsTo] at h
  | n + 1, c, h => by
    unfold certsTo at h
    split at h
    · rename_i g
      rw [List.mem_append, List.mem_singleton] at h
      rcases h with h | rfl
      · obtain ⟨j, h1, h2, h3, h4⟩ := certsTo_mem w n c h
        exact ⟨j, h1, by omega, h3, h4⟩
      · exact ⟨n, g.1, by omega, g.2, rfl⟩
    · obtain ⟨j, h1, h2, h3, h4⟩ := certsTo_mem w n c h
      exact ⟨j, h1, by omega, h3, h4⟩

theorem worldCerts_at {w : Wld} (h : worldValid w = true) {i : Nat} (hi : i < (worldCerts w).length) :
    ∃ j : Nat, 0 < j ∧ j < w.votes.length ∧ (worldCerts w)[i] = certAt w j ∧ certValid (certAt w j) = true ∧ findB w.tree.blocks (certAt w j).sum = (j : Int) ∧ 0 < w.votes.getD j 0 ∧ 0 ≤ (certAt w j).sum := by
  obtain ⟨ht, _, _, hl, hv⟩ := worldValid_parts h
  have hm0 : (worldCerts w)[i] ∈ worldCerts w := List.getElem_mem hi
  have hm1 : ∀ c, c ∈ worldCerts w → c ∈ certsTo w w.votes.length := fun c hc => by rw [worldCerts_yes h] at hc; exact hc
  have hm := hm1 _ hm0
  obtain ⟨j, h1, h2, h3, h4⟩ := certsTo_mem w _ _ hm
  have hj : j < w.tree.blocks.length := by omega
  have hb := ht.valid j hj
  have b1 := blockSum_in hb
  have b2 := view_bd hb
  have b3 : 0 ≤ w.votes.getD j 0 ∧ w.votes.getD j 0 ≤ 15 := by
    have e : w.votes.getD j 0 = w.votes[j] := by simp [List.getD_eq_getElem?_getD, h2]
    rw [e]
    exact hv _ (List.getElem_mem h2)
  refine ⟨j, h1, h2, h4, ?_, findB_blk ht hj, h3, b1.1⟩
  unfold certValid certAt
  simp only [Bool.and_eq_true]
  exact ⟨⟨inB_iff.2 b1, inB_iff.2 b2⟩, inB_iff.2 b3⟩

end Go.Proofs.YtmibclbinebnjaaGreat

/- Contracts: blocks that are found. -/
set_option linter.unusedSimpArgs false
set_option linter.unusedVariables false
set_option maxRecDepth 20000
set_option maxHeartbeats 4000000
namespace Go.Proofs.YtmibclbinebnjaaGreat
open Go Go.RowKit

noncomputable def findBlock (t : Tree) (sum : Int) : Int := if treeValid t = true then (if sum < 0 then -1 else findB t.blocks sum) else -1
theorem c_impl_FindBlock (n1 n2 n3 : Option Bool) (t : Tree) (sum : Int) (hx : TreeSz t) : Det Tryz.prog 43 [.agg (encT n1 n2 n3 t), .int .i64 sum] (.int .i64 (findBlock t sum)) := by
  refine fspec_det tab_ok Tryz.call43 Tryz.func43 rfl 15 Tryz.ntmps43 (of_decide_eq_true rfl) fun B => codeK_sound tab_ok _ _ _ ?_
  unfold findBlock
  simp (config := { maxSteps := 4000000 }) only [go_sem, simprocAttr, ↓dnA, Tryz.f43, rows_length, encT]
  refine CallTo.det (c_impl_BlockTreeValid n1 n2 n3 t hx) fun _ => ?_
  cases h0 : treeValid t with
  | false => simp (config := { maxSteps := 4000000 }) only [go_sem, simprocAttr, ↓dnA, Tryz.f43, rows_length, encT, h0]
  | true =>
    by_cases hs : sum < 0
    · simp (config := { maxSteps := 4000000 }) only [go_sem, simprocAttr, ↓dnA, Tryz.f43, rows_length, encT, h0, decide_eq_true hs, if_pos hs]
    · simp (config := { maxSteps := 4000000 }) only [go_sem, simprocAttr, ↓dnA, Tryz.f43, rows_length, encT, h0, decide_eq_false hs, if_neg hs]
      refine CallTo.det (c_impl_find n1 n2 n3 t sum hx) fun _ => ?_
      simp (config := { maxSteps := 4000000 }) only [go_sem, simprocAttr, ↓dnA, Tryz.f43, rows_length, encT, h0, decide_eq_false hs, if_neg hs]

end Go.Proofs.YtmibclbinebnjaaGreat

/- FnWorldCerts. -/
set_option linter.unusedSimpArgs false
set_option linter.unusedVariables false
set_option maxRecDepth 20000
set_option maxHeartbeats 4000000
namespace Go.Proofs.YtmibclbinebnjaaGreat
open Go Go.RowKit

theorem c_spec_DrawWorldCerts (nb : Option Bool) (bs : List Int) (h : CodeOk bs) : FSpec Tryz.prog 40 [.sl nb (rows encB bs)] false [] DrawWQ := by
  refine fspec_rel tab_ok Tryz.call40 Tryz.func40 rfl 6 Tryz.ntmps40 (of_decide_eq_true rfl) fun B => codeK_sound tab_ok _ _ _ ?_
  simp (config := { maxSteps := 4000000 }) only [go_sem, simprocAttr, ↓dnA, Tryz.f40, rows_length]
  refine CallTo.of (c_spec_l20Open nb bs h) ?_
  rintro r b rfl
  unfold rd
  simp (config := { maxSteps := 4000000 }) only [go_sem, simprocAttr, ↓dnA, Tryz.f40, rows_length]
  have h0 := code_take h
  generalize bs.take 2000 = bs at h0
  refine CallTo.of (c_spec_l20World nb _ 0 9 h0 (by omega) (by omega)) ?_
  rintro r b ⟨w, q, rfl, rfl, _, _, hw⟩
  simp (config := { maxSteps := 4000000 }) only [go_sem, simprocAttr, ↓dnA, Tryz.f40, rows_length, rd, encW]
  exact .same ⟨w, by simp [encW], hw⟩

theorem c_laws_FnWorldCerts (nb : Option Bool) (bs : List Int) (h : ∀ b, b ∈ bs → 0 ≤ b ∧ b ≤ 255) : Det Tryz.prog 7 [.sl nb (rows encB bs)] (.bool true) := by
  refine fspec_det tab_ok Tryz.call7 Tryz.func7 rfl 100 Tryz.ntmps7 (of_decide_eq_true rfl) fun B => codeK_sound tab_ok _ _ _ ?_
  simp (config := { maxSteps := 4000000 }) only [go_sem, simprocAttr, ↓dnA, Tryz.f7, rows_length]
  intro hl
  have hc : CodeOk bs := ⟨h, by simp at hl; omega⟩
  refine CallTo.of (c_spec_DrawWorldCerts nb bs hc) ?_
  rintro r b ⟨w, rfl, hw⟩
  have hx : WldSz w := WldS32.sz ⟨by omega⟩
  have hI := c_impl_WorldCerts none none none none none w hx
  have hS := c_spec_WorldCerts none none none none none w hx
  have hW := c_spec_WorldValid none none none none none w hx
  have hat := fun (h : worldValid w = true) (i : Nat) (hi : i < (worldCerts w).length) => worldCerts_at h hi
  have hno := fun (h : worldValid w = false) => worldCerts_no (w := w) h
  have hlt : worldValid w = true → (worldCerts w).length < w.votes.length := fun h => by
    have h1 := certsTo_len w w.votes.length
    obtain ⟨ht, _, _, hvl, _⟩ := worldValid_parts h
    have h2 := ht.len
    rw [worldCerts_yes h]; omega
  have hF := fun (s : Int) => c_impl_FindBlock none none none w.tree s hx.tree
  generalize worldCerts w = l at hI hS hat hno hlt
  have hne : ((l.length : Int) != (l.length : Int)) = false := by simp
  cases hv : worldValid w with
  | false =>
    rw [hv] at hW
    have e := hno hv
    subst e
    have z : ((0 : Int) == 0) = true := rfl
    have z2 : ((0 : Int) != 0) = false := rfl
    simp (config := { maxSteps := 4000000 }) only [go_sem, simprocAttr, ↓dnA, Tryz.f7, rows_length, encW]
    refine CallTo.det hI fun _ => ?_
    simp (config := { maxSteps := 4000000 }) only [go_sem, simprocAttr, ↓dnA, Tryz.f7, rows_length, encW]
    refine CallTo.det hS fun _ => ?_
    simp (config := { maxSteps := 4000000 }) only [go_sem, simprocAttr, ↓dnA, Tryz.f7, rows_length, encW, List.length_nil, nc0, z2]
    refine CallTo.det hW fun _ => ?_
    simp (config := { maxSteps := 4000000 }) only [go_sem, simprocAttr, ↓dnA, Tryz.f7, rows_length, encW, List.length_nil, nc0, z, z2]
    refine CallTo.det c_laws_alive fun _ => ?_
    simp (config := { maxSteps := 4000000 }) only [go_sem, simprocAttr, ↓dnA, Tryz.f7, rows_length, encW, List.length_nil, nc0, z, z2]
  | true =>
    rw [hv] at hW
    have hat := hat hv
    have hlt := hlt hv
    have hvl : w.votes.length ≤ 300 := by unfold wsz at hw; omega
    simp (config := { maxSteps := 4000000 }) only [go_sem, simprocAttr, ↓dnA, Tryz.f7, rows_length, encW]
    refine CallTo.det hI fun _ => ?_
    simp (config := { maxSteps := 4000000 }) only [go_sem, simprocAttr, ↓dnA, Tryz.f7, rows_length, encW]
    refine CallTo.det hS fun _ => ?_
    simp (config := { maxSteps := 4000000 }) only [go_sem, simprocAttr, ↓dnA, Tryz.f7, rows_length, encW, hne]
    refine CallTo.det hW fun _ => ?_
    simp (config := { maxSteps := 4000000 }) only [go_sem, simprocAttr, ↓dnA, Tryz.f7, rows_length, encW, hne]
    refine semL_for tab_ok (fun k : Nat => ⟨100, [(3, .loc 3 0), (4, .row 601 l.length), (5, .row 602 l.length), (6, .int .i64 k)],
      [(3, .var (encW none none none none none w)), (601, .row true false 3 (rows encC l)), (602, .row true true 3 (rows encC l))]⟩) (fun k => l.length - k)
      (fun k => k ≤ l.length) 0 [(3, 3), (15000, 601), (17000, 602)] (Weak.of (by rfl) ?_ ?_ (by rfl)) (by omega) ?_
    · simp (config := { maxSteps := 4000000 }) only [go_sem, simprocAttr, ↓dnA, Tryz.f7, rows_length, encW, frW, wk2, wk1, wkL, wkB, hpW, List.mem_cons, Prod.mk.injEq, exists_eq_left, exists_eq_right, exists_eq]
      try rfl
    · simp (config := { maxSteps := 4000000 }) only [go_sem, simprocAttr, ↓dnA, Tryz.f7, rows_length, encW, nc0, frW, wk2, wk1, wkL, wkB, hpW, List.mem_cons, Prod.mk.injEq, exists_eq_left, exists_eq_right, exists_eq]
      try rfl
    · rintro k hk
      by_cases h : k < l.length
      · have hwk : IntKind.i64.wrap ((k : Int) + 1) = ((k + 1 : Nat) : Int) := wsucc h (by omega)
        obtain ⟨j, j1, j2, j3, j4, j5, j6, j7⟩ := hat k h
        have hck : (rows encC l).getD k [] = encC (certAt w j) := by rw [rows_get _ _ _ h, j3]
        have hsg : (certAt w j).signers = w.votes.getD j 0 := rfl
        generalize certAt w j = c at j4 j5 j7 hck hsg
        obtain ⟨sm, vi, sg⟩ := c
        dsimp only at j4 j5 j7 hck hsg
        have hFj := hF sm
        have hfe : findBlock w.tree sm = (j : Int) := by
          unfold findBlock
          rw [if_pos (treeValid_true (worldValid_parts hv).1), if_neg (by omega), j5]
        rw [hfe] at hFj
        have hCV := c_impl_CertValid ⟨sm, vi, sg⟩
        rw [j4] at hCV
        have hvj : (rows encI w.votes).getD j [] = [.int .i64 sg] := by
          rw [rows_get _ _ _ j2, hsg]
          have e : w.votes.getD j 0 = w.votes[j] := by simp [List.getD_eq_getElem?_getD, j2]
          rw [e]; rfl
        have d1 : ((j : Int) < 1) = False := by simp; omega
        have d2 : decide ((j : Int) ≥ (w.votes.length : Int)) = false := by simp; omega
        have d3 : (sg != sg) = false := by simp
        have d4 : (sg == 0) = false := beq_eq_false_iff_ne.2 (by omega)
        simp (config := { maxSteps := 4000000 }) only [go_sem, simprocAttr, ↓dnA, Tryz.f7, rows_length, encW, nlt h]
        refine semL_draw tab_ok mixed_ rfl (ord := [(0, []), (1, []), (2, []), (3, []), (4, []), (5, []), (6, []), (7, []), (8, [])]) (by dsimp only; decide +kernel) ?_
        simp (config := { maxSteps := 4000000 }) only [go_sem, simprocAttr, ↓dnA, Tryz.f7, rows_length, encW, nlt h, h, nn0, hck, encC]
        refine CallTo.det hFj fun _ => ?_
        simp (config := { maxSteps := 4000000 }) only [go_sem, simprocAttr, ↓dnA, Tryz.f7, rows_length, encW, nlt h, h, nn0, hck, encC]
        refine semL_draw tab_ok mixed_ rfl (ord := [(0, []), (1, []), (2, []), (3, []), (4, []), (5, []), (6, []), (7, []), (8, []), (9, []), (10, []), (11, []), (12, []), (13, []), (14, []), (15, []), (16, []), (17, []), (18, []), (19, []), (20, []), (21, []), (22, []), (23, []), (24, []), (25, []), (26, []), (27, []), (28, []), (29, []), (30, []), (31, []), (32, []), (33, []), (34, []), (35, []), (36, []), (37, []), (38, []), (39, []), (40, []), (41, []), (42, []), (43, []), (44, []), (45, []), (46, []), (47, []), (48, [])]) (by dsimp only; decide +kernel) ?_
        simp (config := { maxSteps := 4000000 }) only [go_sem, simprocAttr, ↓dnA, Tryz.f7, rows_length, encW, nlt h, h, nn0, hck, encC, eqCellsK, BEq.rfl, Bool.and_true]
        refine CallTo.det hCV fun _ => ?_
        simp (config := { maxSteps := 4000000 }) only [go_sem, simprocAttr, ↓dnA, Tryz.f7, rows_length, encW, nlt h, h, nn0, hck, encC, eqCellsK, BEq.rfl, Bool.and_true, d1, d2, d3, d4, nlt j2, j2, hvj, hwk]
        refine ⟨k + 1, [(3, 3), (601, 601), (602, 602)], by omega, by dsimp only; omega, Weak.of (by rfl) ?_ ?_ (by rfl)⟩
        · simp (config := { maxSteps := 4000000 }) only [go_sem, simprocAttr, ↓dnA, Tryz.f7, rows_length, encW, frW, wk2, wk1, wkL, wkB, hpW, List.mem_cons, Prod.mk.injEq, exists_eq_left, exists_eq_right, exists_eq]
          try rfl
        · simp (config := { maxSteps := 4000000 }) only [go_sem, simprocAttr, ↓dnA, Tryz.f7, rows_length, encW, frW, wk2, wk1, wkL, wkB, hpW, List.mem_cons, Prod.mk.injEq, exists_eq_left, exists_eq_right, exists_eq]
          try rfl
      · have hk' : k = l.length := by omega
        have hd : decide ((l.length : Int) < (w.votes.length : Int)) = true := by simp; omega
        subst hk'
        simp (config := { maxSteps := 4000000 }) only [go_sem, simprocAttr, ↓dnA, Tryz.f7, rows_length, encW, nlf h, hd]

end Go.Proofs.YtmibclbinebnjaaGreat

/- Arguments of the laws, by their types. -/
set_option linter.unusedSimpArgs false
namespace Go.Proofs.YtmibclbinebnjaaGreat
open Go Go.ChangeShapes Go.WideShapes Go.ChangeAt Go.RowKit

theorem own_ : ownKnob Tryz.prog.godebug = none := by kernel_rfl
theorem laidOut_ : laidOutB Tryz.prog = true := by kernel_rfl

/-- The cells of one value read as the cells of a datum. -/
def Leqs (r c : List AV) : Prop := r.length = c.length ∧ ∀ (j : Nat) (_ : j < c.length), Leq (r.getD j .top) (c.getD j .top)
theorem Leqs.refl (c : List AV) : Leqs c c := ⟨rfl, fun _ _ => Leq.refl _⟩
theorem Leqs.agg {r c : List AV} (h : Leqs r c) : Leq (.agg r) (.agg c) := Leq.agg h.1 h.2

theorem Leqs.cons {a b : AV} {r c : List AV} (h : Leq a b) (h' : Leqs r c) : Leqs (a :: r) (b :: c) := by
  refine ⟨by simp [h'.1], fun j hj => ?_⟩
  cases j with
  | zero => exact h
  | succ j => exact h'.2 j (by simpa using hj)

theorem Leqs.one {r : List AV} {b : AV} (h : Leqs r [b]) : ∃ a, r = [a] ∧ Leq a b := by
  obtain ⟨h1, h2⟩ := h
  match r, h1 with
  | [a], _ => exact ⟨a, rfl, h2 0 (by simp)⟩

end Go.Proofs.YtmibclbinebnjaaGreat

/- Arguments of the laws, by their types: slices of entries, of actions. -/
set_option linter.unusedSimpArgs false
namespace Go.Proofs.YtmibclbinebnjaaGreat
open Go Go.RowKit

end Go.Proofs.YtmibclbinebnjaaGreat

/- Arguments of the laws, by their types: blocks. -/
set_option linter.unusedSimpArgs false
namespace Go.Proofs.YtmibclbinebnjaaGreat
open Go Go.RowKit

end Go.Proofs.YtmibclbinebnjaaGreat

/- Arguments of the laws, by their types: codes. -/
set_option linter.unusedSimpArgs false
namespace Go.Proofs.YtmibclbinebnjaaGreat
open Go Go.RowKit

/-- A slice of elements that read as data. -/
theorem ty_rowsC {α : Type} (e : α → List AV) {et : TypeId} {es : List (List AV)} (h : ∀ (j : Nat) (_ : j < es.length), Ty tab et (es.getD j [])) (hx : ∀ r, Ty tab et r → ∃ x, r.length = (e x).length ∧ ∀ (j : Nat) (_ : j < (e x).length), Leq (r.getD j .top) ((e x).getD j .top)) :
    ∃ xs : List α, es.length = xs.length ∧ ∀ nn, Leq (.sl nn es) (.sl nn (rows e xs)) := by
  have key : ∃ xs : List α, es.length = xs.length ∧ ∀ (i : Nat) (hi : i < xs.length), (es.getD i []).length = (e (xs[i]'hi)).length ∧ ∀ (j : Nat) (_ : j < (e (xs[i]'hi)).length), Leq ((es.getD i []).getD j .top) ((e (xs[i]'hi)).getD j .top) := by
    induction es with
    | nil => exact ⟨[], rfl, fun i hi => absurd hi (by simp)⟩
    | cons r rs ih =>
      obtain ⟨x, hx1, hx2⟩ := hx r (h 0 (by simp))
      obtain ⟨xs, h1, h2⟩ := ih (fun j hj => h (j + 1) (by simpa using hj))
      refine ⟨x :: xs, by simp [h1], fun i hi => ?_⟩
      cases i with
      | zero => exact ⟨hx1, hx2⟩
      | succ i => exact h2 i (by simpa using hi)
  obtain ⟨xs, h1, h2⟩ := key
  refine ⟨xs, h1, fun nn => Leq.sl (by rw [rows_length, h1]) (fun i hi => ?_) (fun i j hi hj => ?_)⟩
  · rw [rows_length] at hi
    rw [rows_get _ _ _ hi]
    exact (h2 i hi).1
  · rw [rows_length] at hi
    rw [rows_get _ _ _ hi] at hj ⊢
    exact (h2 i hi).2 j hj

theorem ty_code {a : AV} (h : TyArg tab 22 a) : ∃ nb bs, Leq a (.sl nb (rows encB bs)) ∧ ∀ b, b ∈ bs → 0 ≤ b ∧ b ≤ 255 := by
  obtain ⟨nn, es, e1, _, _, he⟩ := (h.one_inv tabAt_22 rfl).slice_inv tabAt_22 rfl
  have hx : ∀ r, Ty tab 5 r → ∃ x : { n : Int // 0 ≤ n ∧ n ≤ 255 }, r.length = (encB x.1).length ∧ ∀ (j : Nat) (_ : j < (encB x.1).length), Leq (r.getD j .top) ((encB x.1).getD j .top) := by
    intro r hr
    obtain ⟨n, e, hn⟩ := hr.int_inv tabAt_5 rfl
    have hn' : 0 ≤ n ∧ n ≤ 255 := hn
    exact ⟨⟨n, hn'⟩, by rw [e]; rfl, fun j _ => by rw [e]; exact Leq.refl _⟩
  obtain ⟨xs, h1, h2⟩ := ty_rowsC (fun x : { n : Int // 0 ≤ n ∧ n ≤ 255 } => encB x.1) he hx
  have ea : a = .sl (some nn) es := by simpa using e1
  refine ⟨some nn, xs.map (·.1), ?_, fun b hb => ?_⟩
  · rw [ea]
    have := h2 (some nn)
    have e3 : rows (fun x : { n : Int // 0 ≤ n ∧ n ≤ 255 } => encB x.1) xs = rows encB (xs.map (·.1)) := by simp [rows]
    rwa [e3] at this
  · obtain ⟨x, _, rfl⟩ := List.mem_map.1 hb
    exact x.2

/-- A law of a code. -/
theorem law_code {k : FuncId} (h : ∀ nb bs, (∀ b, b ∈ bs → 0 ≤ b ∧ b ≤ 255) → Det Tryz.prog k [.sl nb (rows encB bs)] (.bool true)) {cs : List AV} (hc : TyArgs tab [22] cs) : Det Tryz.prog k cs (.bool true) := by
  match cs, hc with
  | [a], hc =>
    obtain ⟨nb, bs, h1, h2⟩ := ty_code hc.1
    refine FSpec.args (h nb bs h2) rfl fun i hi => ?_
    have : i = 0 := by simp at hi; exact hi
    subst this
    exact h1

end Go.Proofs.YtmibclbinebnjaaGreat

/- The closed facts that hold of the program alone. -/
namespace Go.Proofs.YtmibclbinebnjaaGreat
open Go Go.ChangeShapes Go.WideShapes Go.ChangeAt Go.RowKit

/-- The letters of the translation's header. -/
def headL : List Char := [.ofNat 104, .ofNat 97, .ofNat 114, .ofNat 110, .ofNat 101, .ofNat 115, .ofNat 115, .ofNat 32, .ofNat 101, .ofNat 53, .ofNat 101, .ofNat 101, .ofNat 53, .ofNat 50, .ofNat 48, .ofNat 48, .ofNat 52, .ofNat 55, .ofNat 102, .ofNat 56, .ofNat 101, .ofNat 50, .ofNat 52, .ofNat 100, .ofNat 51, .ofNat 101, .ofNat 97, .ofNat 53, .ofNat 99, .ofNat 50, .ofNat 98, .ofNat 97, .ofNat 53, .ofNat 48, .ofNat 56, .ofNat 50, .ofNat 53, .ofNat 100, .ofNat 101, .ofNat 97, .ofNat 102, .ofNat 48, .ofNat 53, .ofNat 52, .ofNat 98, .ofNat 97, .ofNat 52, .ofNat 97, .ofNat 53, .ofNat 101, .ofNat 57, .ofNat 55, .ofNat 56, .ofNat 51, .ofNat 48, .ofNat 48, .ofNat 57, .ofNat 50, .ofNat 50, .ofNat 56, .ofNat 56, .ofNat 101, .ofNat 52, .ofNat 54, .ofNat 51, .ofNat 48, .ofNat 102, .ofNat 101, .ofNat 52, .ofNat 52, .ofNat 49, .ofNat 51, .ofNat 32, .ofNat 99, .ofNat 117, .ofNat 116, .ofNat 32, .ofNat 97, .ofNat 116, .ofNat 32, .ofNat 108, .ofNat 111, .ofNat 111, .ofNat 112, .ofNat 46, .ofNat 101, .ofNat 120, .ofNat 97, .ofNat 109, .ofNat 112, .ofNat 108, .ofNat 101, .ofNat 47, .ofNat 98, .ofNat 108, .ofNat 111, .ofNat 99, .ofNat 107, .ofNat 101, .ofNat 120, .ofNat 101, .ofNat 99, .ofNat 117, .ofNat 116, .ofNat 111, .ofNat 114, .ofNat 47, .ofNat 108, .ofNat 97, .ofNat 119, .ofNat 115, .ofNat 46, .ofNat 70, .ofNat 110, .ofNat 87, .ofNat 111, .ofNat 114, .ofNat 108, .ofNat 100, .ofNat 86, .ofNat 97, .ofNat 108, .ofNat 105, .ofNat 100, .ofNat 32, .ofNat 108, .ofNat 111, .ofNat 111, .ofNat 112, .ofNat 46, .ofNat 101, .ofNat 120, .ofNat 97, .ofNat 109, .ofNat 112, .ofNat 108, .ofNat 101, .ofNat 47, .ofNat 98, .ofNat 108, .ofNat 111, .ofNat 99, .ofNat 107, .ofNat 101, .ofNat 120, .ofNat 101, .ofNat 99, .ofNat 117, .ofNat 116, .ofNat 111, .ofNat 114, .ofNat 47, .ofNat 108, .ofNat 97, .ofNat 119, .ofNat 115, .ofNat 46, .ofNat 70, .ofNat 110, .ofNat 67, .ofNat 101, .ofNat 114, .ofNat 116, .ofNat 66, .ofNat 108, .ofNat 111, .ofNat 99, .ofNat 107, .ofNat 32, .ofNat 108, .ofNat 111, .ofNat 111, .ofNat 112, .ofNat 46, .ofNat 101, .ofNat 120, .ofNat 97, .ofNat 109, .ofNat 112, .ofNat 108, .ofNat 101, .ofNat 47, .ofNat 98, .ofNat 108, .ofNat 111, .ofNat 99, .ofNat 107, .ofNat 101, .ofNat 120, .ofNat 101, .ofNat 99, .ofNat 117, .ofNat 116, .ofNat 111, .ofNat 114, .ofNat 47, .ofNat 108, .ofNat 97, .ofNat 119, .ofNat 115, .ofNat 46, .ofNat 70, .ofNat 110, .ofNat 67, .ofNat 101, .ofNat 114, .ofNat 116, .ofNat 105, .ofNat 102, .ofNat 105, .ofNat 101, .ofNat 100, .ofNat 66, .ofNat 108, .ofNat 111, .ofNat 99, .ofNat 107, .ofNat 115, .ofNat 32, .ofNat 108, .ofNat 111, .ofNat 111, .ofNat 112, .ofNat 46, .ofNat 101, .ofNat 120, .ofNat 97, .ofNat 109, .ofNat 112, .ofNat 108, .ofNat 101, .ofNat 47, .ofNat 98, .ofNat 108, .ofNat 111, .ofNat 99, .ofNat 107, .ofNat 101, .ofNat 120, .ofNat 101, .ofNat 99, .ofNat 117, .ofNat 116, .ofNat 111, .ofNat 114, .ofNat 47, .ofNat 108, .ofNat 97, .ofNat 119, .ofNat 115, .ofNat 46, .ofNat 70, .ofNat 110, .ofNat 69, .ofNat 120, .ofNat 97, .ofNat 99, .ofNat 116, .ofNat 67, .ofNat 111, .ofNat 109, .ofNat 109, .ofNat 105, .ofNat 116, .ofNat 116, .ofNat 101, .ofNat 100, .ofNat 84, .ofNat 111, .ofNat 32, .ofNat 108, .ofNat 111, .ofNat 111, .ofNat 112, .ofNat 46, .ofNat 101, .ofNat 120, .ofNat 97, .ofNat 109, .ofNat 112, .ofNat 108, .ofNat 101, .ofNat 47, .ofNat 98, .ofNat 108, .ofNat 111, .ofNat 99, .ofNat 107, .ofNat 101, .ofNat 120, .ofNat 101, .ofNat 99, .ofNat 117, .ofNat 116, .ofNat 111, .ofNat 114, .ofNat 47, .ofNat 108, .ofNat 97, .ofNat 119, .ofNat 115, .ofNat 46, .ofNat 70, .ofNat 110, .ofNat 87, .ofNat 111, .ofNat 114, .ofNat 108, .ofNat 100, .ofNat 67, .ofNat 101, .ofNat 114, .ofNat 116, .ofNat 115, .ofNat 32, .ofNat 108, .ofNat 111, .ofNat 111, .ofNat 112, .ofNat 46, .ofNat 101, .ofNat 120, .ofNat 97, .ofNat 109, .ofNat 112, .ofNat 108, .ofNat 101, .ofNat 47, .ofNat 98, .ofNat 108, .ofNat 111, .ofNat 99, .ofNat 107, .ofNat 101, .ofNat 120, .ofNat 101, .ofNat 99, .ofNat 117, .ofNat 116, .ofNat 111, .ofNat 114, .ofNat 47, .ofNat 108, .ofNat 97, .ofNat 119, .ofNat 115, .ofNat 46, .ofNat 70, .ofNat 110, .ofNat 69, .ofNat 120, .ofNat 97, .ofNat 99, .ofNat 116, .ofNat 87, .ofNat 111, .ofNat 114, .ofNat 108, .ofNat 100, .ofNat 67, .ofNat 101, .ofNat 114, .ofNat 116, .ofNat 115, .ofNat 32, .ofNat 108, .ofNat 111, .ofNat 111, .ofNat 112, .ofNat 46, .ofNat 101, .ofNat 120, .ofNat 97, .ofNat 109, .ofNat 112, .ofNat 108, .ofNat 101, .ofNat 47, .ofNat 98, .ofNat 108, .ofNat 111, .ofNat 99, .ofNat 107, .ofNat 101, .ofNat 120, .ofNat 101, .ofNat 99, .ofNat 117, .ofNat 116, .ofNat 111, .ofNat 114, .ofNat 47, .ofNat 108, .ofNat 97, .ofNat 119, .ofNat 115, .ofNat 46, .ofNat 70, .ofNat 110, .ofNat 69, .ofNat 120, .ofNat 97, .ofNat 99, .ofNat 116, .ofNat 67, .ofNat 101, .ofNat 114, .ofNat 116, .ofNat 105, .ofNat 102, .ofNat 105, .ofNat 101, .ofNat 100, .ofNat 66, .ofNat 108, .ofNat 111, .ofNat 99, .ofNat 107, .ofNat 115, .ofNat 32, .ofNat 108, .ofNat 111, .ofNat 111, .ofNat 112, .ofNat 46, .ofNat 101, .ofNat 120, .ofNat 97, .ofNat 109, .ofNat 112, .ofNat 108, .ofNat 101, .ofNat 47, .ofNat 98, .ofNat 108, .ofNat 111, .ofNat 99, .ofNat 107, .ofNat 101, .ofNat 120, .ofNat 101, .ofNat 99, .ofNat 117, .ofNat 116, .ofNat 111, .ofNat 114, .ofNat 47, .ofNat 108, .ofNat 97, .ofNat 119, .ofNat 115, .ofNat 46, .ofNat 70, .ofNat 110, .ofNat 69, .ofNat 120, .ofNat 97, .ofNat 99, .ofNat 116, .ofNat 87, .ofNat 111, .ofNat 114, .ofNat 108, .ofNat 100, .ofNat 79, .ofNat 102, .ofNat 32, .ofNat 108, .ofNat 111, .ofNat 111, .ofNat 112, .ofNat 46, .ofNat 101, .ofNat 120, .ofNat 97, .ofNat 109, .ofNat 112, .ofNat 108, .ofNat 101, .ofNat 47, .ofNat 98, .ofNat 108, .ofNat 111, .ofNat 99, .ofNat 107, .ofNat 101, .ofNat 120, .ofNat 101, .ofNat 99, .ofNat 117, .ofNat 116, .ofNat 111, .ofNat 114, .ofNat 47, .ofNat 108, .ofNat 97, .ofNat 119, .ofNat 115, .ofNat 46, .ofNat 70, .ofNat 110, .ofNat 69, .ofNat 120, .ofNat 97, .ofNat 99, .ofNat 116, .ofNat 67, .ofNat 111, .ofNat 109, .ofNat 109, .ofNat 105, .ofNat 116, .ofNat 115, .ofNat 65, .ofNat 103, .ofNat 114, .ofNat 101, .ofNat 101, .ofNat 32, .ofNat 108, .ofNat 111, .ofNat 111, .ofNat 112, .ofNat 46, .ofNat 101, .ofNat 120, .ofNat 97, .ofNat 109, .ofNat 112, .ofNat 108, .ofNat 101, .ofNat 47, .ofNat 98, .ofNat 108, .ofNat 111, .ofNat 99, .ofNat 107, .ofNat 101, .ofNat 120, .ofNat 101, .ofNat 99, .ofNat 117, .ofNat 116, .ofNat 111, .ofNat 114, .ofNat 47, .ofNat 108, .ofNat 97, .ofNat 119, .ofNat 115, .ofNat 46, .ofNat 70, .ofNat 110, .ofNat 69, .ofNat 120, .ofNat 97, .ofNat 99, .ofNat 116, .ofNat 67, .ofNat 111, .ofNat 109, .ofNat 109, .ofNat 105, .ofNat 116, .ofNat 72, .ofNat 101, .ofNat 97, .ofNat 100, .ofNat 115, .ofNat 32, .ofNat 108, .ofNat 111, .ofNat 111, .ofNat 112, .ofNat 46, .ofNat 101, .ofNat 120, .ofNat 97, .ofNat 109, .ofNat 112, .ofNat 108, .ofNat 101, .ofNat 47, .ofNat 98, .ofNat 108, .ofNat 111, .ofNat 99, .ofNat 107, .ofNat 101, .ofNat 120, .ofNat 101, .ofNat 99, .ofNat 117, .ofNat 116, .ofNat 111, .ofNat 114, .ofNat 47, .ofNat 108, .ofNat 97, .ofNat 119, .ofNat 115, .ofNat 46, .ofNat 70, .ofNat 110, .ofNat 69, .ofNat 120, .ofNat 97, .ofNat 99, .ofNat 116, .ofNat 87, .ofNat 111, .ofNat 114, .ofNat 108, .ofNat 100, .ofNat 72, .ofNat 101, .ofNat 97, .ofNat 100, .ofNat 32, .ofNat 108, .ofNat 111, .ofNat 111, .ofNat 112, .ofNat 46, .ofNat 101, .ofNat 120, .ofNat 97, .ofNat 109, .ofNat 112, .ofNat 108, .ofNat 101, .ofNat 47, .ofNat 98, .ofNat 108, .ofNat 111, .ofNat 99, .ofNat 107, .ofNat 101, .ofNat 120, .ofNat 101, .ofNat 99, .ofNat 117, .ofNat 116, .ofNat 111, .ofNat 114, .ofNat 47, .ofNat 108, .ofNat 97, .ofNat 119, .ofNat 115, .ofNat 46, .ofNat 70, .ofNat 110, .ofNat 69, .ofNat 120, .ofNat 97, .ofNat 99, .ofNat 116, .ofNat 87, .ofNat 111, .ofNat 114, .ofNat 108, .ofNat 100, .ofNat 65, .ofNat 99, .ofNat 116, .ofNat 105, .ofNat 111, .ofNat 110, .ofNat 115, .ofNat 32, .ofNat 108, .ofNat 111, .ofNat 111, .ofNat 112, .ofNat 46, .ofNat 101, .ofNat 120, .ofNat 97, .ofNat 109, .ofNat 112, .ofNat 108, .ofNat 101, .ofNat 47, .ofNat 98, .ofNat 108, .ofNat 111, .ofNat 99, .ofNat 107, .ofNat 101, .ofNat 120, .ofNat 101, .ofNat 99, .ofNat 117, .ofNat 116, .ofNat 111, .ofNat 114, .ofNat 47, .ofNat 108, .ofNat 97, .ofNat 119, .ofNat 115, .ofNat 46, .ofNat 70, .ofNat 110, .ofNat 69, .ofNat 120, .ofNat 97, .ofNat 99, .ofNat 116, .ofNat 87, .ofNat 111, .ofNat 114, .ofNat 108, .ofNat 100, .ofNat 86, .ofNat 111, .ofNat 116, .ofNat 101, .ofNat 32, .ofNat 108, .ofNat 111, .ofNat 111, .ofNat 112, .ofNat 46, .ofNat 101, .ofNat 120, .ofNat 97, .ofNat 109, .ofNat 112, .ofNat 108, .ofNat 101, .ofNat 47, .ofNat 98, .ofNat 108, .ofNat 111, .ofNat 99, .ofNat 107, .ofNat 101, .ofNat 120, .ofNat 101, .ofNat 99, .ofNat 117, .ofNat 116, .ofNat 111, .ofNat 114, .ofNat 47, .ofNat 108, .ofNat 97, .ofNat 119, .ofNat 115, .ofNat 46, .ofNat 70, .ofNat 110, .ofNat 69, .ofNat 120, .ofNat 97, .ofNat 99, .ofNat 116, .ofNat 71, .ofNat 114, .ofNat 111, .ofNat 119, .ofNat 84, .ofNat 114, .ofNat 101, .ofNat 101, .ofNat 32, .ofNat 108, .ofNat 111, .ofNat 111, .ofNat 112, .ofNat 46, .ofNat 101, .ofNat 120, .ofNat 97, .ofNat 109, .ofNat 112, .ofNat 108, .ofNat 101, .ofNat 47, .ofNat 98, .ofNat 108, .ofNat 111, .ofNat 99, .ofNat 107, .ofNat 101, .ofNat 120, .ofNat 101, .ofNat 99, .ofNat 117, .ofNat 116, .ofNat 111, .ofNat 114, .ofNat 47, .ofNat 108, .ofNat 97, .ofNat 119, .ofNat 115, .ofNat 46, .ofNat 70, .ofNat 110, .ofNat 69, .ofNat 120, .ofNat 97, .ofNat 99, .ofNat 116, .ofNat 87, .ofNat 111, .ofNat 114, .ofNat 108, .ofNat 100, .ofNat 82, .ofNat 117, .ofNat 110, .ofNat 32, .ofNat 108, .ofNat 111, .ofNat 111, .ofNat 112, .ofNat 46, .ofNat 101, .ofNat 120, .ofNat 97, .ofNat 109, .ofNat 112, .ofNat 108, .ofNat 101, .ofNat 47, .ofNat 98, .ofNat 108, .ofNat 111, .ofNat 99, .ofNat 107, .ofNat 101, .ofNat 120, .ofNat 101, .ofNat 99, .ofNat 117, .ofNat 116, .ofNat 111, .ofNat 114, .ofNat 47, .ofNat 108, .ofNat 97, .ofNat 119, .ofNat 115, .ofNat 46, .ofNat 70, .ofNat 110, .ofNat 69, .ofNat 120, .ofNat 97, .ofNat 99, .ofNat 116, .ofNat 87, .ofNat 111, .ofNat 114, .ofNat 108, .ofNat 100, .ofNat 83, .ofNat 116, .ofNat 111, .ofNat 114, .ofNat 101, .ofNat 32, .ofNat 108, .ofNat 111, .ofNat 111, .ofNat 112, .ofNat 46, .ofNat 101, .ofNat 120, .ofNat 97, .ofNat 109, .ofNat 112, .ofNat 108, .ofNat 101, .ofNat 47, .ofNat 98, .ofNat 108, .ofNat 111, .ofNat 99, .ofNat 107, .ofNat 101, .ofNat 120, .ofNat 101, .ofNat 99, .ofNat 117, .ofNat 116, .ofNat 111, .ofNat 114, .ofNat 47, .ofNat 108, .ofNat 97, .ofNat 119, .ofNat 115, .ofNat 46, .ofNat 70, .ofNat 110, .ofNat 69, .ofNat 120, .ofNat 97, .ofNat 99, .ofNat 116, .ofNat 87, .ofNat 111, .ofNat 114, .ofNat 108, .ofNat 100, .ofNat 71, .ofNat 114, .ofNat 111, .ofNat 119]
/-- The header itself. -/
def headS : String := "harness e5ee520047f8e24d3ea5c2ba50825deaf054ba4a5e97830092288e4630fe4413 cut at loop.example/blockexecutor/laws.FnWorldValid loop.example/blockexecutor/laws.FnCertBlock loop.example/blockexecutor/laws.FnCertifiedBlocks loop.example/blockexecutor/laws.FnExactCommittedTo loop.example/blockexecutor/laws.FnWorldCerts loop.example/blockexecutor/laws.FnExactWorldCerts loop.example/blockexecutor/laws.FnExactCertifiedBlocks loop.example/blockexecutor/laws.FnExactWorldOf loop.example/blockexecutor/laws.FnExactCommitsAgree loop.example/blockexecutor/laws.FnExactCommitHeads loop.example/blockexecutor/laws.FnExactWorldHead loop.example/blockexecutor/laws.FnExactWorldActions loop.example/blockexecutor/laws.FnExactWorldVote loop.example/blockexecutor/laws.FnExactGrowTree loop.example/blockexecutor/laws.FnExactWorldRun loop.example/blockexecutor/laws.FnExactWorldStore loop.example/blockexecutor/laws.FnExactWorldGrow"
set_option maxRecDepth 100000 in
theorem head_is : Tryz.pinned.checked.prog.initOrder = headS := by kernel_rfl
set_option maxRecDepth 100000 in
theorem head_bytes : headS.toByteArray = List.utf8Encode headL := by kernel_rfl
set_option maxRecDepth 100000 in
theorem list_bytes : (String.ofList headL).toByteArray = List.utf8Encode headL := by kernel_rfl
theorem head_eq : Tryz.pinned.checked.prog.initOrder = String.ofList headL := head_is.trans (String.toByteArray_inj.1 (head_bytes.trans list_bytes.symm))
theorem head_list : Tryz.pinned.checked.prog.initOrder.toList = headL := by rw [head_eq, String.toList_ofList]
set_option maxRecDepth 100000 in
theorem head_word : behindMainWord (wordsSigns headL) = "cut".toList :: (behindMainWord (wordsSigns headL)).tail := by kernel_rfl
theorem cut_strip (r : List (List Char)) : stripLifts liftWords ("cut".toList :: r) = ([], "cut".toList :: r) := by kernel_rfl
set_option maxRecDepth 100000 in
theorem c_headLifts : Tryz.pinned.checked.prog.headLifts = [] := by
  unfold Program.headLifts
  rw [head_list, head_word, cut_strip]
  kernel_rfl
set_option maxRecDepth 100000 in
theorem c_lays : Tryz.pinned.checked.prog.laysLater = false := by kernel_rfl
set_option maxRecDepth 100000 in
theorem c_bears : Tryz.pinned.checked.prog.bearsReflect = false := by kernel_rfl
set_option maxRecDepth 100000 in
theorem c_door : Tryz.pinned.checked.prog.doorFits [] = true := by kernel_rfl
theorem enter_cut {P : Program} {r : List (List Char)} (h : behindMainWord (wordsSigns P.initOrder.toList) = "cut".toList :: r) (h1 : P.laysLater = false) (h2 : P.bearsReflect = false) (h3 : P.doorFits [] = true) : P.mayEnter = true := by
  unfold Program.mayEnter
  rw [h]
  dsimp only
  rw [cut_strip, h1, h2]
  dsimp only
  rw [h3]
  kernel_rfl
theorem final_cut {P : Program} {r : List (List Char)} (h : behindMainWord (wordsSigns P.initOrder.toList) = "cut".toList :: r) (h1 : P.headLifts = []) : P.liftsFinal = false := by
  unfold Program.liftsFinal
  rw [h, h1]
  kernel_rfl
theorem make_cut {P : Program} {r : List (List Char)} (h : behindMainWord (wordsSigns P.initOrder.toList) = "cut".toList :: r) : P.make = some .cut := by
  unfold Program.make
  rw [h]
  kernel_rfl
theorem head_words : behindMainWord (wordsSigns Tryz.pinned.checked.prog.initOrder.toList) = "cut".toList :: (behindMainWord (wordsSigns headL)).tail := by rw [head_list]; exact head_word
theorem c_enter : Tryz.pinned.checked.prog.mayEnter = true := enter_cut head_words c_lays c_bears c_door
theorem c_final : Tryz.pinned.checked.prog.liftsFinal = false := final_cut head_words c_headLifts
theorem c_make : Tryz.pinned.checked.prog.make = some .cut := make_cut head_words

end Go.Proofs.YtmibclbinebnjaaGreat

