/- FnVoteFor (part 1): W103, C13 -/
import Derived.Test.YtmibclbinebnjaaRows
import Derived.ProofKit
import Derived.Test.YtmibclbinebnjaaR2

set_option linter.unusedSimpArgs false
set_option linter.unusedVariables false

/- Contracts: drawn votes; FnMayVote, FnVoteFor. -/
set_option linter.unusedSimpArgs false
set_option linter.unusedVariables false
set_option maxRecDepth 20000
set_option maxHeartbeats 4000000
namespace Go.Proofs.Ytmibclbinebnjaa
open Go Go.RowKit

def DrawMVQ (r : AV) (b : List AV) : Prop := ∃ (v : Voter) (t : Tree) (c : List Bool) (n : Int), r = .tup [.agg (encV v), .agg (encTF t), .osl true 1 (boolRows c), .int .i64 n] ∧ tsz t ≤ 200 ∧ c.length ≤ 100

theorem c_spec_DrawMayVote (nb : Option Bool) (bs : List Int) (h : CodeOk bs) : FSpec Try.prog 20 [.sl nb (rows encB bs)] false [] DrawMVQ := by
  refine fspec_rel tab_ok Try.call20 Try.func20 rfl 52 Try.ntmps20 (of_decide_eq_true rfl) fun B => codeK_sound tab_ok _ _ _ ?_
  simp (config := { maxSteps := 4000000 }) only [go_sem, simprocAttr, ↓dnA, Try.f20, rows_length, boolRows_length]
  refine CallTo.of (c_spec_l20Open nb bs h) ?_
  rintro r b rfl
  unfold rd
  simp (config := { maxSteps := 4000000 }) only [go_sem, simprocAttr, ↓dnA, Try.f20, rows_length, boolRows_length]
  have h0 := code_take h
  generalize bs.take 2000 = bs at h0
  refine CallTo.of (c_spec_l20Line nb _ 0 12 h0 (by omega) (by omega)) ?_
  rintro r b ⟨t, q, rfl, rfl, hq1, hq2, hts, hl1, hl2, _⟩
  simp (config := { maxSteps := 4000000 }) only [go_sem, simprocAttr, ↓dnA, Try.f20, rows_length, boolRows_length, rd, encTF]
  refine semL_for tab_ok (fun s : List Bool × Nat × Int => ⟨52, [(2, .loc 2 0), (3, .loc 3 0), (6, .loc 12000 0), (7, .loc 7 0), (8, .row 600 s.1.length), (9, .int .i64 s.2.1)],
      [(2, .var [.int .i64 0, .int .i64 0]), (3, .var [.sl (some false) [], .sl (some false) [], .sl (some false) []]), (12000, .var (rd nb bs s.2.2)), (7, .var [.row 601 t.base.length, .row 602 t.blocks.length, .row 603 t.before.length]),
        (601, .row true false 2 (rows encE t.base)), (602, .row true false 6 (rows encB1 t.blocks)), (603, .row true false 1 (rows encI t.before)), (600, .row true true 1 (boolRows s.1))]⟩) (fun s => t.blocks.length - s.2.1)
    (fun s => s.2.1 ≤ t.blocks.length ∧ s.1.length = s.2.1 ∧ q ≤ s.2.2 ∧ s.2.2 ≤ q + s.2.1) ([], 0, q) [(2, 2), (3, 3), (12000, 12000), (7, 7), (14000, 601), (14001, 602), (14002, 603), (14, 600)] (Weak.of (by rfl) ?_ ?_ (by rfl)) ⟨by dsimp only; omega, rfl, by dsimp only; omega, by dsimp only; omega⟩ ?_
  · simp (config := { maxSteps := 4000000 }) only [go_sem, simprocAttr, ↓dnA, Try.f20, rows_length, boolRows_length, rd, encTF, frW, wk2, wk1, wkL, wkB, hpW, List.mem_cons, Prod.mk.injEq, exists_eq_left, exists_eq_right, exists_eq]
    try rfl
  · simp (config := { maxSteps := 4000000 }) only [go_sem, simprocAttr, ↓dnA, Try.f20, rows_length, boolRows_length, rd, nc0, List.length_nil, frW, wk2, wk1, wkL, wkB, hpW, List.mem_cons, Prod.mk.injEq, exists_eq_left, exists_eq_right, exists_eq]
    try rfl
  · rintro ⟨c, i, p⟩ ⟨i1, i2, i3, i4⟩
    dsimp only at i1 i2 i3 i4 ⊢
    have hq := h0.step (q := p) (by omega) (by omega)
    have htk : (boolRows c).take c.length = boolRows c := by rw [List.take_of_length_le]; rw [boolRows_length]; omega
    have hsn : ∀ b : Bool, boolRows c ++ [[.bool b]] = boolRows (c ++ [b]) := fun b => by simp [boolRows]
    by_cases hi : i < t.blocks.length
    · have hw : IntKind.i64.wrap ((i : Int) + 1) = ((i + 1 : Nat) : Int) := wsucc hi (by omega)
      simp (config := { maxSteps := 4000000 }) only [go_sem, simprocAttr, ↓dnA, Try.f20, rows_length, boolRows_length, rd, nlt hi]
      refine CallTo.of (c_spec_pick nb bs p 5 hq) ?_
      rintro r b ⟨x, rfl, rfl, hx⟩
      simp (config := { maxSteps := 4000000 }) only [go_sem, simprocAttr, ↓dnA, Try.f20, rows_length, boolRows_length, rd, nlt hi, htk, hw]
      repeat refine And.intro (by first | omega | (simp; done) | (simp; omega) | assumption) ?_
      refine ⟨(c ++ [decide (x > 0)], i + 1, p + 1), [(2, 2), (3, 3), (12000, 12000), (7, 7), (601, 601), (602, 602), (603, 603), (27, 600)], ⟨by dsimp only; omega, by dsimp only; simp; omega, by dsimp only; omega, by dsimp only; omega⟩, by dsimp only; omega, Weak.of (by rfl) ?_ ?_ (by rfl)⟩
      · simp (config := { maxSteps := 4000000 }) only [go_sem, simprocAttr, ↓dnA, Try.f20, rows_length, boolRows_length, rd, hsn, frW, wk2, wk1, wkL, wkB, hpW, List.mem_cons, Prod.mk.injEq, exists_eq_left, exists_eq_right, exists_eq]
      · simp (config := { maxSteps := 4000000 }) only [go_sem, simprocAttr, ↓dnA, Try.f20, rows_length, boolRows_length, rd, List.length_append, frW, wk2, wk1, wkL, wkB, hpW, List.mem_cons, Prod.mk.injEq, exists_eq_left, exists_eq_right, exists_eq]
    · have hi' : i = t.blocks.length := by omega
      have hwl : IntKind.i64.wrap ((t.blocks.length : Int) - 1) = (t.blocks.length : Int) - 1 := wrap_small _ (by omega) (by omega)
      have hwp : IntKind.i64.wrap ((t.blocks.length : Int) + 1) = (t.blocks.length : Int) + 1 := wrap_small _ (by omega) (by omega)
      simp (config := { maxSteps := 4000000 }) only [go_sem, simprocAttr, ↓dnA, Try.f20, rows_length, boolRows_length, rd, nlf hi]
      refine CallTo.of (c_spec_odd nb bs p 12 hq (by omega)) ?_
      rintro r b ⟨g, q1, rfl, rfl, hq3, hq4⟩
      have hr1 := h0.step (q := q1) (by omega) (by omega)
      cases g with
      | false =>
        simp (config := { maxSteps := 4000000 }) only [go_sem, simprocAttr, ↓dnA, Try.f20, rows_length, boolRows_length, rd]
        refine semL_slots tab_ok 14 [16, 19, 20] mixed_ rfl (by decide) (os := [([0, 13, 1, 2, 3, 4, 5, 6, 7, 8, 9, 10, 11, 14, 15, 12, 16, 17, 18, 19, 20, 21, 22], [(0, []), (2, []), (3, []), (4, []), (5, []), (6, []), (7, []), (8, []), (9, []), (10, []), (11, []), (12, []), (15, []), (1, [2, 3, 4, 5, 6, 7, 8, 9, 10, 11, 12, 15]), (13, [2, 3, 4, 5, 6, 7, 15]), (14, [2, 3, 15]), (16, [2, 3]), (17, []), (18, []), (19, [2, 3, 17, 18]), (20, [3, 17, 18]), (21, []), (22, [])]), ([0, 13, 1, 2, 3, 4, 5, 6, 7, 8, 9, 10, 11, 14, 16, 12, 15, 17, 18, 19, 20, 21, 22], [(0, []), (2, []), (3, []), (4, []), (5, []), (6, []), (7, []), (8, []), (9, []), (10, []), (11, []), (12, []), (15, []), (1, [2, 3, 4, 5, 6, 7, 8, 9, 10, 11, 12, 15]), (13, [2, 3, 4, 5, 6, 7, 15]), (16, [2, 3, 4, 5, 6, 7]), (14, [2, 3]), (17, []), (18, []), (19, [2, 3, 17, 18]), (20, [3, 17, 18]), (21, []), (22, [])]), ([0, 13, 1, 2, 3, 4, 5, 6, 7, 8, 9, 10, 11, 14, 17, 12, 15, 18, 19, 16, 20, 21, 22], [(0, []), (2, []), (3, []), (4, []), (5, []), (6, []), (7, []), (8, []), (9, []), (10, []), (11, []), (12, []), (15, []), (1, [2, 3, 4, 5, 6, 7, 8, 9, 10, 11, 12, 15]), (13, [2, 3, 4, 5, 6, 7, 15]), (16, [2, 3, 4, 5, 6, 7]), (19, [2, 3, 4, 5, 6, 7]), (14, [2, 3]), (17, []), (18, []), (20, [3, 17, 18]), (21, []), (22, [])]), ([0, 13, 1, 2, 3, 4, 5, 6, 7, 8, 9, 10, 11, 14, 19, 12, 15, 20, 21, 16, 17, 18, 22], [(0, []), (2, []), (3, []), (4, []), (5, []), (6, []), (7, []), (8, []), (9, []), (10, []), (11, []), (12, []), (15, []), (1, [2, 3, 4, 5, 6, 7, 8, 9, 10, 11, 12, 15]), (13, [2, 3, 4, 5, 6, 7, 15]), (16, [2, 3, 4, 5, 6, 7]), (19, [2, 3, 4, 5, 6, 7]), (20, [3, 4, 5, 6, 7]), (21, []), (14, [3, 21]), (17, []), (18, []), (22, [])])]) (by dsimp only; decide +kernel) ?_
        refine ⟨?_, ?_, ?_, ?_, trivial⟩
        all_goals
          simp (config := { maxSteps := 4000000 }) only [go_sem, simprocAttr, ↓dnA, Try.f20, rows_length, boolRows_length, rd]
          refine CallTo.of (c_spec_l20Voter nb bs q1 12 hr1 (by omega) (by omega)) ?_
          rintro r b ⟨vx, vy, q2, rfl, rfl, hq5, hq6⟩
          have hr2 := h0.step (q := q2) (by omega) (by omega)
          simp (config := { maxSteps := 4000000 }) only [go_sem, simprocAttr, ↓dnA, Try.f20, rows_length, boolRows_length, rd, hwl, hwp]
          refine CallTo.of (c_spec_pick nb bs q2 ((t.blocks.length : Int) + 1) hr2) ?_
          rintro r b ⟨m, rfl, rfl, hm⟩
          have hr3 := h0.step (q := q2 + 1) (by omega) (by omega)
          simp (config := { maxSteps := 4000000 }) only [go_sem, simprocAttr, ↓dnA, Try.f20, rows_length, boolRows_length, rd, hwl, hwp]
          refine CallTo.of (c_spec_pick nb bs (q2 + 1) 2 hr3) ?_
          rintro r b ⟨z, rfl, rfl, hz⟩
          have hz2 : z = 0 ∨ z = 1 := by omega
          rcases hz2 with rfl | rfl
          · simp (config := { maxSteps := 4000000 }) only [go_sem, simprocAttr, ↓dnA, Try.f20, rows_length, boolRows_length, rd, hwl, hwp, tn0, tn1]
            exact .same ⟨⟨vx, vy⟩, t, c, (t.blocks.length : Int) - 1, by simp [encV, encTF], hts, by omega⟩
          · simp (config := { maxSteps := 4000000 }) only [go_sem, simprocAttr, ↓dnA, Try.f20, rows_length, boolRows_length, rd, hwl, hwp, tn0, tn1]
            exact .same ⟨⟨vx, vy⟩, t, c, m, by simp [encV, encTF], hts, by omega⟩
      | true =>
        simp (config := { maxSteps := 4000000 }) only [go_sem, simprocAttr, ↓dnA, Try.f20, rows_length, boolRows_length, rd, htk]
        repeat refine And.intro (by first | omega | (simp; done) | (simp; omega) | assumption) ?_
        refine semL_slots tab_ok 14 [16, 19, 20] mixed_ rfl (by decide) (os := [([0, 13, 1, 2, 3, 4, 5, 6, 7, 8, 9, 10, 11, 14, 15, 12, 16, 17, 18, 19, 20, 21, 22], [(0, []), (2, []), (3, []), (4, []), (5, []), (6, []), (7, []), (8, []), (9, []), (10, []), (11, []), (12, []), (15, []), (1, [2, 3, 4, 5, 6, 7, 8, 9, 10, 11, 12, 15]), (13, [2, 3, 4, 5, 6, 7, 15]), (14, [2, 3, 15]), (16, [2, 3]), (17, []), (18, []), (19, [2, 3, 17, 18]), (20, [3, 17, 18]), (21, []), (22, [])]), ([0, 13, 1, 2, 3, 4, 5, 6, 7, 8, 9, 10, 11, 14, 16, 12, 15, 17, 18, 19, 20, 21, 22], [(0, []), (2, []), (3, []), (4, []), (5, []), (6, []), (7, []), (8, []), (9, []), (10, []), (11, []), (12, []), (15, []), (1, [2, 3, 4, 5, 6, 7, 8, 9, 10, 11, 12, 15]), (13, [2, 3, 4, 5, 6, 7, 15]), (16, [2, 3, 4, 5, 6, 7]), (14, [2, 3]), (17, []), (18, []), (19, [2, 3, 17, 18]), (20, [3, 17, 18]), (21, []), (22, [])]), ([0, 13, 1, 2, 3, 4, 5, 6, 7, 8, 9, 10, 11, 14, 17, 12, 15, 18, 19, 16, 20, 21, 22], [(0, []), (2, []), (3, []), (4, []), (5, []), (6, []), (7, []), (8, []), (9, []), (10, []), (11, []), (12, []), (15, []), (1, [2, 3, 4, 5, 6, 7, 8, 9, 10, 11, 12, 15]), (13, [2, 3, 4, 5, 6, 7, 15]), (16, [2, 3, 4, 5, 6, 7]), (19, [2, 3, 4, 5, 6, 7]), (14, [2, 3]), (17, []), (18, []), (20, [3, 17, 18]), (21, []), (22, [])]), ([0, 13, 1, 2, 3, 4, 5, 6, 7, 8, 9, 10, 11, 14, 19, 12, 15, 20, 21, 16, 17, 18, 22], [(0, []), (2, []), (3, []), (4, []), (5, []), (6, []), (7, []), (8, []), (9, []), (10, []), (11, []), (12, []), (15, []), (1, [2, 3, 4, 5, 6, 7, 8, 9, 10, 11, 12, 15]), (13, [2, 3, 4, 5, 6, 7, 15]), (16, [2, 3, 4, 5, 6, 7]), (19, [2, 3, 4, 5, 6, 7]), (20, [3, 4, 5, 6, 7]), (21, []), (14, [3, 21]), (17, []), (18, []), (22, [])])]) (by dsimp only; decide +kernel) ?_
        refine ⟨?_, ?_, ?_, ?_, trivial⟩
        all_goals
          simp (config := { maxSteps := 4000000 }) only [go_sem, simprocAttr, ↓dnA, Try.f20, rows_length, boolRows_length, rd]
          refine CallTo.of (c_spec_l20Voter nb bs q1 12 hr1 (by omega) (by omega)) ?_
          rintro r b ⟨vx, vy, q2, rfl, rfl, hq5, hq6⟩
          have hr2 := h0.step (q := q2) (by omega) (by omega)
          simp (config := { maxSteps := 4000000 }) only [go_sem, simprocAttr, ↓dnA, Try.f20, rows_length, boolRows_length, rd, hwl, hwp]
          refine CallTo.of (c_spec_pick nb bs q2 ((t.blocks.length : Int) + 1) hr2) ?_
          rintro r b ⟨m, rfl, rfl, hm⟩
          have hr3 := h0.step (q := q2 + 1) (by omega) (by omega)
          simp (config := { maxSteps := 4000000 }) only [go_sem, simprocAttr, ↓dnA, Try.f20, rows_length, boolRows_length, rd, hwl, hwp]
          refine CallTo.of (c_spec_pick nb bs (q2 + 1) 2 hr3) ?_
          rintro r b ⟨z, rfl, rfl, hz⟩
          have hz2 : z = 0 ∨ z = 1 := by omega
          rcases hz2 with rfl | rfl
          · simp (config := { maxSteps := 4000000 }) only [go_sem, simprocAttr, ↓dnA, Try.f20, rows_length, boolRows_length, rd, hwl, hwp, tn0, tn1, hsn]
            repeat refine And.intro (by first | omega | (simp; done) | (simp; omega) | assumption) ?_
            exact .same ⟨⟨vx, vy⟩, t, (c ++ [true]), (t.blocks.length : Int) - 1, by simp [encV, encTF], hts, by simp; omega⟩
          · simp (config := { maxSteps := 4000000 }) only [go_sem, simprocAttr, ↓dnA, Try.f20, rows_length, boolRows_length, rd, hwl, hwp, tn0, tn1, hsn]
            repeat refine And.intro (by first | omega | (simp; done) | (simp; omega) | assumption) ?_
            exact .same ⟨⟨vx, vy⟩, t, (c ++ [true]), m, by simp [encV, encTF], hts, by simp; omega⟩

theorem c_laws_FnMayVote (nb : Option Bool) (bs : List Int) (h : ∀ b, b ∈ bs → 0 ≤ b ∧ b ≤ 255) : Det Try.prog 4 [.sl nb (rows encB bs)] (.bool true) := by
  refine fspec_det tab_ok Try.call4 Try.func4 rfl 84 Try.ntmps4 (of_decide_eq_true rfl) fun B => codeK_sound tab_ok _ _ _ ?_
  simp (config := { maxSteps := 4000000 }) only [go_sem, simprocAttr, ↓dnA, Try.f4, encV, encTF, rows_length, boolRows_length]
  intro hl
  have hc : CodeOk bs := ⟨h, by simp at hl; omega⟩
  refine CallTo.of (c_spec_DrawMayVote nb bs hc) ?_
  rintro r b ⟨v, t, c, n, rfl, hts, hcl⟩
  have hx := tsz_sz hts (by decide)
  have hI := c_impl_MayVote none none none (some true) v t c n hx (by omega)
  have hS := c_spec_MayVote none none none (some true) v t c n hx (by omega)
  have hV := c_impl_VoteFor none none none (some true) v t c n hx (by omega)
  obtain ⟨q, hq⟩ : ∃ q, mayVote v t c n = q := ⟨_, rfl⟩
  rw [hq] at hI hS
  have hqq : (q != q) = false := by simp
  simp (config := { maxSteps := 4000000 }) only [go_sem, simprocAttr, ↓dnA, Try.f4, encV, encTF, rows_length, boolRows_length]
  refine CallTo.det hI fun _ => ?_
  simp (config := { maxSteps := 4000000 }) only [go_sem, simprocAttr, ↓dnA, Try.f4, encV, encTF, rows_length, boolRows_length]
  refine CallTo.det hS fun _ => ?_
  cases q with
  | false =>
    simp (config := { maxSteps := 4000000 }) only [go_sem, simprocAttr, ↓dnA, Try.f4, encV, encTF, rows_length, boolRows_length]
    refine CallTo.det c_laws_alive fun _ => ?_
    simp (config := { maxSteps := 4000000 }) only [go_sem, simprocAttr, ↓dnA, Try.f4, encV, encTF, rows_length, boolRows_length]
  | true =>
    obtain ⟨a1, a2⟩ := vote_again hq
    have hm := mayOk_of hq
    obtain ⟨j, k, rfl, hj0, hj, hjb, hkj, hk, g1, g2, g3, g4⟩ := may_facts hm.tree hm.len hm.n1 hm.n2
    have hm1 := hm.last
    have hm2 := hm.cert
    have hml := hm.len
    rw [Int.toNat_natCast] at hm1 hm2
    rw [hk, Int.toNat_natCast] at hm2
    have hkc : k < c.length := by omega
    have hd1 : decide ((j : Int) ≥ 1) = true := by simp; omega
    have hd2 : decide ((j : Int) < (t.blocks.length : Int)) = true := by simp; omega
    have hd3 := decide_eq_true hm1
    generalize voteFor v t c (j : Int) = r at a1 a2 hV
    obtain ⟨x, ok⟩ := r
    dsimp only at a1 a2 hV
    subst a1
    have hA := c_impl_MayVote none none none (some true) x t c (j : Int) hx (by omega)
    rw [a2] at hA
    simp (config := { maxSteps := 4000000 }) only [go_sem, simprocAttr, ↓dnA, Try.f4, encV, encTF, rows_length, boolRows_length]
    refine CallTo.det hV fun _ => ?_
    simp (config := { maxSteps := 4000000 }) only [go_sem, simprocAttr, ↓dnA, Try.f4, encV, encTF, rows_length, boolRows_length]
    refine semL_draw tab_ok mixed_ rfl (ord := [(0, []), (1, []), (2, []), (3, []), (4, []), (5, []), (6, []), (7, []), (8, []), (9, []), (10, []), (11, []), (12, []), (13, []), (14, []), (15, []), (16, []), (17, []), (18, []), (19, []), (20, []), (21, []), (22, []), (23, []), (24, []), (25, []), (26, []), (27, []), (28, []), (29, []), (30, []), (31, []), (32, []), (33, []), (34, []), (35, []), (36, []), (37, []), (38, []), (39, []), (40, []), (41, [])]) (by dsimp only; decide +kernel) ?_
    simp (config := { maxSteps := 4000000 }) only [go_sem, simprocAttr, ↓dnA, Try.f4, encV, encTF, rows_length, boolRows_length, hd1, hd2, hd3, nlt hj, hj, nlt hjb, hjb, nlt hkc, hkc, nn0, g1, g2, g4, encB1, encBk, hm2]
    refine CallTo.det hA fun _ => ?_
    simp (config := { maxSteps := 4000000 }) only [go_sem, simprocAttr, ↓dnA, Try.f4, encV, encTF, rows_length, boolRows_length, hd1, hd2, hd3, nlt hj, hj, nlt hjb, hjb, nlt hkc, hkc, nn0, g1, g2, g4, encB1, encBk, hm2]

theorem c_spec_DrawVoteFor (nb : Option Bool) (bs : List Int) (h : CodeOk bs) : FSpec Try.prog 24 [.sl nb (rows encB bs)] false [] DrawMVQ := by
  refine fspec_rel tab_ok Try.call24 Try.func24 rfl 12 Try.ntmps24 (of_decide_eq_true rfl) fun B => codeK_sound tab_ok _ _ _ ?_
  simp (config := { maxSteps := 4000000 }) only [go_sem, simprocAttr, ↓dnA, Try.f24, encV, encTF, rows_length, boolRows_length]
  refine CallTo.of (c_spec_DrawMayVote nb bs h) ?_
  rintro r b ⟨v, t, c, n, rfl, hts, hcl⟩
  simp (config := { maxSteps := 4000000 }) only [go_sem, simprocAttr, ↓dnA, Try.f24, encV, encTF, rows_length, boolRows_length]
  exact .same ⟨v, t, c, n, by simp [encV, encTF], hts, hcl⟩

theorem voteFor_cases (v : Voter) (t : Tree) (c : List Bool) (n : Int) (h : (voteFor v t c n).2 = false) : voteFor v t c n = (⟨0, 0⟩, false) ∨ voteFor v t c n = (v, false) := by
  unfold voteFor at h ⊢
  split
  · rename_i h1
    rw [if_pos h1] at h
    split
    · rename_i h2
      rw [if_pos h2] at h
      cases h
    · exact .inr rfl
  · exact .inl rfl

theorem c_laws_FnVoteFor (nb : Option Bool) (bs : List Int) (h : ∀ b, b ∈ bs → 0 ≤ b ∧ b ≤ 255) : Det Try.prog 5 [.sl nb (rows encB bs)] (.bool true) := by
  refine fspec_det tab_ok Try.call5 Try.func5 rfl 88 Try.ntmps5 (of_decide_eq_true rfl) fun B => codeK_sound tab_ok _ _ _ ?_
  simp (config := { maxSteps := 4000000 }) only [go_sem, simprocAttr, ↓dnA, Try.f5, encV, encTF, rows_length, boolRows_length]
  intro hl
  have hc : CodeOk bs := ⟨h, by simp at hl; omega⟩
  refine CallTo.of (c_spec_DrawVoteFor nb bs hc) ?_
  rintro r b ⟨v, t, c, n, rfl, hts, hcl⟩
  have hx := tsz_sz hts (by decide)
  have hI := c_impl_VoteFor none none none (some true) v t c n hx (by omega)
  have hS := c_spec_VoteFor none none none (some true) v t c n hx (by omega)
  have hF := vote_facts (v := v) (t := t) (c := c) (n := n)
  have hN := voteFor_cases v t c n
  have hM := c_impl_MayVote none none none (some true) ⟨0, 0⟩ t c n hx (by omega)
  generalize voteFor v t c n = r at hI hS hF hN
  obtain ⟨x, ok⟩ := r
  dsimp only at hI hS hF hN
  have hqq : (ok != ok) = false := by simp
  simp (config := { maxSteps := 4000000 }) only [go_sem, simprocAttr, ↓dnA, Try.f5, encV, encTF, rows_length, boolRows_length]
  refine CallTo.det hI fun _ => ?_
  simp (config := { maxSteps := 4000000 }) only [go_sem, simprocAttr, ↓dnA, Try.f5, encV, encTF, rows_length, boolRows_length]
  refine CallTo.det hS fun _ => ?_
  have e1 : (x.last == x.last) = true := by simp
  have e2 : (x.lock == x.lock) = true := by simp
  cases ok with
  | false =>
    rcases hN rfl with e | e
    · injection e with e _
      subst e
      have z : ((0 : Int) == 0) = true := rfl
      simp (config := { maxSteps := 4000000 }) only [go_sem, simprocAttr, ↓dnA, Try.f5, encV, encTF, rows_length, boolRows_length, eqCellsK, BEq.rfl, Bool.and_true, z]
      refine CallTo.det c_laws_alive fun _ => ?_
      simp (config := { maxSteps := 4000000 }) only [go_sem, simprocAttr, ↓dnA, Try.f5, encV, encTF, rows_length, boolRows_length, eqCellsK, BEq.rfl, Bool.and_true, z]
    · injection e with e _
      subst e
      obtain ⟨z1, hz1⟩ : ∃ z1, (x.last == 0) = z1 := ⟨_, rfl⟩
      obtain ⟨z2, hz2⟩ : ∃ z2, (x.lock == 0) = z2 := ⟨_, rfl⟩
      cases z1 <;> cases z2
      all_goals
        simp (config := { maxSteps := 4000000 }) only [go_sem, simprocAttr, ↓dnA, Try.f5, encV, encTF, rows_length, boolRows_length, eqCellsK, BEq.rfl, Bool.and_true, e1, e2, hz1, hz2]
        refine CallTo.det c_laws_alive fun _ => ?_
        simp (config := { maxSteps := 4000000 }) only [go_sem, simprocAttr, ↓dnA, Try.f5, encV, encTF, rows_length, boolRows_length, eqCellsK, BEq.rfl, Bool.and_true, e1, e2, hz1, hz2]
  | true =>
    obtain ⟨f1, f2, f3, f4, f5⟩ := hF rfl
    rw [f5] at hM
    have d2 := decide_eq_true f2
    have d3 := decide_eq_true f3
    have d4 := decide_eq_true f4
    simp (config := { maxSteps := 4000000 }) only [go_sem, simprocAttr, ↓dnA, Try.f5, encV, encTF, rows_length, boolRows_length, eqCellsK, BEq.rfl, Bool.and_true, e1, e2]
    refine CallTo.det (c_impl_VoterValid _ _) fun _ => ?_
    simp (config := { maxSteps := 4000000 }) only [go_sem, simprocAttr, ↓dnA, Try.f5, encV, encTF, rows_length, boolRows_length, eqCellsK, BEq.rfl, Bool.and_true, e1, e2, f1, d2, d3, d4]
    refine CallTo.det hM fun _ => ?_
    simp (config := { maxSteps := 4000000 }) only [go_sem, simprocAttr, ↓dnA, Try.f5, encV, encTF, rows_length, boolRows_length, eqCellsK, BEq.rfl, Bool.and_true, e1, e2, f1, d2, d3, d4]

end Go.Proofs.Ytmibclbinebnjaa

/- The closed facts of the row of FnVoteFor. -/
namespace Go.Proofs.Ytmibclbinebnjaa
open Go Go.ChangeShapes Go.WideShapes Go.ChangeAt Go.RowKit

theorem fnVoteFor_named : Try.pinned.checked.prog.funcNamed Rows.fnVoteForRow.func = some 5 := by kernel_rfl
theorem fnVoteFor_inst : Try.f5.isInstance Try.pinned.checked.prog Rows.fnVoteForRow.origin Rows.fnVoteForRow.targs := of_decide_eq_true (by kernel_rfl)
theorem fnVoteFor_wrap : Try.f5.isWrapper Try.pinned.checked.prog Rows.fnVoteForRow.wrapper Rows.fnVoteForRow.mainSum := by
  unfold Func.isWrapper; first | (rw [if_pos (by decide +kernel)]; kernel_rfl) | (rw [if_neg (by decide +kernel)]; exact ⟨rfl, rfl⟩)
set_option maxRecDepth 100000 in
theorem fnVoteFor_closed : joinedFacts Try.pinned.checked.prog 5 Try.f5 Rows.fnVoteForSpec Rows.fnVoteForRow = true := by kernel_rfl

end Go.Proofs.Ytmibclbinebnjaa

