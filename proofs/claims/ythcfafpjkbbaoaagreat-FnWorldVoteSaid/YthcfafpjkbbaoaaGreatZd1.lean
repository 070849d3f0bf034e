/- FnWorldVote (part 1): W139, C27 -/
import Derived.Test.YthcfafpjkbbaoaaGreatRows
import Derived.ProofKit
import Derived.Test.YthcfafpjkbbaoaaGreatH7

set_option linter.unusedSimpArgs false
set_option linter.unusedVariables false

/- FnWorldVote. -/
set_option linter.unusedSimpArgs false
set_option linter.unusedVariables false
set_option maxRecDepth 20000
set_option maxHeartbeats 4000000
namespace Go.Proofs.YthcfafpjkbbaoaaGreat
open Go Go.RowKit

def VoteR (r : AV) (b : List AV) : Prop := ∃ (w : Wld) (m n : Int) (cs : List AV), r = .tup [.agg cs, .int .i64 m, .int .i64 n] ∧ cs.map pureC = encW none none none none none w ∧ wsz w ≤ 300
def VoteQ (r : AV) (b : List AV) : Prop := ∃ (w : Wld) (m n : Int), r = .tup [.agg (encW none none none none none w), .int .i64 m, .int .i64 n] ∧ wsz w ≤ 300

theorem c_spec_DrawWorldVote0 (nb : Option Bool) (bs : List Int) (h : CodeOk bs) : FSpec Tryz.prog 34 [.sl nb (rows encB bs)] false [] VoteR := by
  refine fspec_rel tab_ok Tryz.call34 Tryz.func34 rfl 51 Tryz.ntmps34 (of_decide_eq_true rfl) fun B => codeK_sound tab_ok _ _ _ ?_
  simp (config := { maxSteps := 4000000 }) only [go_sem, simprocAttr, ↓dnA, Tryz.f34, rows_length, encT, encWF]
  refine CallTo.of (c_spec_l20Open nb bs h) ?_
  rintro r b rfl
  unfold rd
  simp (config := { maxSteps := 4000000 }) only [go_sem, simprocAttr, ↓dnA, Tryz.f34, rows_length, encT, encWF]
  have h0 := code_take h
  generalize bs.take 2000 = bs at h0
  refine CallTo.of (c_spec_l20LineP nb bs 0 0 h0 (by omega) (by omega)) ?_
  rintro r b ⟨t, q, rfl, rfl, hq1, hq2, hts, hl1, hl2, hT⟩
  have ht := hT rfl
  have hq := h0.step (q := q) (by omega) (by omega)
  have hW := c_spec_WorldOf none none none t (tb_s32 ht)
  have hv := worldOf_okay ht
  generalize worldOf t = w at hW hv
  obtain ⟨ht1, hv4, _, hvl, _⟩ := worldValid_parts hv
  have hlen := ht1.len
  have hws := worldOk_wsz hv
  have hw1 : IntKind.i64.wrap ((w.votes.length : Int) - 1) = (w.votes.length : Int) - 1 := wrap_small _ (by omega) (by omega)
  obtain ⟨mx, hmx, hmx1, hmx2⟩ : ∃ mx : Nat, (if (w.votes.length : Int) - 1 > 1 then (w.votes.length : Int) - 1 else 1) = (mx : Int) ∧ 1 ≤ mx ∧ mx ≤ 14 := by
    refine ⟨max 1 (w.votes.length - 1), ?_, by omega, by omega⟩
    split <;> omega
  simp (config := { maxSteps := 4000000 }) only [go_sem, simprocAttr, ↓dnA, Tryz.f34, rows_length, encT, encWF, rd]
  refine CallTo.det hW fun _ => ?_
  simp (config := { maxSteps := 4000000 }) only [go_sem, simprocAttr, ↓dnA, Tryz.f34, rows_length, encT, encWF, rd]
  refine semL_draw tab_ok mixed_ rfl (ord := [(0, []), (1, []), (2, []), (3, []), (4, []), (5, []), (6, []), (7, [0]), (8, []), (9, []), (10, []), (11, []), (12, [11])]) (by dsimp only; decide +kernel) ?_
  simp (config := { maxSteps := 4000000 }) only [go_sem, simprocAttr, ↓dnA, Tryz.f34, rows_length, encT, encWF, rd, hw1, hmx]
  refine CallTo.of (c_spec_l20Votes nb bs q mx hq (by omega) (by omega)) ?_
  rintro r b ⟨sc, q2, rfl, rfl, hq3, hq4, hsc, hsm⟩
  have hok : ScOk sc := ⟨by omega, List.all_eq_true.2 fun x hx => inB_iff.2 (hsm x hx)⟩
  have hR := c_spec_WorldRun none none none none none (some true) w sc (worldOk_s32 hv).sz (by omega)
  rw [worldRun_yes hv hok] at hR
  have hx := runW_ok hv sc sc.length (Nat.le_refl _)
  rw [List.take_length] at hx
  generalize runW w sc = x at hR hx
  obtain ⟨x, xk⟩ := x
  obtain ⟨xv, _, _, _⟩ := hx
  dsimp only at hR xv
  have hwx := worldOk_wsz xv
  simp (config := { maxSteps := 4000000 }) only [go_sem, simprocAttr, ↓dnA, Tryz.f34, rows_length, encT, encWF, rd, hw1, hmx]
  refine CallTo.det hR fun _ => ?_
  simp (config := { maxSteps := 4000000 }) only [go_sem, simprocAttr, ↓dnA, Tryz.f34, rows_length, encT, encWF, rd, hw1, hmx]
  refine CallTo.of (c_spec_odd nb bs q2 14 (h0.step (q := q2) (by omega) (by omega)) (by omega)) ?_
  rintro r b ⟨gg, q3, rfl, rfl, hq5, hq6⟩
  cases gg with
  | false =>
    simp (config := { maxSteps := 4000000 }) only [go_sem, simprocAttr, ↓dnA, Tryz.f34, rows_length, encT, encWF, rd]
    refine semL_slots tab_ok 18 [20, 23] mixed_ rfl (by decide) (os := [([0, 1, 14, 2, 15, 16, 17, 3, 4, 5, 6, 7, 8, 9, 10, 11, 12, 18, 19, 13, 20, 21, 22, 23, 24, 25], [(0, []), (1, []), (3, []), (7, []), (8, []), (9, []), (10, []), (11, []), (12, []), (13, []), (14, []), (15, []), (16, []), (19, []), (2, [0, 3, 7, 8, 9, 10, 11, 12, 13, 14, 15, 16, 19]), (4, [0, 7, 8, 9, 10, 11, 12, 13, 14, 15, 16, 19]), (5, []), (6, []), (17, [0, 7, 8, 9, 10, 11, 19, 5, 6]), (18, [0, 19, 5, 6]), (20, [0, 5, 6]), (21, []), (22, []), (23, [5, 6, 21, 22]), (24, []), (25, [])]), ([0, 1, 14, 2, 15, 16, 17, 3, 4, 5, 6, 7, 8, 9, 10, 11, 12, 18, 20, 13, 19, 21, 22, 23, 24, 25], [(0, []), (1, []), (3, []), (7, []), (8, []), (9, []), (10, []), (11, []), (12, []), (13, []), (14, []), (15, []), (16, []), (19, []), (2, [0, 3, 7, 8, 9, 10, 11, 12, 13, 14, 15, 16, 19]), (4, [0, 7, 8, 9, 10, 11, 12, 13, 14, 15, 16, 19]), (5, []), (6, []), (17, [0, 7, 8, 9, 10, 11, 19, 5, 6]), (20, [0, 7, 8, 9, 10, 11, 5, 6]), (18, [0, 5, 6]), (21, []), (22, []), (23, [5, 6, 21, 22]), (24, []), (25, [])]), ([0, 1, 14, 2, 15, 16, 17, 3, 4, 5, 6, 7, 8, 9, 10, 11, 12, 18, 22, 13, 19, 23, 24, 20, 21, 25], [(0, []), (1, []), (3, []), (7, []), (8, []), (9, []), (10, []), (11, []), (12, []), (13, []), (14, []), (15, []), (16, []), (19, []), (2, [0, 3, 7, 8, 9, 10, 11, 12, 13, 14, 15, 16, 19]), (4, [0, 7, 8, 9, 10, 11, 12, 13, 14, 15, 16, 19]), (5, []), (6, []), (17, [0, 7, 8, 9, 10, 11, 19, 5, 6]), (20, [0, 7, 8, 9, 10, 11, 5, 6]), (23, [7, 8, 9, 10, 11, 5, 6]), (24, []), (18, [5, 6, 24]), (21, []), (22, []), (25, [])])]) (by dsimp only; decide +kernel) ?_
    refine ⟨?_, ?_, ?_, trivial⟩
    all_goals
      simp (config := { maxSteps := 4000000 }) only [go_sem, simprocAttr, ↓dnA, Tryz.f34, rows_length, encT, encWF, rd]
      refine CallTo.of (c_spec_pick nb bs q3 5 (h0.step (q := q3) (by omega) (by omega))) ?_
      rintro r b ⟨y1, rfl, rfl, hy1⟩
      simp (config := { maxSteps := 4000000 }) only [go_sem, simprocAttr, ↓dnA, Tryz.f34, rows_length, encT, encWF, rd]
      refine CallTo.of (c_spec_pick nb bs (q3 + 1) 12 (h0.step (q := q3 + 1) (by omega) (by omega))) ?_
      rintro r b ⟨y2, rfl, rfl, hy2⟩
      simp (config := { maxSteps := 4000000 }) only [go_sem, simprocAttr, ↓dnA, Tryz.f34, rows_length, encT, encWF, rd]
      refine CallTo.of (c_spec_pick nb bs (q3 + 1 + 1) _ (h0.step (q := q3 + 1 + 1) (by omega) (by omega))) ?_
      rintro r b ⟨y3, rfl, rfl, hy3⟩
      simp (config := { maxSteps := 4000000 }) only [go_sem, simprocAttr, ↓dnA, Tryz.f34, rows_length, encT, encWF, rd]
      refine CallTo.of (c_spec_pick nb bs (q3 + 1 + 1 + 1) 2 (h0.step (q := q3 + 1 + 1 + 1) (by omega) (by omega))) ?_
      rintro r b ⟨y4, rfl, rfl, hy4⟩
      have hy : y4 = 0 ∨ y4 = 1 := by omega
      rcases hy with rfl | rfl
      · simp (config := { maxSteps := 4000000 }) only [go_sem, simprocAttr, ↓dnA, Tryz.f34, rows_length, encT, encWF, rd, tn0, tn1]
        exact .same ⟨x, _, _, _, rfl, rfl, by omega⟩
      · simp (config := { maxSteps := 4000000 }) only [go_sem, simprocAttr, ↓dnA, Tryz.f34, rows_length, encT, encWF, rd, tn0, tn1]
        exact .same ⟨x, _, _, _, rfl, rfl, by omega⟩
  | true =>
    simp (config := { maxSteps := 4000000 }) only [go_sem, simprocAttr, ↓dnA, Tryz.f34, rows_length, encT, encWF, rd]
    refine CallTo.of (c_spec_l20World nb bs q3 1 (h0.step (q := q3) (by omega) (by omega)) (by omega) (by omega)) ?_
    rintro r b ⟨x, q4, rfl, rfl, hq7, hq8, hwx⟩
    simp (config := { maxSteps := 4000000 }) only [go_sem, simprocAttr, ↓dnA, Tryz.f34, rows_length, encT, encWF, rd, encW]
    refine semL_slots tab_ok 18 [20, 23] mixed_ rfl (by decide) (os := [([0, 1, 14, 2, 15, 16, 17, 3, 4, 5, 6, 7, 8, 9, 10, 11, 12, 18, 19, 13, 20, 21, 22, 23, 24, 25], [(0, []), (1, []), (3, []), (7, []), (8, []), (9, []), (10, []), (11, []), (12, []), (13, []), (14, []), (15, []), (16, []), (19, []), (2, [0, 3, 7, 8, 9, 10, 11, 12, 13, 14, 15, 16, 19]), (4, [0, 7, 8, 9, 10, 11, 12, 13, 14, 15, 16, 19]), (5, []), (6, []), (17, [0, 7, 8, 9, 10, 11, 19, 5, 6]), (18, [0, 19, 5, 6]), (20, [0, 5, 6]), (21, []), (22, []), (23, [5, 6, 21, 22]), (24, []), (25, [])]), ([0, 1, 14, 2, 15, 16, 17, 3, 4, 5, 6, 7, 8, 9, 10, 11, 12, 18, 20, 13, 19, 21, 22, 23, 24, 25], [(0, []), (1, []), (3, []), (7, []), (8, []), (9, []), (10, []), (11, []), (12, []), (13, []), (14, []), (15, []), (16, []), (19, []), (2, [0, 3, 7, 8, 9, 10, 11, 12, 13, 14, 15, 16, 19]), (4, [0, 7, 8, 9, 10, 11, 12, 13, 14, 15, 16, 19]), (5, []), (6, []), (17, [0, 7, 8, 9, 10, 11, 19, 5, 6]), (20, [0, 7, 8, 9, 10, 11, 5, 6]), (18, [0, 5, 6]), (21, []), (22, []), (23, [5, 6, 21, 22]), (24, []), (25, [])]), ([0, 1, 14, 2, 15, 16, 17, 3, 4, 5, 6, 7, 8, 9, 10, 11, 12, 18, 22, 13, 19, 23, 24, 20, 21, 25], [(0, []), (1, []), (3, []), (7, []), (8, []), (9, []), (10, []), (11, []), (12, []), (13, []), (14, []), (15, []), (16, []), (19, []), (2, [0, 3, 7, 8, 9, 10, 11, 12, 13, 14, 15, 16, 19]), (4, [0, 7, 8, 9, 10, 11, 12, 13, 14, 15, 16, 19]), (5, []), (6, []), (17, [0, 7, 8, 9, 10, 11, 19, 5, 6]), (20, [0, 7, 8, 9, 10, 11, 5, 6]), (23, [7, 8, 9, 10, 11, 5, 6]), (24, []), (18, [5, 6, 24]), (21, []), (22, []), (25, [])])]) (by dsimp only; decide +kernel) ?_
    refine ⟨?_, ?_, ?_, trivial⟩
    all_goals
      simp (config := { maxSteps := 4000000 }) only [go_sem, simprocAttr, ↓dnA, Tryz.f34, rows_length, encT, encWF, rd, encW]
      refine CallTo.of (c_spec_pick nb bs q4 5 (h0.step (q := q4) (by omega) (by omega))) ?_
      rintro r b ⟨y1, rfl, rfl, hy1⟩
      simp (config := { maxSteps := 4000000 }) only [go_sem, simprocAttr, ↓dnA, Tryz.f34, rows_length, encT, encWF, rd, encW]
      refine CallTo.of (c_spec_pick nb bs (q4 + 1) 12 (h0.step (q := q4 + 1) (by omega) (by omega))) ?_
      rintro r b ⟨y2, rfl, rfl, hy2⟩
      simp (config := { maxSteps := 4000000 }) only [go_sem, simprocAttr, ↓dnA, Tryz.f34, rows_length, encT, encWF, rd, encW]
      refine CallTo.of (c_spec_pick nb bs (q4 + 1 + 1) _ (h0.step (q := q4 + 1 + 1) (by omega) (by omega))) ?_
      rintro r b ⟨y3, rfl, rfl, hy3⟩
      simp (config := { maxSteps := 4000000 }) only [go_sem, simprocAttr, ↓dnA, Tryz.f34, rows_length, encT, encWF, rd, encW]
      refine CallTo.of (c_spec_pick nb bs (q4 + 1 + 1 + 1) 2 (h0.step (q := q4 + 1 + 1 + 1) (by omega) (by omega))) ?_
      rintro r b ⟨y4, rfl, rfl, hy4⟩
      have hy : y4 = 0 ∨ y4 = 1 := by omega
      rcases hy with rfl | rfl
      · simp (config := { maxSteps := 4000000 }) only [go_sem, simprocAttr, ↓dnA, Tryz.f34, rows_length, encT, encWF, rd, encW, tn0, tn1]
        exact .same ⟨x, _, _, _, rfl, rfl, by omega⟩
      · simp (config := { maxSteps := 4000000 }) only [go_sem, simprocAttr, ↓dnA, Tryz.f34, rows_length, encT, encWF, rd, encW, tn0, tn1]
        exact .same ⟨x, _, _, _, rfl, rfl, by omega⟩

theorem c_spec_DrawWorldVote (nb : Option Bool) (bs : List Int) (h : CodeOk bs) : FSpec Tryz.prog 34 [.sl nb (rows encB bs)] false [] VoteQ := by
  refine (c_spec_DrawWorldVote0 nb bs h).pureTup ?_
  rintro r b ⟨w, m, n, cs, rfl, hc, h1⟩
  refine ⟨_, rfl, w, m, n, ?_, h1⟩
  show AV.tup [AV.agg (cs.map pureC), .int .i64 m, .int .i64 n] = _
  rw [hc]

theorem worldVote_same {w : Wld} {m n : Int} (h : (worldVote w m n).2 = false) : (worldVote w m n).1 = noW ∨ (worldVote w m n).1 = w := by
  cases hv : worldValid w with
  | false => rw [worldVote_no hv]; exact .inl rfl
  | true =>
    rw [worldVote_yes hv] at h ⊢
    by_cases hok : VoteOk w m n
    · by_cases h3 : m = 3
      · rw [voteW_3 hok h3] at h; cases h
      · cases hr : (voteR w m n).2 with
        | true => rw [voteW_yes hok h3 hr] at h; cases h
        | false => rw [voteW_not hok h3 hr]; exact .inr rfl
    · rw [voteW_no hok]; exact .inr rfl

theorem intK_andn (a b : Int) (K : AV → Prop) : intK .andNot .i64 .i64 a b K = K (.int .i64 (andnI a b)) := propext ⟨fun h => h.2, fun h => ⟨rfl, h⟩⟩

theorem c_laws_FnWorldVote (nb : Option Bool) (bs : List Int) (h : ∀ b, b ∈ bs → 0 ≤ b ∧ b ≤ 255) : Det Tryz.prog 6 [.sl nb (rows encB bs)] (.bool true) := by
  refine fspec_det tab_ok Tryz.call6 Tryz.func6 rfl 124 Tryz.ntmps6 (of_decide_eq_true rfl) fun B => codeK_sound tab_ok _ _ _ ?_
  simp (config := { maxSteps := 4000000 }) only [go_sem, simprocAttr, ↓dnA, Tryz.f6, rows_length, encT, encWF]
  intro hl
  have hc : CodeOk bs := ⟨h, by simp at hl; omega⟩
  refine CallTo.of (c_spec_DrawWorldVote nb bs hc) ?_
  rintro r b ⟨w, m, n, rfl, hw⟩
  have hx : WldSz w := WldS32.sz ⟨by omega⟩
  have hI := c_impl_WorldVote none none none none none w m n hx
  have hS := c_spec_WorldVote none none none none none w m n hx
  have hsz := worldVote_wsz w m n
  have hno := fun h => worldVote_same (w := w) (m := m) (n := n) h
  have hok := fun h => worldVote_facts (w := w) (m := m) (n := n) h
  generalize worldVote w m n = p at hI hS hsz hno hok
  obtain ⟨x, ok⟩ := p
  dsimp only at hI hS hsz hno hok
  have hy : WldSz x := WldS32.sz ⟨by omega⟩
  have hqq : (ok != ok) = false := by simp
  have hsw := c_laws_sameWorld none none none none none none none none none none x hy
  cases ok with
  | false =>
    have hno := hno rfl
    obtain ⟨z, hz⟩ : ∃ z, ((x.votes.length : Int) == 0) = z := ⟨_, rfl⟩
    have hswx : z = false → x = w := fun e => by
      rcases hno with e2 | e2
      · rw [e2] at hz; rw [e] at hz; cases hz
      · exact e2
    simp (config := { maxSteps := 4000000 }) only [go_sem, simprocAttr, ↓dnA, Tryz.f6, rows_length, encT, encWF, encW]
    refine CallTo.det hI fun _ => ?_
    simp (config := { maxSteps := 4000000 }) only [go_sem, simprocAttr, ↓dnA, Tryz.f6, rows_length, encT, encWF, encW, encWF]
    refine CallTo.det hS fun _ => ?_
    simp (config := { maxSteps := 4000000 }) only [go_sem, simprocAttr, ↓dnA, Tryz.f6, rows_length, encT, encWF, encW, encWF]
    refine CallTo.det hsw fun _ => ?_
    cases z with
    | true =>
      simp (config := { maxSteps := 4000000 }) only [go_sem, simprocAttr, ↓dnA, Tryz.f6, rows_length, encT, encWF, encW, encWF, hqq, hz]
      refine CallTo.det c_laws_alive fun _ => ?_
      simp (config := { maxSteps := 4000000 }) only [go_sem, simprocAttr, ↓dnA, Tryz.f6, rows_length, encT, encWF, encW, encWF, hqq, hz]
    | false =>
      have e := hswx rfl
      have hW : Det Tryz.prog 22 [.agg (encW none none none none none x), .agg (encW none none none none none w)] (.bool true) := by rw [e]; exact c_laws_sameWorld none none none none none none none none none none w hx
      simp (config := { maxSteps := 4000000 }) only [go_sem, simprocAttr, ↓dnA, Tryz.f6, rows_length, encT, encWF, encW, encWF, hqq, hz]
      refine CallTo.det hW fun _ => ?_
      simp (config := { maxSteps := 4000000 }) only [go_sem, simprocAttr, ↓dnA, Tryz.f6, rows_length, encT, encWF, encW, encWF, hqq, hz]
      refine CallTo.det c_laws_alive fun _ => ?_
      simp (config := { maxSteps := 4000000 }) only [go_sem, simprocAttr, ↓dnA, Tryz.f6, rows_length, encT, encWF, encW, encWF, hqq, hz]
  | true =>
    obtain ⟨hv, hvo, hvx, htr, hvt, hag⟩ := hok rfl
    have hA := c_impl_WorldVote none none none none none x m n hy
    generalize worldVote x m n = p2 at hA hag
    obtain ⟨x2, ok2⟩ := p2
    dsimp only at hA hag
    subst hag
    have hV := c_impl_WorldValid none none none none none x hy
    rw [hvx] at hV
    have hT : Det Tryz.prog 31 [.agg (encT none none none x.tree), .agg (encT none none none w.tree)] (.bool true) := by rw [htr]; exact c_laws_sameTree none none none none none none w.tree hx.tree
    have hlv : x.votes.length = w.votes.length := by rw [hvt]; unfold voted; simp
    have hvl : w.votes.length ≤ 300 := by unfold wsz at hw; omega
    have hlost := fun k => vote_kept hv hvo k
    rw [← hvt] at hlost
    obtain ⟨⟨hm0, hm3⟩, ⟨hn1, hn2⟩, hb⟩ := id hvo
    obtain ⟨a, rfl⟩ : ∃ a : Nat, m = (a : Int) := ⟨m.toNat, by omega⟩
    obtain ⟨k, rfl⟩ : ∃ k : Nat, n = (k : Int) := ⟨n.toNat, by omega⟩
    have hkl : k < x.votes.length := by omega
    have hxk : x.votes.getD k 0 = orB (vt w k) a := by
      rw [hvt, vt_voted (by rw [Int.toNat_natCast]; omega), Int.toNat_natCast, if_pos rfl, Int.toNat_natCast]
    have hof := or_facts (vt_bd hv k) (show a < 4 by omega) (show a < 4 by omega)
    have hmf := (mask_facts hof.2.1 (show a < 4 by omega)).2.1
    rw [hof.1, decide_eq_true rfl, Bool.or_true, ← hxk] at hmf
    have hgx : (rows encI x.votes).getD k [] = [.int .i64 (x.votes.getD k 0)] := by rw [rows_get _ _ _ hkl, List.getD_eq_getElem?_getD, List.getElem?_eq_getElem hkl]; rfl
    have d1 : decide ((a : Int) ≥ 0) = true := by simp
    have d2 : decide ((k : Int) ≥ 0) = true := by simp
    simp (config := { maxSteps := 4000000 }) only [go_sem, simprocAttr, ↓dnA, Tryz.f6, rows_length, encT, encWF, encW]
    refine CallTo.det hI fun _ => ?_
    simp (config := { maxSteps := 4000000 }) only [go_sem, simprocAttr, ↓dnA, Tryz.f6, rows_length, encT, encWF, encW, encWF]
    refine CallTo.det hS fun _ => ?_
    simp (config := { maxSteps := 4000000 }) only [go_sem, simprocAttr, ↓dnA, Tryz.f6, rows_length, encT, encWF, encW, encWF]
    refine CallTo.det hsw fun _ => ?_
    simp (config := { maxSteps := 4000000 }) only [go_sem, simprocAttr, ↓dnA, Tryz.f6, rows_length, encT, encWF, encW, encWF, hqq]
    refine CallTo.det hA fun _ => ?_
    simp (config := { maxSteps := 4000000 }) only [go_sem, simprocAttr, ↓dnA, Tryz.f6, rows_length, encT, encWF, encW, encWF, hqq]
    refine semL_for tab_ok (fun i : Nat => ⟨124, [(3, .loc 3 0), (4, .int .i64 a), (5, .int .i64 k), (6, .loc 6 0), (11, .bool false), (12, .int .i64 i)], [(3, .var (encW none none none none none w)), (6, .var [.row 27000 x.tree.base.length, .row 27001 x.tree.blocks.length, .row 27002 x.tree.before.length, .row 27003 x.voters.length, .row 27004 x.votes.length]),
         (27000, .row true false 2 (rows encE x.tree.base)), (27001, .row true false 6 (rows encB1 x.tree.blocks)), (27002, .row true false 1 (rows encI x.tree.before)), (27003, .row true false 2 (rows encV x.voters)), (27004, .row true false 1 (rows encI x.votes))]⟩) (fun i => w.votes.length - i)
      (fun i => i ≤ w.votes.length) 0 [(3, 3), (6, 6), (27000, 27000), (27001, 27001), (27002, 27002), (27003, 27003), (27004, 27004)] (Weak.of (by rfl) ?_ ?_ (by rfl)) (by omega) ?_
    · simp (config := { maxSteps := 4000000 }) only [go_sem, simprocAttr, ↓dnA, Tryz.f6, rows_length, encT, encWF, encW, encWF, frW, wk2, wk1, wkL, wkB, hpW, List.mem_cons, Prod.mk.injEq, exists_eq_left, exists_eq_right, exists_eq]
      try rfl
    · simp (config := { maxSteps := 4000000 }) only [go_sem, simprocAttr, ↓dnA, Tryz.f6, rows_length, encT, encWF, encW, encWF, nc0, frW, wk2, wk1, wkL, wkB, hpW, List.mem_cons, Prod.mk.injEq, exists_eq_left, exists_eq_right, exists_eq]
      try rfl
    · rintro i hi
      by_cases hil : i < w.votes.length
      · have hwi : IntKind.i64.wrap ((i : Int) + 1) = ((i + 1 : Nat) : Int) := wsucc hil (by omega)
        have hix : i < x.votes.length := by omega
        have g1 : (rows encI w.votes).getD i [] = [.int .i64 (vt w i)] := by rw [rows_get _ _ _ hil]; unfold vt; rw [List.getD_eq_getElem?_getD, List.getElem?_eq_getElem hil]; rfl
        have g2 : (rows encI x.votes).getD i [] = [.int .i64 (x.votes.getD i 0)] := by rw [rows_get _ _ _ hix, List.getD_eq_getElem?_getD, List.getElem?_eq_getElem hix]; rfl
        have hz : (andnI (vt w i) (x.votes.getD i 0) != 0) = false := by rw [hlost i]; rfl
        simp (config := { maxSteps := 4000000 }) only [go_sem, simprocAttr, ↓dnA, Tryz.f6, rows_length, encT, encWF, encW, nlt hil]
        refine semL_draw tab_ok mixed_ rfl (ord := [(0, []), (1, []), (2, []), (3, []), (4, []), (5, []), (6, []), (7, []), (8, []), (9, []), (10, []), (11, [])]) (by dsimp only; decide +kernel) ?_
        simp (config := { maxSteps := 4000000 }) only [go_sem, simprocAttr, ↓dnA, Tryz.f6, rows_length, encT, encWF, encW, nlt hil, hil, nlt hix, hix, nn0, g1, g2, ↓intK_andn, hz, hwi]
        refine ⟨i + 1, [(3, 3), (6, 6), (27000, 27000), (27001, 27001), (27002, 27002), (27003, 27003), (27004, 27004)], by omega, by dsimp only; omega, Weak.of (by rfl) ?_ ?_ (by rfl)⟩
        · simp (config := { maxSteps := 4000000 }) only [go_sem, simprocAttr, ↓dnA, Tryz.f6, rows_length, encT, encWF, encW, encWF, frW, wk2, wk1, wkL, wkB, hpW, List.mem_cons, Prod.mk.injEq, exists_eq_left, exists_eq_right, exists_eq]
          try rfl
        · simp (config := { maxSteps := 4000000 }) only [go_sem, simprocAttr, ↓dnA, Tryz.f6, rows_length, encT, encWF, encW, encWF, nc0, frW, wk2, wk1, wkL, wkB, hpW, List.mem_cons, Prod.mk.injEq, exists_eq_left, exists_eq_right, exists_eq]
          try rfl
      · obtain rfl : i = w.votes.length := by omega
        simp (config := { maxSteps := 4000000 }) only [go_sem, simprocAttr, ↓dnA, Tryz.f6, rows_length, encT, encWF, encW, nlf hil]
        refine CallTo.det hV fun _ => ?_
        simp (config := { maxSteps := 4000000 }) only [go_sem, simprocAttr, ↓dnA, Tryz.f6, rows_length, encT, encWF, encW, encWF, d1, d2, nn0, nlt hkl, hkl, hgx, hmf]
        refine CallTo.det hT fun _ => ?_
        simp (config := { maxSteps := 4000000 }) only [go_sem, simprocAttr, ↓dnA, Tryz.f6, rows_length, encT, encWF, encW, encWF, d1, d2, nn0, nlt hkl, hkl, hgx, hmf]

end Go.Proofs.YthcfafpjkbbaoaaGreat

/- The law FnWorldVote, and its closed facts. -/
namespace Go.Proofs.YthcfafpjkbbaoaaGreat
open Go Go.ChangeShapes Go.WideShapes Go.ChangeAt Go.RowKit

theorem fnWorldVote_named : Tryz.pinned.checked.prog.funcNamed Rows.fnWorldVoteRow.func = some 6 := by kernel_rfl
theorem fnWorldVote_inst : Tryz.f6.isInstance Tryz.pinned.checked.prog Rows.fnWorldVoteRow.origin Rows.fnWorldVoteRow.targs := of_decide_eq_true (by kernel_rfl)
theorem fnWorldVote_wrap : Tryz.f6.isWrapper Tryz.pinned.checked.prog Rows.fnWorldVoteRow.wrapper Rows.fnWorldVoteRow.mainSum := by
  unfold Func.isWrapper; first | (rw [if_pos (by decide +kernel)]; kernel_rfl) | (rw [if_neg (by decide +kernel)]; exact ⟨rfl, rfl⟩)
set_option maxRecDepth 100000 in
theorem fnWorldVote_closed : joinedFacts Tryz.pinned.checked.prog 6 Tryz.f6 Rows.fnWorldVoteSpec Rows.fnWorldVoteRow = true := by kernel_rfl

end Go.Proofs.YthcfafpjkbbaoaaGreat

