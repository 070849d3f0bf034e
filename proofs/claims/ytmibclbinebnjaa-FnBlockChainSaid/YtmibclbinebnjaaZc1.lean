/- FnBlockChain (part 1): W60, W61, W62, W64, C11, Ty1, Ty4, Ty5, Ty6 -/
import Derived.Test.YtmibclbinebnjaaRows
import Derived.ProofKit
import Derived.Test.YtmibclbinebnjaaR2

/- Contracts: drawn keys, values, actions. -/
set_option linter.unusedSimpArgs false
set_option linter.unusedVariables false
set_option maxRecDepth 20000
set_option maxHeartbeats 4000000
namespace Go.Proofs.Ytmibclbinebnjaa
open Go Go.RowKit

def NumQ (lo hi d : Int) (nb : Option Bool) (bs : List Int) (p : Int) (r : AV) (b : List AV) : Prop := ∃ x q : Int, r = .int .i64 x ∧ b = rd nb bs q ∧ p ≤ q ∧ q ≤ p + d ∧ lo ≤ x ∧ x ≤ hi

theorem wr0 : IntKind.i64.wrap 0 = 0 := by decide
theorem wr1 : IntKind.i64.wrap 1 = 1 := by decide
theorem wr2 : IntKind.i64.wrap 2 = 2 := by decide
theorem wr3 : IntKind.i64.wrap 3 = 3 := by decide
theorem wr4 : IntKind.i64.wrap 4 = 4 := by decide
theorem wr5 : IntKind.i64.wrap 5 = 5 := by decide
theorem wr6 : IntKind.i64.wrap 6 = 6 := by decide
theorem tn0 : (0 : Int).toNat = 0 := rfl
theorem tn1 : (1 : Int).toNat = 1 := rfl
theorem tn2 : (2 : Int).toNat = 2 := rfl
theorem tn3 : (3 : Int).toNat = 3 := rfl
theorem tn4 : (4 : Int).toNat = 4 := rfl
theorem tn5 : (5 : Int).toNat = 5 := rfl
theorem tn6 : (6 : Int).toNat = 6 := rfl

theorem c_spec_l20Key (nb : Option Bool) (bs : List Int) (p : Int) (h : RdOk bs p) (hp : p ≤ 999999000) : FSpec Try.prog 128 [.loc 0 0] true (rd nb bs p) (NumQ 0 31 3 nb bs p) := by
  refine fspec_rel tab_ok Try.call128 Try.func128 rfl 13 Try.ntmps128 (of_decide_eq_true rfl) fun B => codeK_sound tab_ok _ _ _ ?_
  unfold rd
  simp (config := { maxSteps := 4000000 }) only [go_sem, simprocAttr, ↓dnA, Try.f128, wr0, wr1, wr2, wr3, wr4, wr5, wr6, tn0, tn1, tn2, tn3, tn4, tn5, tn6]
  refine CallTo.of (c_spec_pick nb bs p 5 h) ?_
  rintro r b ⟨x, rfl, rfl, hx⟩
  have h1 := h.step (q := p + 1) (by omega) (by omega)
  unfold rd
  simp (config := { maxSteps := 4000000 }) only [go_sem, simprocAttr, ↓dnA, Try.f128, wr0, wr1, wr2, wr3, wr4, wr5, wr6, tn0, tn1, tn2, tn3, tn4, tn5, tn6]
  refine CallTo.of (c_spec_pick nb bs (p + 1) 32 h1) ?_
  rintro r b ⟨y, rfl, rfl, hy⟩
  have h2 := h.step (q := p + 1 + 1) (by omega) (by omega)
  unfold rd
  simp (config := { maxSteps := 4000000 }) only [go_sem, simprocAttr, ↓dnA, Try.f128, wr0, wr1, wr2, wr3, wr4, wr5, wr6, tn0, tn1, tn2, tn3, tn4, tn5, tn6]
  refine CallTo.of (c_spec_pick nb bs (p + 1 + 1) 4 h2) ?_
  rintro r b ⟨z, rfl, rfl, hz⟩
  unfold rd
  have hz4 : z = 0 ∨ z = 1 ∨ z = 2 ∨ z = 3 := by omega
  rcases hz4 with rfl | rfl | rfl | rfl
  all_goals
    simp (config := { maxSteps := 4000000 }) only [go_sem, simprocAttr, ↓dnA, Try.f128, wr0, wr1, wr2, wr3, wr4, wr5, wr6, tn0, tn1, tn2, tn3, tn4, tn5, tn6]
    exact .same ⟨_, _, rfl, rfl, by omega, by omega, by omega, by omega⟩


theorem c_spec_l20Value (nb : Option Bool) (bs : List Int) (p : Int) (h : RdOk bs p) (hp : p ≤ 999999000) : FSpec Try.prog 129 [.loc 0 0] true (rd nb bs p) (NumQ 0 1000000 3 nb bs p) := by
  refine fspec_rel tab_ok Try.call129 Try.func129 rfl 15 Try.ntmps129 (of_decide_eq_true rfl) fun B => codeK_sound tab_ok _ _ _ ?_
  unfold rd
  simp (config := { maxSteps := 4000000 }) only [go_sem, simprocAttr, ↓dnA, Try.f129, wr0, wr1, wr2, wr3, wr4, wr5, wr6, tn0, tn1, tn2, tn3, tn4, tn5, tn6]
  refine CallTo.of (c_spec_pick nb bs p 12 h) ?_
  rintro r b ⟨x, rfl, rfl, hx⟩
  have h1 := h.step (q := p + 1) (by omega) (by omega)
  unfold rd
  simp (config := { maxSteps := 4000000 }) only [go_sem, simprocAttr, ↓dnA, Try.f129, wr0, wr1, wr2, wr3, wr4, wr5, wr6, tn0, tn1, tn2, tn3, tn4, tn5, tn6]
  refine CallTo.of (c_spec_pick nb bs (p + 1) 256 h1) ?_
  rintro r b ⟨y, rfl, rfl, hy⟩
  have h2 := h.step (q := p + 1 + 1) (by omega) (by omega)
  unfold rd
  simp (config := { maxSteps := 4000000 }) only [go_sem, simprocAttr, ↓dnA, Try.f129, wr0, wr1, wr2, wr3, wr4, wr5, wr6, tn0, tn1, tn2, tn3, tn4, tn5, tn6]
  refine CallTo.of (c_spec_pick nb bs (p + 1 + 1) 7 h2) ?_
  rintro r b ⟨z, rfl, rfl, hz⟩
  unfold rd
  have hz4 : z = 0 ∨ z = 1 ∨ z = 2 ∨ z = 3 ∨ z = 4 ∨ z = 5 ∨ z = 6 := by omega
  rcases hz4 with rfl | rfl | rfl | rfl | rfl | rfl | rfl
  all_goals
    simp (config := { maxSteps := 4000000 }) only [go_sem, simprocAttr, ↓dnA, Try.f129, wr0, wr1, wr2, wr3, wr4, wr5, wr6, tn0, tn1, tn2, tn3, tn4, tn5, tn6]
    exact .same ⟨_, _, rfl, rfl, by omega, by omega, by omega, by omega⟩

def ActQ (nb : Option Bool) (bs : List Int) (p : Int) (r : AV) (b : List AV) : Prop := ∃ (a : Action) (q : Int), r = .agg (encA a) ∧ b = rd nb bs q ∧ p ≤ q ∧ q ≤ p + 15

theorem c_spec_l20Action (nb : Option Bool) (bs : List Int) (p n : Int) (h : RdOk bs p) (hp : p ≤ 999998000) (hn : 0 ≤ n ∧ n ≤ 1000000) : FSpec Try.prog 130 [.loc 0 0, .int .i64 n] true (rd nb bs p) (ActQ nb bs p) := by
  refine fspec_rel tab_ok Try.call130 Try.func130 rfl 58 Try.ntmps130 (of_decide_eq_true rfl) fun B => codeK_sound tab_ok _ _ _ ?_
  unfold rd
  simp (config := { maxSteps := 4000000 }) only [go_sem, simprocAttr, ↓dnA, Try.f130, wr0, wr1, wr2, wr3, wr4, wr5, wr6, tn0, tn1, tn2, tn3, tn4, tn5, tn6]
  refine CallTo.of (c_spec_pick nb bs p 6 h) ?_
  rintro r b ⟨x, rfl, rfl, hx⟩
  have h1 := h.step (q := p + 1) (by omega) (by omega)
  unfold rd
  simp (config := { maxSteps := 4000000 }) only [go_sem, simprocAttr, ↓dnA, Try.f130, wr0, wr1, wr2, wr3, wr4, wr5, wr6, tn0, tn1, tn2, tn3, tn4, tn5, tn6]
  refine CallTo.of (c_spec_l20Key nb bs (p + 1) h1 (by omega)) ?_
  rintro r b ⟨y, q1, rfl, rfl, hq1, hq1', hy⟩
  have h2 := h.step (q := q1) (by omega) (by omega)
  unfold rd
  simp (config := { maxSteps := 4000000 }) only [go_sem, simprocAttr, ↓dnA, Try.f130, wr0, wr1, wr2, wr3, wr4, wr5, wr6, tn0, tn1, tn2, tn3, tn4, tn5, tn6]
  refine CallTo.of (c_spec_l20Key nb bs q1 h2 (by omega)) ?_
  rintro r b ⟨z, q2, rfl, rfl, hq2, hq2', hz⟩
  have h3 := h.step (q := q2) (by omega) (by omega)
  unfold rd
  simp (config := { maxSteps := 4000000 }) only [go_sem, simprocAttr, ↓dnA, Try.f130, wr0, wr1, wr2, wr3, wr4, wr5, wr6, tn0, tn1, tn2, tn3, tn4, tn5, tn6]
  refine CallTo.of (c_spec_l20Value nb bs q2 h3 (by omega)) ?_
  rintro r b ⟨u, q3, rfl, rfl, hq3, hq3', hu⟩
  have h4 := h.step (q := q3) (by omega) (by omega)
  unfold rd
  have hx6 : x = 0 ∨ x = 1 ∨ x = 2 ∨ x = 3 ∨ x = 4 ∨ x = 5 := by omega
  rcases hx6 with rfl | rfl | rfl | rfl | rfl | rfl
  all_goals
    simp (config := { maxSteps := 4000000 }) only [go_sem, simprocAttr, ↓dnA, Try.f130, wr0, wr1, wr2, wr3, wr4, wr5, wr6, tn0, tn1, tn2, tn3, tn4, tn5, tn6]
    refine CallTo.of (c_spec_odd nb bs q3 n h4 hn) ?_
    rintro r b ⟨g, q4, rfl, rfl, hq4, hq4'⟩
    have h5 := h.step (q := q4) (by omega) (by omega)
    unfold rd
    cases g
    · simp (config := { maxSteps := 4000000 }) only [go_sem, simprocAttr, ↓dnA, Try.f130, wr0, wr1, wr2, wr3, wr4, wr5, wr6, tn0, tn1, tn2, tn3, tn4, tn5, tn6]
      exact .same ⟨⟨_, _, _, _⟩, q4, rfl, rfl, by omega, by omega⟩
    · simp (config := { maxSteps := 4000000 }) only [go_sem, simprocAttr, ↓dnA, Try.f130, wr0, wr1, wr2, wr3, wr4, wr5, wr6, tn0, tn1, tn2, tn3, tn4, tn5, tn6]
      refine CallTo.of (c_spec_pick nb bs q4 4 h5) ?_
      rintro r b ⟨m, rfl, rfl, hm⟩
      have h6 := h.step (q := q4 + 1) (by omega) (by omega)
      unfold rd
      have hm4 : m = 0 ∨ m = 1 ∨ m = 2 ∨ m = 3 := by omega
      rcases hm4 with rfl | rfl | rfl | rfl
      all_goals
        simp (config := { maxSteps := 4000000 }) only [go_sem, simprocAttr, ↓dnA, Try.f130, wr0, wr1, wr2, wr3, wr4, wr5, wr6, tn0, tn1, tn2, tn3, tn4, tn5, tn6]
        first
          | exact .same ⟨⟨_, _, _, _⟩, q4 + 1, rfl, rfl, by omega, by omega⟩
          | (refine CallTo.of (c_spec_pick nb bs (q4 + 1) 2 h6) ?_
             rintro r b ⟨m2, rfl, rfl, hm2⟩
             unfold rd
             have hm4 : m2 = 0 ∨ m2 = 1 := by omega
             rcases hm4 with rfl | rfl
             all_goals
               simp (config := { maxSteps := 4000000 }) only [go_sem, simprocAttr, ↓dnA, Try.f130, wr0, wr1, wr2, wr3, wr4, wr5, wr6, tn0, tn1, tn2, tn3, tn4, tn5, tn6]
               exact .same ⟨⟨_, _, _, _⟩, q4 + 1 + 1, rfl, rfl, by omega, by omega⟩)

end Go.Proofs.Ytmibclbinebnjaa

/- Contracts: drawn lists of actions, drawn stores. -/
set_option linter.unusedSimpArgs false
set_option linter.unusedVariables false
set_option maxRecDepth 20000
set_option maxHeartbeats 4000000
namespace Go.Proofs.Ytmibclbinebnjaa
open Go Go.RowKit

theorem rd_len (nb : Option Bool) (bs : List Int) (p : Int) : (rd nb bs p).length = 2 := rfl

def ActsQ (nb : Option Bool) (bs : List Int) (p : Int) (r : AV) (b : List AV) : Prop := ∃ (xs : List Action) (q : Int), r = .osl true 4 (rows encA xs) ∧ b = rd nb bs q ∧ p ≤ q ∧ q ≤ p + 200 ∧ xs.length ≤ 20

theorem c_spec_l20Actions (nb : Option Bool) (bs : List Int) (p n : Int) (h : RdOk bs p) (hp : p ≤ 999990000) (hn : 0 ≤ n ∧ n ≤ 1000000) : FSpec Try.prog 58 [.loc 0 0, .int .i64 n] true (rd nb bs p) (ActsQ nb bs p) := by
  refine fspec_rel tab_ok Try.call58 Try.func58 rfl 38 Try.ntmps58 (of_decide_eq_true rfl) fun B => codeK_sound tab_ok _ _ _ ?_
  unfold rd
  simp (config := { maxSteps := 4000000 }) only [go_sem, simprocAttr, ↓dnA, Try.f58, rows_length]
  refine CallTo.of (c_spec_pick nb bs p 7 h) ?_
  rintro r b ⟨x, rfl, rfl, hx⟩
  unfold rd
  simp (config := { maxSteps := 4000000 }) only [go_sem, simprocAttr, ↓dnA, Try.f58, rows_length]
  obtain ⟨c0, rfl⟩ : ∃ c0 : Nat, x = (c0 : Int) := ⟨x.toNat, by omega⟩
  refine semL_for tab_ok (fun s : List Action × Nat × Int => ⟨38, [(0, .loc 900 0), (1, .int .i64 n), (5, .row 600 s.1.length), (6, .int .i64 s.2.1)], [(900, .var (rd nb bs s.2.2)), (600, .row true true 4 (rows encA s.1))]⟩) (fun s => s.2.1)
    (fun s => s.1.length + s.2.1 ≤ 6 ∧ p ≤ s.2.2 ∧ s.2.2 + 15 * s.2.1 ≤ p + 91) ([], c0, p + 1) [(900, 900), (7, 600)] (Weak.of (by rfl) ?_ ?_ (by rfl)) (by dsimp only; simp only [List.length_nil]; omega) ?_
  · simp (config := { maxSteps := 4000000 }) only [go_sem, simprocAttr, ↓dnA, Try.f58, rows_length, rd, frW, wk2, wk1, wkL, wkB, hpW, List.mem_cons, Prod.mk.injEq, exists_eq_left, exists_eq_right, exists_eq]
    try rfl
  · simp (config := { maxSteps := 4000000 }) only [go_sem, simprocAttr, ↓dnA, Try.f58, rows_length, rd, frW, wk2, wk1, wkL, wkB, hpW, List.mem_cons, Prod.mk.injEq, exists_eq_left, exists_eq_right, exists_eq]
    try rfl
  · rintro ⟨xs, c, q⟩ ⟨i1, i2, i3⟩
    dsimp only at i1 i2 i3 ⊢
    have hq := h.step (q := q) (by omega) (by omega)
    have htk : (rows encA xs).take xs.length = rows encA xs := by rw [List.take_of_length_le]; rw [rows_length]; omega
    by_cases hc : 0 < c
    · have hd : decide ((c : Int) > 0) = true := by simp; omega
      have hw : IntKind.i64.wrap ((c : Int) - 1) = ((c - 1 : Nat) : Int) := by rw [wrap_small _ (by omega) (by omega)]; omega
      simp (config := { maxSteps := 4000000 }) only [go_sem, simprocAttr, ↓dnA, Try.f58, rows_length, rd, hd, hw, htk]
      refine CallTo.of (c_spec_l20Action nb bs q 0 hq (by omega) (by omega)) ?_
      rintro r b ⟨a, q', rfl, rfl, hq1, hq2⟩
      simp (config := { maxSteps := 4000000 }) only [go_sem, simprocAttr, ↓dnA, Try.f58, rows_length, rd, encA, hd, hw, htk]
      repeat refine And.intro (by first | omega | (simp; done) | (simp; omega) | assumption) ?_
      refine ⟨(xs ++ [a], c - 1, q'), [(900, 900), (18, 600)], ⟨by dsimp only; simp only [List.length_append, List.length_cons, List.length_nil]; omega, by dsimp only; omega, by dsimp only; omega⟩, by dsimp only; omega, Weak.of (by rfl) ?_ ?_ (by rfl)⟩
      · simp (config := { maxSteps := 4000000 }) only [go_sem, simprocAttr, ↓dnA, Try.f58, rows_length, rd, List.length_append, frW, wk2, wk1, wkL, wkB, hpW, List.mem_cons, Prod.mk.injEq, exists_eq_left, exists_eq_right, exists_eq]
        rw [← rows_snoc]; rfl
      · simp (config := { maxSteps := 4000000 }) only [go_sem, simprocAttr, ↓dnA, Try.f58, rows_length, rd, List.length_append, frW, wk2, wk1, wkL, wkB, hpW, List.mem_cons, Prod.mk.injEq, exists_eq_left, exists_eq_right, exists_eq]
    · obtain rfl : c = 0 := by omega
      simp (config := { maxSteps := 4000000 }) only [go_sem, simprocAttr, ↓dnA, Try.f58, rows_length, rd, htk]
      refine CallTo.of (c_spec_odd nb bs q n hq hn) ?_
      rintro r b ⟨g, q1, rfl, rfl, hq1, hq2⟩
      have h5 := h.step (q := q1) (by omega) (by omega)
      unfold rd
      cases g with
      | false =>
        simp (config := { maxSteps := 4000000 }) only [go_sem, simprocAttr, ↓dnA, Try.f58, rows_length, htk]
        exact .same ⟨xs, q1, rfl, rfl, by omega, by omega, by omega⟩
      | true =>
        simp (config := { maxSteps := 4000000 }) only [go_sem, simprocAttr, ↓dnA, Try.f58, rows_length, htk]
        refine CallTo.of (c_spec_pick nb bs q1 2 h5) ?_
        rintro r b ⟨z, rfl, rfl, hz⟩
        have h6 := h.step (q := q1 + 1) (by omega) (by omega)
        unfold rd
        have hz2 : z = 0 ∨ z = 1 := by omega
        rcases hz2 with rfl | rfl
        · simp (config := { maxSteps := 4000000 }) only [go_sem, simprocAttr, ↓dnA, Try.f58, rows_length, htk]
          refine CallTo.of (c_spec_l20Action nb bs (q1 + 1) 1 h6 (by omega) (by omega)) ?_
          rintro r b ⟨a, q', rfl, rfl, hq3, hq4⟩
          have hl : (rows encA xs ++ [[AV.int IntKind.i64 a.kind, AV.int IntKind.i64 a.fr, AV.int IntKind.i64 a.to, AV.int IntKind.i64 a.amount]]) = rows encA (xs ++ [a]) := by rw [← rows_snoc]; rfl
          have hl2 : (xs ++ [a]).length = xs.length + 1 := by simp
          simp (config := { maxSteps := 4000000 }) only [go_sem, simprocAttr, ↓dnA, Try.f58, rows_length, rd, encA, htk, hl, hl2]
          repeat refine And.intro (by first | omega | (simp; done) | (simp; omega) | assumption) ?_
          exact .same ⟨xs ++ [a], q', rfl, rfl, by omega, by omega, by rw [hl2]; omega⟩
        · simp (config := { maxSteps := 4000000 }) only [go_sem, simprocAttr, ↓dnA, Try.f58, rows_length, htk]
          refine semL_for tab_ok (fun s : List Action => ⟨38, [(5, .row 600 s.length)], [(900, .var (rd nb bs (q1 + 1))), (600, .row true true 4 (rows encA s))]⟩) (fun s => 11 - s.length)
            (fun s => s.length ≤ 11) xs [(900, 900), (600, 600)] (Weak.of (by rfl) ?_ ?_ (by rfl)) (by omega) ?_
          · simp (config := { maxSteps := 4000000 }) only [go_sem, simprocAttr, ↓dnA, Try.f58, rows_length, rd, frW, wk2, wk1, wkL, wkB, hpW, List.mem_cons, Prod.mk.injEq, exists_eq_left, exists_eq_right, exists_eq]
          · simp (config := { maxSteps := 4000000 }) only [go_sem, simprocAttr, ↓dnA, Try.f58, rows_length, rd, frW, wk2, wk1, wkL, wkB, hpW, List.mem_cons, Prod.mk.injEq, exists_eq_left, exists_eq_right, exists_eq]
          · intro ys hy
            have htk : (rows encA ys).take ys.length = rows encA ys := by rw [List.take_of_length_le]; rw [rows_length]; omega
            by_cases h10 : ys.length ≤ 10
            · have hd : decide ((ys.length : Int) ≤ 10) = true := by simp; omega
              simp (config := { maxSteps := 4000000 }) only [go_sem, simprocAttr, ↓dnA, Try.f58, rows_length, rd, hd, htk]
              repeat refine And.intro (by first | omega | (simp; done) | (simp; omega) | assumption) ?_
              refine ⟨ys ++ [⟨1, 0, 0, 0⟩], [(900, 900), (36, 600)], by simp; omega, by simp; omega, Weak.of (by rfl) ?_ ?_ (by rfl)⟩
              · simp (config := { maxSteps := 4000000 }) only [go_sem, simprocAttr, ↓dnA, Try.f58, rows_length, rd, List.length_append, frW, wk2, wk1, wkL, wkB, hpW, List.mem_cons, Prod.mk.injEq, exists_eq_left, exists_eq_right, exists_eq]
                rw [← rows_snoc]; rfl
              · simp (config := { maxSteps := 4000000 }) only [go_sem, simprocAttr, ↓dnA, Try.f58, rows_length, rd, List.length_append, frW, wk2, wk1, wkL, wkB, hpW, List.mem_cons, Prod.mk.injEq, exists_eq_left, exists_eq_right, exists_eq]
                try rfl
            · have hd : decide ((ys.length : Int) ≤ 10) = false := by simp; omega
              simp (config := { maxSteps := 4000000 }) only [go_sem, simprocAttr, ↓dnA, Try.f58, rows_length, rd, hd, htk]
              exact .same ⟨ys, q1 + 1, rfl, rfl, by omega, by omega, by omega⟩

end Go.Proofs.Ytmibclbinebnjaa

/- Contracts: drawn stores, drawn serial runs. -/
set_option linter.unusedSimpArgs false
set_option linter.unusedVariables false
set_option maxRecDepth 20000
set_option maxHeartbeats 4000000
namespace Go.Proofs.Ytmibclbinebnjaa
open Go Go.RowKit

/-- A store with a value put. -/
def putValue (s : List Entry) (k x : Int) : List Entry × Bool := if storeValid s then (if inB k 0 31 && inB x 0 1000000 then (putD k x (x == 0) s, true) else (s, false)) else ([], false)

theorem putValue_len (s : List Entry) (k x : Int) (h : s.length ≤ 40) : (putValue s k x).1.length ≤ 40 := by
  unfold putValue
  split
  · rename_i hs
    split
    · rename_i hb
      rw [Bool.and_eq_true] at hb
      have := store_len (putD_ok (inB_iff.1 hb.1) (inB_iff.1 hb.2) hs).1
      dsimp only; omega
    · exact h
  · simp

theorem c_spec_PutValue (n1 : Option Bool) (s : List Entry) (k x : Int) (hs : s.length ≤ 1000) : Det Try.prog 127 [.sl n1 (rows encE s), .int .i64 k, .int .i64 x] (.tup [.osl true 2 (rows encE (putValue s k x).1), .bool (putValue s k x).2]) := by
  refine fspec_det tab_ok Try.call127 Try.func127 rfl 27 Try.ntmps127 (of_decide_eq_true rfl) fun B => codeK_sound tab_ok _ _ _ ?_
  unfold putValue
  have b1 := all_rows encE AV.flat (fun _ => rfl) s
  have b2 := all_rows encE AV.one (fun _ => rfl) s
  have b3 := sz0_rows encE 2 (fun _ => rfl) s
  simp (config := { maxSteps := 4000000 }) only [go_sem, simprocAttr, ↓dnA, Try.f127, rows_length]
  refine CallTo.det (c_spec_StoreValid n1 s (by omega)) fun _ => ?_
  cases h1 : storeValid s with
  | false => simp (config := { maxSteps := 4000000 }) only [go_sem, simprocAttr, ↓dnA, Try.f127, rows_length, h1, rows_nil]
  | true =>
    simp (config := { maxSteps := 4000000 }) only [go_sem, simprocAttr, ↓dnA, Try.f127, rows_length, h1]
    refine CallTo.det (c_l1In _ _ _) fun _ => ?_
    cases h2 : inB k 0 31 with
    | false =>
      simp (config := { maxSteps := 4000000 }) only [go_sem, simprocAttr, ↓dnA, Try.f127, rows_length, h1, h2, b1, b2, b3]
      repeat refine And.intro (by first | omega | (simp; done) | (simp; omega) | assumption) ?_
      omega
    | true =>
      simp (config := { maxSteps := 4000000 }) only [go_sem, simprocAttr, ↓dnA, Try.f127, rows_length, h1, h2]
      refine CallTo.det (c_l1In _ _ _) fun _ => ?_
      cases h3 : inB x 0 1000000 with
      | false =>
        simp (config := { maxSteps := 4000000 }) only [go_sem, simprocAttr, ↓dnA, Try.f127, rows_length, h1, h2, h3, b1, b2, b3]
        repeat refine And.intro (by first | omega | (simp; done) | (simp; omega) | assumption) ?_
        omega
      | true =>
        simp (config := { maxSteps := 4000000 }) only [go_sem, simprocAttr, ↓dnA, Try.f127, rows_length, h1, h2, h3]
        refine CallTo.det (c_spec_l2Put n1 s k x (by omega)) fun _ => ?_
        simp (config := { maxSteps := 4000000 }) only [go_sem, simprocAttr, ↓dnA, Try.f127, rows_length, h1, h2, h3]

def StoreQ (nb : Option Bool) (bs : List Int) (p : Int) (r : AV) (b : List AV) : Prop := ∃ (xs : List Entry) (q : Int), r = .osl true 2 (rows encE xs) ∧ b = rd nb bs q ∧ p ≤ q ∧ q ≤ p + 200 ∧ xs.length ≤ 50

theorem c_spec_l20Store (nb : Option Bool) (bs : List Int) (p n : Int) (h : RdOk bs p) (hp : p ≤ 999990000) (hn : 0 ≤ n ∧ n ≤ 1000000) : FSpec Try.prog 57 [.loc 0 0, .int .i64 n] true (rd nb bs p) (StoreQ nb bs p) := by
  refine fspec_rel tab_ok Try.call57 Try.func57 rfl 57 Try.ntmps57 (of_decide_eq_true rfl) fun B => codeK_sound tab_ok _ _ _ ?_
  unfold rd
  simp (config := { maxSteps := 4000000 }) only [go_sem, simprocAttr, ↓dnA, Try.f57, rows_length, wr0, wr1, wr2, wr3, tn0, tn1, tn2, tn3]
  refine CallTo.of (c_spec_pick nb bs p 7 h) ?_
  rintro r b ⟨x, rfl, rfl, hx⟩
  unfold rd
  simp (config := { maxSteps := 4000000 }) only [go_sem, simprocAttr, ↓dnA, Try.f57, rows_length, wr0, wr1, wr2, wr3, tn0, tn1, tn2, tn3]
  obtain ⟨c0, rfl⟩ : ∃ c0 : Nat, x = (c0 : Int) := ⟨x.toNat, by omega⟩
  refine semL_for tab_ok (fun s : List Entry × Nat × Int => ⟨57, [(0, .loc 900 0), (1, .int .i64 n), (5, .row 600 s.1.length), (6, .int .i64 s.2.1)], [(900, .var (rd nb bs s.2.2)), (600, .row true true 2 (rows encE s.1))]⟩) (fun s => s.2.1)
    (fun s => s.1.length ≤ 40 ∧ p ≤ s.2.2 ∧ s.2.2 + 6 * s.2.1 ≤ p + 91) ([], c0, p + 1) [(900, 900), (7, 600)] (Weak.of (by rfl) ?_ ?_ (by rfl)) (by dsimp only; simp only [List.length_nil]; omega) ?_
  · simp (config := { maxSteps := 4000000 }) only [go_sem, simprocAttr, ↓dnA, Try.f57, rows_length, wr0, wr1, wr2, wr3, tn0, tn1, tn2, tn3, rd, frW, wk2, wk1, wkL, wkB, hpW, List.mem_cons, Prod.mk.injEq, exists_eq_left, exists_eq_right, exists_eq]
    try rfl
  · simp (config := { maxSteps := 4000000 }) only [go_sem, simprocAttr, ↓dnA, Try.f57, rows_length, wr0, wr1, wr2, wr3, tn0, tn1, tn2, tn3, rd, frW, wk2, wk1, wkL, wkB, hpW, List.mem_cons, Prod.mk.injEq, exists_eq_left, exists_eq_right, exists_eq]
    try rfl
  · rintro ⟨xs, c, q⟩ ⟨i1, i2, i3⟩
    dsimp only at i1 i2 i3 ⊢
    have hq := h.step (q := q) (by omega) (by omega)
    have htk : (rows encE xs).take xs.length = rows encE xs := by rw [List.take_of_length_le]; rw [rows_length]; omega
    by_cases hc : 0 < c
    · have hd : decide ((c : Int) > 0) = true := by simp; omega
      have hw : IntKind.i64.wrap ((c : Int) - 1) = ((c - 1 : Nat) : Int) := by rw [wrap_small _ (by omega) (by omega)]; omega
      simp (config := { maxSteps := 4000000 }) only [go_sem, simprocAttr, ↓dnA, Try.f57, rows_length, wr0, wr1, wr2, wr3, tn0, tn1, tn2, tn3, rd, hd, hw, htk]
      refine CallTo.of (c_spec_l20Key nb bs q hq (by omega)) ?_
      rintro r b ⟨k, q', rfl, rfl, hq1, hq2, hk⟩
      have hq' := h.step (q := q') (by omega) (by omega)
      simp (config := { maxSteps := 4000000 }) only [go_sem, simprocAttr, ↓dnA, Try.f57, rows_length, wr0, wr1, wr2, wr3, tn0, tn1, tn2, tn3, rd, hd, hw, htk]
      refine CallTo.of (c_spec_l20Value nb bs q' hq' (by omega)) ?_
      rintro r b ⟨v, q2, rfl, rfl, hq3, hq4, hv⟩
      simp (config := { maxSteps := 4000000 }) only [go_sem, simprocAttr, ↓dnA, Try.f57, rows_length, wr0, wr1, wr2, wr3, tn0, tn1, tn2, tn3, rd, hd, hw, htk]
      have hpl := putValue_len xs k v i1
      refine CallTo.det (c_spec_PutValue _ xs k v (by omega)) fun _ => ?_
      generalize putValue xs k v = ys at hpl
      obtain ⟨ys, ok⟩ := ys
      dsimp only at hpl ⊢
      simp (config := { maxSteps := 4000000 }) only [go_sem, simprocAttr, ↓dnA, Try.f57, rows_length, wr0, wr1, wr2, wr3, tn0, tn1, tn2, tn3, rd, hd, hw, htk]
      refine ⟨(ys, c - 1, q2), [(900, 900), (21000, 600)], ⟨by dsimp only; omega, by dsimp only; omega, by dsimp only; omega⟩, by dsimp only; omega, Weak.of (by rfl) ?_ ?_ (by rfl)⟩
      · simp (config := { maxSteps := 4000000 }) only [go_sem, simprocAttr, ↓dnA, Try.f57, rows_length, wr0, wr1, wr2, wr3, tn0, tn1, tn2, tn3, rd, frW, wk2, wk1, wkL, wkB, hpW, List.mem_cons, Prod.mk.injEq, exists_eq_left, exists_eq_right, exists_eq]
      · simp (config := { maxSteps := 4000000 }) only [go_sem, simprocAttr, ↓dnA, Try.f57, rows_length, wr0, wr1, wr2, wr3, tn0, tn1, tn2, tn3, rd, frW, wk2, wk1, wkL, wkB, hpW, List.mem_cons, Prod.mk.injEq, exists_eq_left, exists_eq_right, exists_eq]
    · obtain rfl : c = 0 := by omega
      have b1 := all_rows encE AV.flat (fun _ => rfl) xs
      have b2 := all_rows encE AV.one (fun _ => rfl) xs
      have b3 := sz0_rows encE 2 (fun _ => rfl) xs
      simp (config := { maxSteps := 4000000 }) only [go_sem, simprocAttr, ↓dnA, Try.f57, rows_length, wr0, wr1, wr2, wr3, tn0, tn1, tn2, tn3, rd, htk]
      refine CallTo.of (c_spec_odd nb bs q n hq hn) ?_
      rintro r b ⟨g, q1, rfl, rfl, hq1, hq2⟩
      have h5 := h.step (q := q1) (by omega) (by omega)
      unfold rd
      cases g with
      | false =>
        simp (config := { maxSteps := 4000000 }) only [go_sem, simprocAttr, ↓dnA, Try.f57, rows_length, wr0, wr1, wr2, wr3, tn0, tn1, tn2, tn3, htk]
        exact .same ⟨xs, q1, rfl, rfl, by omega, by omega, by omega⟩
      | true =>
        simp (config := { maxSteps := 4000000 }) only [go_sem, simprocAttr, ↓dnA, Try.f57, rows_length, wr0, wr1, wr2, wr3, tn0, tn1, tn2, tn3, htk]
        refine CallTo.of (c_spec_pick nb bs q1 4 h5) ?_
        rintro r b ⟨z, rfl, rfl, hz⟩
        have h6 := h.step (q := q1 + 1) (by omega) (by omega)
        unfold rd
        have hz2 : z = 0 ∨ z = 1 ∨ z = 2 ∨ z = 3 := by omega
        rcases hz2 with rfl | rfl | rfl | rfl
        · have hl : rows encE xs ++ [[AV.int IntKind.i64 32, AV.int IntKind.i64 1]] = rows encE (xs ++ [⟨32, 1⟩]) := by rw [← rows_snoc]; rfl
          have hl2 : (xs ++ [(⟨32, 1⟩ : Entry)]).length = xs.length + 1 := by simp
          simp (config := { maxSteps := 4000000 }) only [go_sem, simprocAttr, ↓dnA, Try.f57, rows_length, wr0, wr1, wr2, wr3, tn0, tn1, tn2, tn3, htk, hl, hl2]
          repeat refine And.intro (by first | omega | (simp; done) | (simp; omega) | assumption) ?_
          exact .same ⟨xs ++ [⟨32, 1⟩], q1 + 1, rfl, rfl, by omega, by omega, by rw [hl2]; omega⟩
        · simp (config := { maxSteps := 4000000 }) only [go_sem, simprocAttr, ↓dnA, Try.f57, rows_length, wr0, wr1, wr2, wr3, tn0, tn1, tn2, tn3, htk]
          exact .same ⟨[⟨31, 1⟩, ⟨0, 1⟩], q1 + 1, rfl, rfl, by omega, by omega, by simp⟩
        · simp (config := { maxSteps := 4000000 }) only [go_sem, simprocAttr, ↓dnA, Try.f57, rows_length, wr0, wr1, wr2, wr3, tn0, tn1, tn2, tn3, htk]
          refine CallTo.of (c_spec_pick nb bs (q1 + 1) 3 h6) ?_
          rintro r b ⟨m, rfl, rfl, hm⟩
          unfold rd
          have hm4 : m = 0 ∨ m = 1 ∨ m = 2 := by omega
          rcases hm4 with rfl | rfl | rfl
          · simp (config := { maxSteps := 4000000 }) only [go_sem, simprocAttr, ↓dnA, Try.f57, rows_length, wr0, wr1, wr2, wr3, tn0, tn1, tn2, tn3, htk]
            exact .same ⟨[⟨1, 0⟩], q1 + 1 + 1, rfl, rfl, by omega, by omega, by simp⟩
          · simp (config := { maxSteps := 4000000 }) only [go_sem, simprocAttr, ↓dnA, Try.f57, rows_length, wr0, wr1, wr2, wr3, tn0, tn1, tn2, tn3, htk]
            exact .same ⟨[⟨1, -1⟩], q1 + 1 + 1, rfl, rfl, by omega, by omega, by simp⟩
          · simp (config := { maxSteps := 4000000 }) only [go_sem, simprocAttr, ↓dnA, Try.f57, rows_length, wr0, wr1, wr2, wr3, tn0, tn1, tn2, tn3, htk]
            exact .same ⟨[⟨1, 1000001⟩], q1 + 1 + 1, rfl, rfl, by omega, by omega, by simp⟩
        · simp (config := { maxSteps := 4000000 }) only [go_sem, simprocAttr, ↓dnA, Try.f57, rows_length, wr0, wr1, wr2, wr3, tn0, tn1, tn2, tn3, htk]
          repeat refine And.intro (by first | omega | (simp; done) | (simp; omega) | assumption) ?_
          exact .same ⟨⟨-1, 5⟩ :: xs, q1 + 1, rfl, rfl, by omega, by omega, by simp; omega⟩

def DrawRunQ (r : AV) (b : List AV) : Prop := ∃ (s : List Entry) (l : List Action), r = .tup [.osl true 2 (rows encE s), .osl true 4 (rows encA l)] ∧ s.length ≤ 50 ∧ l.length ≤ 20

theorem c_spec_DrawRunSerial (nb : Option Bool) (bs : List Int) (h : CodeOk bs) : FSpec Try.prog 10 [.sl nb (rows encB bs)] false [] DrawRunQ := by
  refine fspec_rel tab_ok Try.call10 Try.func10 rfl 13 Try.ntmps10 (of_decide_eq_true rfl) fun B => codeK_sound tab_ok _ _ _ ?_
  simp (config := { maxSteps := 4000000 }) only [go_sem, simprocAttr, ↓dnA, Try.f10, rows_length]
  refine CallTo.of (c_spec_l20Open nb bs h) ?_
  rintro r b rfl
  unfold rd
  simp (config := { maxSteps := 4000000 }) only [go_sem, simprocAttr, ↓dnA, Try.f10, rows_length]
  have h0 := code_take h
  refine CallTo.of (c_spec_l20Store nb _ 0 12 h0 (by omega) (by omega)) ?_
  rintro r b ⟨s, q, rfl, rfl, hq1, hq2, hs⟩
  have h1 := h0.step (q := q) (by omega) (by omega)
  unfold rd
  simp (config := { maxSteps := 4000000 }) only [go_sem, simprocAttr, ↓dnA, Try.f10, rows_length]
  refine CallTo.of (c_spec_l20Actions nb _ q 12 h1 (by omega) (by omega)) ?_
  rintro r b ⟨l, q', rfl, rfl, hq3, hq4, hl⟩
  unfold rd
  simp (config := { maxSteps := 4000000 }) only [go_sem, simprocAttr, ↓dnA, Try.f10, rows_length]
  exact .same ⟨s, l, rfl, hs, hl⟩

end Go.Proofs.Ytmibclbinebnjaa

/- Contracts: FnBlockChain. -/
set_option linter.unusedSimpArgs false
set_option linter.unusedVariables false
set_option maxRecDepth 20000
set_option maxHeartbeats 4000000
namespace Go.Proofs.Ytmibclbinebnjaa
open Go Go.RowKit

/-- The state may be seen as another one at the beginning of a piece of code. -/
theorem c_laws_sameStore (n1 n2 : Option Bool) (xs : List Entry) (hx : xs.length < 2 ^ 62) : Det Try.prog 13 [.sl n1 (rows encE xs), .sl n2 (rows encE xs)] (.bool true) := by
  refine fspec_det tab_ok Try.call13 Try.func13 rfl 26 Try.ntmps13 (of_decide_eq_true rfl) fun B => codeK_sound tab_ok _ _ _ ?_
  have hne : ((xs.length : Int) != (xs.length : Int)) = false := by simp
  simp (config := { maxSteps := 4000000 }) only [go_sem, simprocAttr, ↓dnA, Try.f13, rows_length, hne]
  refine semL_for tab_ok (fun i : Nat => ⟨26, [(0, .sl n1 (rows encE xs)), (1, .sl n2 (rows encE xs)), (5, .int .i64 i)], []⟩) (fun i => xs.length - i)
    (fun i => i ≤ xs.length) 0 [] (Weak.of (by rfl) ?_ ?_ (by rfl)) (by omega) ?_
  · trivial
  · simp (config := { maxSteps := 4000000 }) only [go_sem, simprocAttr, ↓dnA, Try.f13, rows_length, frW, wk2, wk1, wkL, wkB, hpW, List.mem_cons, Prod.mk.injEq, exists_eq_left, exists_eq_right, exists_eq]
    try rfl
  · rintro i hi
    by_cases h : i < xs.length
    · have hw : IntKind.i64.wrap ((i : Int) + 1) = ((i + 1 : Nat) : Int) := wsucc h (by omega)
      simp (config := { maxSteps := 4000000 }) only [go_sem, simprocAttr, ↓dnA, Try.f13, rows_length, nlt h, h, rows_get _ _ _ h, encE, nn0, hw]
      refine semL_draw tab_ok mixed_ rfl (ord := [(0, []), (1, []), (2, []), (3, []), (4, []), (5, []), (6, []), (7, []), (8, [])]) (by dsimp only; decide +kernel) ?_
      simp (config := { maxSteps := 4000000 }) only [go_sem, simprocAttr, ↓dnA, Try.f13, rows_length, nlt h, h, rows_get _ _ _ h, encE, nn0, hw]
      simp only [eqCellsK, BEq.rfl, Bool.and_true, Bool.not_true, Bool.false_eq_true, false_implies, true_implies, true_and, forall_const]
      refine ⟨i + 1, [], by omega, by dsimp only; omega, Weak.of (by rfl) ?_ ?_ (by rfl)⟩
      · trivial
      · simp (config := { maxSteps := 4000000 }) only [go_sem, simprocAttr, ↓dnA, Try.f13, rows_length, frW, wk2, wk1, wkL, wkB, hpW, List.mem_cons, Prod.mk.injEq, exists_eq_left, exists_eq_right, exists_eq]
    · have hi' : i = xs.length := by omega
      subst hi'
      simp (config := { maxSteps := 4000000 }) only [go_sem, simprocAttr, ↓dnA, Try.f13, rows_length, nlf h]

theorem c_laws_FnBlockChain (nb : Option Bool) (bs : List Int) (h : ∀ b, b ∈ bs → 0 ≤ b ∧ b ≤ 255) : Det Try.prog 3 [.sl nb (rows encB bs)] (.bool true) := by
  refine fspec_det tab_ok Try.call3 Try.func3 rfl 76 Try.ntmps3 (of_decide_eq_true rfl) fun B => codeK_sound tab_ok _ _ _ ?_
  simp (config := { maxSteps := 4000000 }) only [go_sem, simprocAttr, ↓dnA, Try.f3, rows_length]
  intro hl
  have hc : CodeOk bs := ⟨h, by simp at hl; omega⟩
  refine CallTo.of (c_spec_DrawRunSerial nb bs hc) ?_
  rintro r b ⟨s, l, rfl, hs, hll⟩
  have hI := c_impl_RunSerial (some true) (some true) s l (by omega) (by omega)
  have hS := c_spec_RunSerial (some true) (some true) s l (by omega) (by omega)
  have hrl : (runSerial s l).1.length ≤ 32 := by
    by_cases hv : (storeValid s && actionsValid l) = true
    · rw [Bool.and_eq_true] at hv
      exact store_len (runSerial_ok hv.1 hv.2).1
    · unfold runSerial
      rw [if_neg hv]; simp
  generalize hp : runSerial s l = p at hI hS hrl
  obtain ⟨s', es⟩ := p
  dsimp only at hI hS hrl
  simp (config := { maxSteps := 4000000 }) only [go_sem, simprocAttr, ↓dnA, Try.f3, rows_length]
  refine CallTo.det hI fun _ => ?_
  simp (config := { maxSteps := 4000000 }) only [go_sem, simprocAttr, ↓dnA, Try.f3, rows_length]
  refine CallTo.det hS fun _ => ?_
  simp (config := { maxSteps := 4000000 }) only [go_sem, simprocAttr, ↓dnA, Try.f3, rows_length]
  refine CallTo.det (c_laws_sameStore _ _ s' (by omega)) fun _ => ?_
  simp (config := { maxSteps := 4000000 }) only [go_sem, simprocAttr, ↓dnA, Try.f3, rows_length]
  refine CallTo.det (c_spec_StoreValid _ s (by omega)) fun _ => ?_
  simp (config := { maxSteps := 4000000 }) only [go_sem, simprocAttr, ↓dnA, Try.f3, rows_length]
  refine ⟨fun g1 => ?_, fun g1 => ?_⟩
  · have h1 : storeValid s = true := by simpa using g1
    refine CallTo.det (c_spec_ActionsValid _ l (by omega)) fun _ => ?_
    simp (config := { maxSteps := 4000000 }) only [go_sem, simprocAttr, ↓dnA, Try.f3, rows_length, h1]
    refine ⟨fun g2 => ?_, fun g2 => ?_⟩
    · have h2 : actionsValid l = false := by simpa using g2
      refine CallTo.det c_laws_alive fun _ => ?_
      simp (config := { maxSteps := 4000000 }) only [go_sem, simprocAttr, ↓dnA, Try.f3, rows_length, h1, h2]
    · have h2 : actionsValid l = true := by simpa using g2
      refine CallTo.det (c_impl_TreeOf (some true) s (by omega)) fun _ => ?_
      simp (config := { maxSteps := 4000000 }) only [go_sem, simprocAttr, ↓dnA, Try.f3, rows_length, encTF]
      have h0 := chain_treeOf l h1
      refine semL_ghost ((Ghost.weak (t := ⟨76, [(4, .row 19100 l.length), (5, .row 25000 s'.length), (9, .loc 9 0), (10, .int .i64 0)],
          [(9, .var [.row 48000 (treeOf s).base.length, .row 48001 (treeOf s).blocks.length, .row 48002 (treeOf s).before.length]), (48000, .row true false 2 (rows encE (treeOf s).base)), (48001, .row true false 6 (rows encB1 (treeOf s).blocks)), (48002, .row true false 1 (rows encI (treeOf s).before)),
            (25000, .row true false 2 (rows encE s')), (19100, .fro 4 (rows encA l))]⟩) (ρ := [(9, 9), (48000, 48000), (48001, 48001), (48002, 48002), (25000, 25000), (19100, 19100)]) (Weak.of (by rfl) ?_ ?_ (by rfl))).trans (Ghost.pure 4 19100 l.length 4 rfl rfl ?_)) ?_
      · simp (config := { maxSteps := 4000000 }) only [go_sem, simprocAttr, ↓dnA, Try.f3, rows_length, frW, wk2, wk1, wkL, wkB, hpW, List.mem_cons, Prod.mk.injEq, exists_eq_left, exists_eq_right, exists_eq]
      · simp (config := { maxSteps := 4000000 }) only [go_sem, simprocAttr, ↓dnA, Try.f3, rows_length, frW, wk2, wk1, wkL, wkB, hpW, List.mem_cons, Prod.mk.injEq, exists_eq_left, exists_eq_right, exists_eq]
      · rw [rows_length]
      refine semL_for tab_ok (fun p : Nat × Tree => ⟨76, [(4, .sl none (rows encA l)), (5, .row 25000 s'.length), (9, .loc 9 0), (10, .int .i64 p.1)],
          [(9, .var [.row 600 p.2.base.length, .row 601 p.2.blocks.length, .row 602 p.2.before.length]), (600, .row true false 2 (rows encE p.2.base)), (601, .row true false 6 (rows encB1 p.2.blocks)), (602, .row true false 1 (rows encI p.2.before)),
            (25000, .row true false 2 (rows encE s'))]⟩) (fun p => l.length - p.1)
        (fun p => p.1 ≤ l.length ∧ Chain s l p.2 p.1) (0, treeOf s) [(9, 9), (48000, 600), (48001, 601), (48002, 602), (25000, 25000)] (Weak.of (by rfl) ?_ ?_ (by rfl)) ⟨by dsimp only; omega, h0⟩ ?_
      · simp (config := { maxSteps := 4000000 }) only [go_sem, simprocAttr, ↓dnA, Try.f3, rows_length, frW, wk2, wk1, wkL, wkB, hpW, List.mem_cons, Prod.mk.injEq, exists_eq_left, exists_eq_right, exists_eq]
      · simp (config := { maxSteps := 4000000 }) only [go_sem, simprocAttr, ↓dnA, Try.f3, rows_length, frW, wk2, wk1, wkL, wkB, hpW, List.mem_cons, Prod.mk.injEq, exists_eq_left, exists_eq_right, exists_eq]
      · rintro ⟨i, t⟩ ⟨hi, hc⟩
        dsimp only at hi hc
        have h32 := treeOk_s32 hc.ok
        by_cases hlt : i < l.length
        · have hw : IntKind.i64.wrap ((i : Int) + 1) = ((i + 1 : Nat) : Int) := wsucc hlt (by omega)
          simp (config := { maxSteps := 4000000 }) only [go_sem, simprocAttr, ↓dnA, Try.f3, rows_length, nlt hlt, hlt, hw, nn0]
          refine semL_draw tab_ok mixed_ rfl (ord := [(0, []), (1, []), (2, []), (3, []), (4, []), (5, []), (6, []), (7, []), (8, []), (9, []), (10, []), (11, []), (12, []), (13, [0, 1, 2, 3, 4, 5, 6, 7, 8, 10, 11, 12]), (14, [12]), (15, [])]) (by dsimp only; decide +kernel) ?_
          have hcut : List.drop i (List.take (i + 1) (rows encA l)) = rows encA ((l.drop i).take 1) := by
            unfold rows
            rw [← List.map_take, ← List.map_drop, List.drop_take, show i + 1 - i = 1 by omega]
          have hl0 : ((rows encA l).getD 0 []).length = 4 := by
            rcases sz0_rows encA 4 (fun _ => rfl) l with e | e
            · omega
            · exact e
          have hG := c_impl_GrowTree none none none none t (i : Int) ((i + 1 : Nat) : Int) ((l.drop i).take 1) h32 (by rw [List.length_take]; omega)
          have hg := fun h => chain_grow hc (v := ((i + 1 : Nat) : Int)) h
          generalize growTree t (i : Int) ((i + 1 : Nat) : Int) ((l.drop i).take 1) = q at hG hg
          obtain ⟨t', ok⟩ := q
          dsimp only at hG hg
          simp (config := { maxSteps := 4000000 }) only [go_sem, simprocAttr, ↓dnA, Try.f3, rows_length, nlt hlt, hlt, hw, nn0, hcut]
          refine ⟨by omega, fun _ _ => hl0, ?_⟩
          refine CallTo.det hG fun _ => ?_
          simp (config := { maxSteps := 4000000 }) only [go_sem, simprocAttr, ↓dnA, Try.f3, rows_length, nlt hlt, hlt, hw, nn0, hcut, encTF, hl0]
          refine ⟨by omega, fun g => ?_⟩
          have hok : ok = true := by simpa using g
          refine ⟨(i + 1, t'), [(9, 9), (65000, 600), (65001, 601), (65002, 602), (25000, 25000)], ⟨by dsimp only; omega, hg hok⟩, by dsimp only; omega, Weak.of (by rfl) ?_ ?_ (by rfl)⟩
          · simp (config := { maxSteps := 4000000 }) only [go_sem, simprocAttr, ↓dnA, Try.f3, rows_length, frW, wk2, wk1, wkL, wkB, hpW, List.mem_cons, Prod.mk.injEq, exists_eq_left, exists_eq_right, exists_eq]
          · simp (config := { maxSteps := 4000000 }) only [go_sem, simprocAttr, ↓dnA, Try.f3, rows_length, frW, wk2, wk1, wkL, wkB, hpW, List.mem_cons, Prod.mk.injEq, exists_eq_left, exists_eq_right, exists_eq]
        · have hi' : i = l.length := by omega
          subst hi'
          have hst := chain_store hc h1 h2
          rw [hp] at hst
          have hSO := c_impl_StoreOf none none none t (l.length : Int) h32.sz
          rw [hst] at hSO
          simp (config := { maxSteps := 4000000 }) only [go_sem, simprocAttr, ↓dnA, Try.f3, rows_length, nlf hlt]
          refine CallTo.det hSO fun _ => ?_
          simp (config := { maxSteps := 4000000 }) only [go_sem, simprocAttr, ↓dnA, Try.f3, rows_length, nlf hlt]
          refine CallTo.det (c_laws_sameStore _ _ s' (by omega)) fun _ => ?_
          simp (config := { maxSteps := 4000000 }) only [go_sem, simprocAttr, ↓dnA, Try.f3, rows_length, nlf hlt]
  · have h1 : storeValid s = false := by simpa using g1
    refine CallTo.det c_laws_alive fun _ => ?_
    simp (config := { maxSteps := 4000000 }) only [go_sem, simprocAttr, ↓dnA, Try.f3, rows_length, h1]

end Go.Proofs.Ytmibclbinebnjaa

/- The closed facts of the row of FnBlockChain. -/
namespace Go.Proofs.Ytmibclbinebnjaa
open Go Go.ChangeShapes Go.WideShapes Go.ChangeAt Go.RowKit

theorem fnBlockChain_named : Try.pinned.checked.prog.funcNamed Rows.fnBlockChainRow.func = some 3 := by kernel_rfl
theorem fnBlockChain_inst : Try.f3.isInstance Try.pinned.checked.prog Rows.fnBlockChainRow.origin Rows.fnBlockChainRow.targs := of_decide_eq_true (by kernel_rfl)
theorem fnBlockChain_wrap : Try.f3.isWrapper Try.pinned.checked.prog Rows.fnBlockChainRow.wrapper Rows.fnBlockChainRow.mainSum := by
  unfold Func.isWrapper; first | (rw [if_pos (by decide +kernel)]; kernel_rfl) | (rw [if_neg (by decide +kernel)]; exact ⟨rfl, rfl⟩)
set_option maxRecDepth 100000 in
theorem fnBlockChain_closed : joinedFacts Try.pinned.checked.prog 3 Try.f3 Rows.fnBlockChainSpec Rows.fnBlockChainRow = true := by kernel_rfl

end Go.Proofs.Ytmibclbinebnjaa

/- Arguments of the laws, by their types. -/
set_option linter.unusedSimpArgs false
namespace Go.Proofs.Ytmibclbinebnjaa
open Go Go.ChangeShapes Go.WideShapes Go.ChangeAt Go.RowKit

theorem own_ : ownKnob Try.prog.godebug = none := by kernel_rfl
theorem laidOut_ : laidOutB Try.prog = true := by kernel_rfl

theorem ty_int {cs : List AV} (h : Ty tab 3 cs) : ∃ n, cs = [.int .i64 n] ∧ IntKind.i64.has n := h.int_inv tabAt_3 rfl
theorem ty_bool {cs : List AV} (h : Ty tab 4 cs) : ∃ b, cs = [.bool b] := h.bool_inv tabAt_4 rfl
theorem ty_intA {a : AV} (h : TyArg tab 3 a) : ∃ n, a = .int .i64 n := by
  obtain ⟨n, e, _⟩ := ty_int (h.one_inv tabAt_3 rfl)
  exact ⟨n, by simpa using e⟩

/-- The cells of one value read as the cells of a datum. -/
def Leqs (r c : List AV) : Prop := r.length = c.length ∧ ∀ (j : Nat) (_ : j < c.length), Leq (r.getD j .top) (c.getD j .top)
theorem Leqs.refl (c : List AV) : Leqs c c := ⟨rfl, fun _ _ => Leq.refl _⟩
theorem Leqs.of_eq {r c : List AV} (h : r = c) : Leqs r c := h ▸ Leqs.refl _
theorem Leqs.agg {r c : List AV} (h : Leqs r c) : Leq (.agg r) (.agg c) := Leq.agg h.1 h.2

/-- A slice of elements that read as data. -/
theorem ty_rows {α : Type} (e : α → List AV) (Q : α → Prop) {et : TypeId} {es : List (List AV)} (h : ∀ (j : Nat) (_ : j < es.length), Ty tab et (es.getD j [])) (hx : ∀ r, Ty tab et r → ∃ x, Q x ∧ Leqs r (e x)) :
    ∃ xs : List α, es.length = xs.length ∧ (∀ x, x ∈ xs → Q x) ∧ ∀ nn, Leq (.sl nn es) (.sl nn (rows e xs)) := by
  have key : ∃ xs : List α, es.length = xs.length ∧ (∀ x, x ∈ xs → Q x) ∧ ∀ (i : Nat) (hi : i < xs.length), Leqs (es.getD i []) (e (xs[i]'hi)) := by
    induction es with
    | nil => exact ⟨[], rfl, fun x hx => (by cases hx), fun i hi => absurd hi (by simp)⟩
    | cons r rs ih =>
      obtain ⟨x, hq, hx1⟩ := hx r (h 0 (by simp))
      obtain ⟨xs, h1, h2, h3⟩ := ih (fun j hj => h (j + 1) (by simpa using hj))
      refine ⟨x :: xs, by simp [h1], fun y hy => ?_, fun i hi => ?_⟩
      · rcases List.mem_cons.1 hy with rfl | hy
        · exact hq
        · exact h2 y hy
      · cases i with
        | zero => exact hx1
        | succ i => exact h3 i (by simpa using hi)
  obtain ⟨xs, h1, h2, h3⟩ := key
  refine ⟨xs, h1, h2, fun nn => Leq.sl (by rw [rows_length, h1]) (fun i hi => ?_) (fun i j hi hj => ?_)⟩
  · rw [rows_length] at hi
    rw [rows_get _ _ _ hi]
    exact (h3 i hi).1
  · rw [rows_length] at hi
    rw [rows_get _ _ _ hi] at hj ⊢
    exact (h3 i hi).2 j hj

/-- A slice, as one cell. -/
theorem ty_slice {α : Type} (e : α → List AV) (Q : α → Prop) {t et : TypeId} {ti : TI} {cs : List AV} (h : Ty tab t cs) (ht : tab t = some ti) (hk : ti.k = .slice et) (hx : ∀ r, Ty tab et r → ∃ x, Q x ∧ Leqs r (e x)) :
    ∃ (n : Option Bool) (xs : List α), xs.length ≤ 9223372036854775807 ∧ (∀ x, x ∈ xs → Q x) ∧ Leqs cs [.sl n (rows e xs)] ∧ Leqs cs [.sl none (rows e xs)] := by
  obtain ⟨nn, es, rfl, _, hl, he⟩ := h.slice_inv ht hk
  obtain ⟨xs, h1, h2, h3⟩ := ty_rows e Q he hx
  refine ⟨some nn, xs, by omega, h2, ⟨rfl, fun j hj => ?_⟩, ⟨rfl, fun j hj => ?_⟩⟩
  · have : j = 0 := by simpa using hj
    subst this; exact h3 _
  · have : j = 0 := by simpa using hj
    subst this; exact (h3 (some nn)).trans Leq.slN

theorem ty_bools {a : AV} (h : TyArg tab 45 a) : ∃ (n : Option Bool) (bs : List Bool), Leq a (.sl n (boolRows bs)) ∧ bs.length ≤ 9223372036854775807 := by
  obtain ⟨n, xs, h1, _, h2, _⟩ := ty_slice (fun b : Bool => [AV.bool b]) (fun _ => True) (h.one_inv tabAt_45 rfl) tabAt_45 rfl fun r hr => by
    obtain ⟨b, rfl⟩ := ty_bool hr
    exact ⟨b, trivial, Leqs.refl _⟩
  exact ⟨n, xs, h2.2 0 (by simp), h1⟩

theorem ty_entry {cs : List AV} (h : Ty tab 168 cs) : ∃ e : Entry, cs = encE e := by
  obtain ⟨ps, rfl, hl, hp⟩ := h.struct_inv tabAt_168 rfl
  match ps, hl with
  | [p, q], _ =>
    obtain ⟨x, hx, _⟩ := ty_int (hp 0 (by decide))
    obtain ⟨y, hy, _⟩ := ty_int (hp 1 (by decide))
    have hx : p = _ := hx
    have hy : q = _ := hy
    subst hx; subst hy
    exact ⟨⟨x, y⟩, rfl⟩

theorem ty_action {cs : List AV} (h : Ty tab 170 cs) : ∃ e : Action, cs = encA e := by
  obtain ⟨ps, rfl, hl, hp⟩ := h.struct_inv tabAt_170 rfl
  match ps, hl with
  | [p, q, r, s], _ =>
    obtain ⟨x, hx, _⟩ := ty_int (hp 0 (by decide))
    obtain ⟨y, hy, _⟩ := ty_int (hp 1 (by decide))
    obtain ⟨z, hz, _⟩ := ty_int (hp 2 (by decide))
    obtain ⟨w, hw, _⟩ := ty_int (hp 3 (by decide))
    have hx : p = _ := hx
    have hy : q = _ := hy
    have hz : r = _ := hz
    have hw : s = _ := hw
    subst hx; subst hy; subst hz; subst hw
    exact ⟨⟨x, y, z, w⟩, rfl⟩

theorem Leqs.cons {a b : AV} {r c : List AV} (h : Leq a b) (h' : Leqs r c) : Leqs (a :: r) (b :: c) := by
  refine ⟨by simp [h'.1], fun j hj => ?_⟩
  cases j with
  | zero => exact h
  | succ j => exact h'.2 j (by simpa using hj)

theorem Leqs.one {r : List AV} {b : AV} (h : Leqs r [b]) : ∃ a, r = [a] ∧ Leq a b := by
  obtain ⟨h1, h2⟩ := h
  match r, h1 with
  | [a], _ => exact ⟨a, rfl, h2 0 (by simp)⟩

theorem ty_block {cs : List AV} (h : Ty tab 74 cs) : ∃ b : Block, b.list.length ≤ 9223372036854775807 ∧ Leqs cs (encB1 b) := by
  obtain ⟨ps, rfl, hl, hp⟩ := h.struct_inv tabAt_74 rfl
  match ps, hl with
  | [p1, p2, p3, p4, p5, p6], _ =>
    obtain ⟨x1, h1, _⟩ := ty_int (hp 0 (by decide))
    obtain ⟨x2, h2, _⟩ := ty_int (hp 1 (by decide))
    obtain ⟨x3, h3, _⟩ := ty_int (hp 2 (by decide))
    obtain ⟨_, x4, hl4, _, _, h4⟩ := ty_slice encA (fun _ => True) (hp 3 (by decide)) tabAt_72 rfl fun r hr => by
      obtain ⟨a, rfl⟩ := ty_action hr
      exact ⟨a, trivial, Leqs.refl _⟩
    obtain ⟨x5, h5, _⟩ := ty_int (hp 4 (by decide))
    obtain ⟨x6, h6, _⟩ := ty_int (hp 5 (by decide))
    have h1 : p1 = _ := h1
    have h2 : p2 = _ := h2
    have h3 : p3 = _ := h3
    have h5 : p5 = _ := h5
    have h6 : p6 = _ := h6
    obtain ⟨a4, e4, l4⟩ := h4.one
    have e4 : p4 = _ := e4
    subst h1; subst h2; subst h3; subst h5; subst h6; subst e4
    exact ⟨⟨x1, x2, x3, x4, x5, x6⟩, hl4, .cons (.refl _) (.cons (.refl _) (.cons (.refl _) (.cons l4 (.cons (.refl _) (.cons (.refl _) (.refl [])))))) ⟩

theorem ty_treeC {cs : List AV} (h : Ty tab 71 cs) : ∃ (n1 n2 n3 : Option Bool) (t : Tree), Leqs cs (encT n1 n2 n3 t) ∧ TreeLen t := by
  obtain ⟨ps, rfl, hl, hp⟩ := h.struct_inv tabAt_71 rfl
  match ps, hl with
  | [p1, p2, p3], _ =>
    obtain ⟨n1, x1, l1, _, h1, _⟩ := ty_slice encE (fun _ => True) (hp 0 (by decide)) tabAt_68 rfl fun r hr => by
      obtain ⟨a, rfl⟩ := ty_entry hr
      exact ⟨a, trivial, Leqs.refl _⟩
    obtain ⟨n2, x2, l2, q2, h2, _⟩ := ty_slice encB1 (fun b => b.list.length ≤ 9223372036854775807) (hp 1 (by decide)) tabAt_69 rfl fun r hr => ty_block hr
    obtain ⟨n3, x3, l3, _, h3, _⟩ := ty_slice encI (fun _ => True) (hp 2 (by decide)) tabAt_35 rfl fun r hr => by
      obtain ⟨a, rfl, _⟩ := ty_int hr
      exact ⟨a, trivial, Leqs.refl _⟩
    obtain ⟨a1, e1, g1⟩ := h1.one
    obtain ⟨a2, e2, g2⟩ := h2.one
    obtain ⟨a3, e3, g3⟩ := h3.one
    have e1 : p1 = _ := e1
    have e2 : p2 = _ := e2
    have e3 : p3 = _ := e3
    subst e1; subst e2; subst e3
    exact ⟨n1, n2, n3, ⟨x1, x2, x3⟩, .cons g1 (.cons g2 (.cons g3 (.refl []))), ⟨l1, l2, l3, q2⟩⟩

theorem ty_tree {a : AV} (h : TyArg tab 71 a) : ∃ (n1 n2 n3 : Option Bool) (t : Tree), Leq a (.agg (encT n1 n2 n3 t)) ∧ TreeLen t := by
  obtain ⟨cs, rfl, h2⟩ := h.agg_inv tabAt_71 rfl
  obtain ⟨n1, n2, n3, t, h3, h4⟩ := ty_treeC h2
  exact ⟨n1, n2, n3, t, h3.agg, h4⟩

end Go.Proofs.Ytmibclbinebnjaa

/- Arguments of the laws, by their types: slices of entries, of actions. -/
set_option linter.unusedSimpArgs false
namespace Go.Proofs.Ytmibclbinebnjaa
open Go Go.RowKit

theorem ty_entries {a : AV} (h : TyArg tab 68 a) : ∃ (n : Option Bool) (xs : List Entry), Leq a (.sl n (rows encE xs)) ∧ xs.length ≤ 9223372036854775807 := by
  obtain ⟨n, xs, h1, _, h2, _⟩ := ty_slice encE (fun _ => True) (h.one_inv tabAt_68 rfl) tabAt_68 rfl fun r hr => by
    obtain ⟨b, rfl⟩ := ty_entry hr
    exact ⟨b, trivial, Leqs.refl _⟩
  exact ⟨n, xs, h2.2 0 (by simp), h1⟩

theorem ty_actions {a : AV} (h : TyArg tab 72 a) : ∃ (n : Option Bool) (xs : List Action), Leq a (.sl n (rows encA xs)) ∧ xs.length ≤ 9223372036854775807 := by
  obtain ⟨n, xs, h1, _, h2, _⟩ := ty_slice encA (fun _ => True) (h.one_inv tabAt_72 rfl) tabAt_72 rfl fun r hr => by
    obtain ⟨b, rfl⟩ := ty_action hr
    exact ⟨b, trivial, Leqs.refl _⟩
  exact ⟨n, xs, h2.2 0 (by simp), h1⟩

end Go.Proofs.Ytmibclbinebnjaa

/- Arguments of the laws, by their types: blocks. -/
set_option linter.unusedSimpArgs false
namespace Go.Proofs.Ytmibclbinebnjaa
open Go Go.RowKit

theorem ty_blockA {a : AV} (h : TyArg tab 74 a) : ∃ b : Block, Leq a (.agg (encBk none b)) ∧ b.list.length ≤ 9223372036854775807 := by
  obtain ⟨cs, rfl, h2⟩ := h.agg_inv tabAt_74 rfl
  obtain ⟨b, h3, h4⟩ := ty_block h2
  exact ⟨b, h4.agg, h3⟩

end Go.Proofs.Ytmibclbinebnjaa

/- Arguments of the laws, by their types: codes. -/
set_option linter.unusedSimpArgs false
namespace Go.Proofs.Ytmibclbinebnjaa
open Go Go.RowKit

/-- A slice of elements that read as data. -/
theorem ty_rowsC {α : Type} (e : α → List AV) {et : TypeId} {es : List (List AV)} (h : ∀ (j : Nat) (_ : j < es.length), Ty tab et (es.getD j [])) (hx : ∀ r, Ty tab et r → ∃ x, r.length = (e x).length ∧ ∀ (j : Nat) (_ : j < (e x).length), Leq (r.getD j .top) ((e x).getD j .top)) :
    ∃ xs : List α, es.length = xs.length ∧ ∀ nn, Leq (.sl nn es) (.sl nn (rows e xs)) := by
  have key : ∃ xs : List α, es.length = xs.length ∧ ∀ (i : Nat) (hi : i < xs.length), (es.getD i []).length = (e (xs[i]'hi)).length ∧ ∀ (j : Nat) (_ : j < (e (xs[i]'hi)).length), Leq ((es.getD i []).getD j .top) ((e (xs[i]'hi)).getD j .top) := by
    induction es with
    | nil => exact ⟨[], rfl, fun i hi => absurd hi (by simp)⟩
    | cons r rs ih =>
      obtain ⟨x, hx1, hx2⟩ := hx r (h 0 (by simp))
      obtain ⟨xs, h1, h2⟩ := ih (fun j hj => h (j + 1) (by simpa using hj))
      refine ⟨x :: xs, by simp [h1], fun i hi => ?_⟩
      cases i with
      | zero => exact ⟨hx1, hx2⟩
      | succ i => exact h2 i (by simpa using hi)
  obtain ⟨xs, h1, h2⟩ := key
  refine ⟨xs, h1, fun nn => Leq.sl (by rw [rows_length, h1]) (fun i hi => ?_) (fun i j hi hj => ?_)⟩
  · rw [rows_length] at hi
    rw [rows_get _ _ _ hi]
    exact (h2 i hi).1
  · rw [rows_length] at hi
    rw [rows_get _ _ _ hi] at hj ⊢
    exact (h2 i hi).2 j hj

theorem ty_code {a : AV} (h : TyArg tab 22 a) : ∃ nb bs, Leq a (.sl nb (rows encB bs)) ∧ ∀ b, b ∈ bs → 0 ≤ b ∧ b ≤ 255 := by
  obtain ⟨nn, es, e1, _, _, he⟩ := (h.one_inv tabAt_22 rfl).slice_inv tabAt_22 rfl
  have hx : ∀ r, Ty tab 5 r → ∃ x : { n : Int // 0 ≤ n ∧ n ≤ 255 }, r.length = (encB x.1).length ∧ ∀ (j : Nat) (_ : j < (encB x.1).length), Leq (r.getD j .top) ((encB x.1).getD j .top) := by
    intro r hr
    obtain ⟨n, e, hn⟩ := hr.int_inv tabAt_5 rfl
    have hn' : 0 ≤ n ∧ n ≤ 255 := hn
    exact ⟨⟨n, hn'⟩, by rw [e]; rfl, fun j _ => by rw [e]; exact Leq.refl _⟩
  obtain ⟨xs, h1, h2⟩ := ty_rowsC (fun x : { n : Int // 0 ≤ n ∧ n ≤ 255 } => encB x.1) he hx
  have ea : a = .sl (some nn) es := by simpa using e1
  refine ⟨some nn, xs.map (·.1), ?_, fun b hb => ?_⟩
  · rw [ea]
    have := h2 (some nn)
    have e3 : rows (fun x : { n : Int // 0 ≤ n ∧ n ≤ 255 } => encB x.1) xs = rows encB (xs.map (·.1)) := by simp [rows]
    rwa [e3] at this
  · obtain ⟨x, _, rfl⟩ := List.mem_map.1 hb
    exact x.2

/-- A law of a code. -/
theorem law_code {k : FuncId} (h : ∀ nb bs, (∀ b, b ∈ bs → 0 ≤ b ∧ b ≤ 255) → Det Try.prog k [.sl nb (rows encB bs)] (.bool true)) {cs : List AV} (hc : TyArgs tab [22] cs) : Det Try.prog k cs (.bool true) := by
  match cs, hc with
  | [a], hc =>
    obtain ⟨nb, bs, h1, h2⟩ := ty_code hc.1
    refine FSpec.args (h nb bs h2) rfl fun i hi => ?_
    have : i = 0 := by simp at hi; exact hi
    subst this
    exact h1

end Go.Proofs.Ytmibclbinebnjaa

