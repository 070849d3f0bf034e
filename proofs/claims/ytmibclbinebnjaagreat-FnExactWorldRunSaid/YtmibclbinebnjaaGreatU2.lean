/- Shared texts U (part 2): W50, W51, W52, W53, W58, W97, W54, W55, W56, W59, W71, Ty1, Ty3, Ty4, C0 -/
import Derived.Lib.AppendZerosOnto
import Derived.Lib.SliceRun
import Derived.Lib.Walk
import Derived.Test.YtmibclbinebnjaaGreatRows
import Derived.ProofKit
import Derived.Test.YtmibclbinebnjaaGreatU1

set_option linter.unusedSimpArgs false
set_option linter.unusedVariables false

/- Contracts: the reference's stores with entries put. -/
set_option linter.unusedSimpArgs false
set_option linter.unusedVariables false
set_option maxRecDepth 20000
set_option maxHeartbeats 4000000
namespace Go.Proofs.YtmibclbinebnjaaGreat
open Go Go.RowKit

/-- One entry more, while k is put. -/
def putS (k x : Int) (p : List Entry × Bool) (e : Entry) : List Entry × Bool :=
  let q := if !p.2 && decide (e.key ≥ k) then (p.1 ++ [⟨k, x⟩], true) else p
  if (e.key != k) = true then (q.1 ++ [e], q.2) else q
def putF (k x : Int) (d : Bool) (s : List Entry) : List Entry × Bool := s.foldl (putS k x) ([], d)
def putD (k x : Int) (d : Bool) (s : List Entry) : List Entry := if (putF k x d s).2 then (putF k x d s).1 else (putF k x d s).1 ++ [⟨k, x⟩]

theorem putF_take (k x : Int) (d : Bool) (s : List Entry) (i : Nat) (h : i < s.length) : putF k x d (s.take (i + 1)) = putS k x (putF k x d (s.take i)) s[i] := by
  unfold putF
  rw [take_snoc _ _ h, List.foldl_append]
  rfl
theorem putF_len (k x : Int) (d : Bool) (s : List Entry) : ∀ i, i ≤ s.length → (putF k x d (s.take i)).1.length ≤ 2 * i
  | 0, _ => by simp [putF]
  | i + 1, hi => by
    have ih := putF_len k x d s i (by omega)
    rw [putF_take _ _ _ _ _ (by omega)]
    unfold putS
    dsimp only
    split <;> split <;> simp <;> omega

theorem c_spec_l4Put (n1 : Option Bool) (s : List Entry) (k x : Int) (hs : s.length < 2 ^ 32) : Det Tryz.prog 240 [.sl n1 (rows encE s), .int .i64 k, .int .i64 x] (.osl true 2 (rows encE (putD k x false s))) := by
  refine fspec_det tab_ok Tryz.call240 Tryz.func240 rfl 57 Tryz.ntmps240 (of_decide_eq_true rfl) fun B => codeK_sound tab_ok _ _ _ ?_
  simp (config := { maxSteps := 4000000 }) only [go_sem, simprocAttr, ↓dnA, Tryz.f240, rows_length]
  refine semL_for tab_ok (fun i : Nat => ⟨57, [(0, .sl n1 (rows encE s)), (1, .int .i64 k), (2, .int .i64 x), (7, .row 600 (putF k x false (s.take i)).1.length), (8, .bool (putF k x false (s.take i)).2), (9, .int .i64 i)],
      [(600, .row true true 2 (rows encE (putF k x false (s.take i)).1))]⟩) (fun i => s.length - i)
    (fun i => i ≤ s.length) 0 [(10, 600)] (Weak.of (by rfl) ?_ ?_ (by rfl)) (by omega) ?_
  · simp (config := { maxSteps := 4000000 }) only [go_sem, simprocAttr, ↓dnA, Tryz.f240, rows_length, frW, wk2, wk1, wkL, wkB, hpW, List.mem_cons, Prod.mk.injEq, exists_eq_left, exists_eq_right, exists_eq]
    rfl
  · simp (config := { maxSteps := 4000000 }) only [go_sem, simprocAttr, ↓dnA, Tryz.f240, rows_length, frW, wk2, wk1, wkL, wkB, hpW, List.mem_cons, Prod.mk.injEq, exists_eq_left, exists_eq_right, exists_eq]
    exact ⟨rfl, rfl⟩
  · rintro i hi
    have hl := putF_len k x false s i hi
    by_cases h : i < s.length
    · have hw : IntKind.i64.wrap ((i : Int) + 1) = ((i + 1 : Nat) : Int) := wsucc h (by omega)
      have hst := putF_take k x false s i h
      generalize hp : putF k x false (s.take i) = p at hl hst
      obtain ⟨acc, dn⟩ := p
      dsimp only at hl
      have htk : (rows encE acc).take acc.length = rows encE acc := by rw [List.take_of_length_le]; rw [rows_length]; omega
      have hlk : List.length (rows encE acc ++ [[AV.int IntKind.i64 k, AV.int IntKind.i64 x]]) = acc.length + 1 := by simp [rows_length]
      have htk2 : (rows encE acc ++ [[AV.int IntKind.i64 k, AV.int IntKind.i64 x]]).take (acc.length + 1) = rows encE acc ++ [[AV.int IntKind.i64 k, AV.int IntKind.i64 x]] := by rw [List.take_of_length_le]; rw [hlk]; omega
      cases dn <;> cases h1 : decide (s[i].key ≥ k) <;> cases h2 : (s[i].key != k)
      all_goals (simp only [putS, h1, h2, Bool.not_true, Bool.not_false, Bool.and_true, Bool.and_false, Bool.false_eq_true, if_true, if_false] at hst)
      all_goals (simp (config := { maxSteps := 4000000 }) only [go_sem, simprocAttr, ↓dnA, Tryz.f240, rows_length, nlt h, h, rows_get _ _ _ h, encE, nn0, hp, h1, h2, htk, hlk, htk2, hw])
      all_goals repeat refine And.intro (by first | omega | (simp; done) | (simp; omega) | assumption) ?_
      all_goals first
        | (refine ⟨i + 1, [(47, 600)], by omega, by dsimp only; omega, Weak.of (by rfl) ?_ ?_ (by rfl)⟩
           · simp (config := { maxSteps := 4000000 }) only [go_sem, simprocAttr, ↓dnA, Tryz.f240, rows_length, hst, List.length_append, frW, wk2, wk1, wkL, wkB, hpW, List.mem_cons, Prod.mk.injEq, exists_eq_left, exists_eq_right, exists_eq]
             simp [rows, encE]
           · simp (config := { maxSteps := 4000000 }) only [go_sem, simprocAttr, ↓dnA, Tryz.f240, rows_length, hst, List.length_append, frW, wk2, wk1, wkL, wkB, hpW, List.mem_cons, Prod.mk.injEq, exists_eq_left, exists_eq_right, exists_eq])
        | (refine ⟨i + 1, [(33, 600)], by omega, by dsimp only; omega, Weak.of (by rfl) ?_ ?_ (by rfl)⟩
           · simp (config := { maxSteps := 4000000 }) only [go_sem, simprocAttr, ↓dnA, Tryz.f240, rows_length, hst, List.length_append, frW, wk2, wk1, wkL, wkB, hpW, List.mem_cons, Prod.mk.injEq, exists_eq_left, exists_eq_right, exists_eq]
             simp [rows, encE]
           · simp (config := { maxSteps := 4000000 }) only [go_sem, simprocAttr, ↓dnA, Tryz.f240, rows_length, hst, List.length_append, frW, wk2, wk1, wkL, wkB, hpW, List.mem_cons, Prod.mk.injEq, exists_eq_left, exists_eq_right, exists_eq])
        | (refine ⟨i + 1, [(600, 600)], by omega, by dsimp only; omega, Weak.of (by rfl) ?_ ?_ (by rfl)⟩
           · simp (config := { maxSteps := 4000000 }) only [go_sem, simprocAttr, ↓dnA, Tryz.f240, rows_length, hst, List.length_append, frW, wk2, wk1, wkL, wkB, hpW, List.mem_cons, Prod.mk.injEq, exists_eq_left, exists_eq_right, exists_eq]
           · simp (config := { maxSteps := 4000000 }) only [go_sem, simprocAttr, ↓dnA, Tryz.f240, rows_length, hst, List.length_append, frW, wk2, wk1, wkL, wkB, hpW, List.mem_cons, Prod.mk.injEq, exists_eq_left, exists_eq_right, exists_eq])
    · have hi' : i = s.length := by omega
      subst hi'
      rw [List.take_length] at hl
      unfold putD
      generalize hp : putF k x false s = p at hl
      obtain ⟨acc, dn⟩ := p
      dsimp only at hl
      have htk : (rows encE acc).take acc.length = rows encE acc := by rw [List.take_of_length_le]; rw [rows_length]; omega
      cases dn with
      | true =>
        simp (config := { maxSteps := 4000000 }) only [go_sem, simprocAttr, ↓dnA, Tryz.f240, rows_length, nlf h, hp, List.take_length, htk]
        try rfl
      | false =>
        simp (config := { maxSteps := 4000000 }) only [go_sem, simprocAttr, ↓dnA, Tryz.f240, rows_length, nlf h, hp, List.take_length, htk]
        repeat refine And.intro (by first | omega | (simp; done) | (simp; omega) | assumption) ?_
        exact ⟨by simp [rows_length], by simp [rows, encE]⟩

theorem c_spec_l2Put (n1 : Option Bool) (s : List Entry) (k x : Int) (hs : s.length < 2 ^ 32) : Det Tryz.prog 227 [.sl n1 (rows encE s), .int .i64 k, .int .i64 x] (.osl true 2 (rows encE (putD k x (x == 0) s))) := by
  refine fspec_det tab_ok Tryz.call227 Tryz.func227 rfl 59 Tryz.ntmps227 (of_decide_eq_true rfl) fun B => codeK_sound tab_ok _ _ _ ?_
  simp (config := { maxSteps := 4000000 }) only [go_sem, simprocAttr, ↓dnA, Tryz.f227, rows_length]
  refine semL_for tab_ok (fun i : Nat => ⟨59, [(0, .sl n1 (rows encE s)), (1, .int .i64 k), (2, .int .i64 x), (7, .row 600 (putF k x (x == 0) (s.take i)).1.length), (8, .bool (putF k x (x == 0) (s.take i)).2), (9, .int .i64 i)],
      [(600, .row true true 2 (rows encE (putF k x (x == 0) (s.take i)).1))]⟩) (fun i => s.length - i)
    (fun i => i ≤ s.length) 0 [(10, 600)] (Weak.of (by rfl) ?_ ?_ (by rfl)) (by omega) ?_
  · simp (config := { maxSteps := 4000000 }) only [go_sem, simprocAttr, ↓dnA, Tryz.f227, rows_length, frW, wk2, wk1, wkL, wkB, hpW, List.mem_cons, Prod.mk.injEq, exists_eq_left, exists_eq_right, exists_eq]
    rfl
  · simp (config := { maxSteps := 4000000 }) only [go_sem, simprocAttr, ↓dnA, Tryz.f227, rows_length, frW, wk2, wk1, wkL, wkB, hpW, List.mem_cons, Prod.mk.injEq, exists_eq_left, exists_eq_right, exists_eq]
    exact ⟨rfl, rfl⟩
  · rintro i hi
    have hl := putF_len k x (x == 0) s i hi
    by_cases h : i < s.length
    · have hw : IntKind.i64.wrap ((i : Int) + 1) = ((i + 1 : Nat) : Int) := wsucc h (by omega)
      have hst := putF_take k x (x == 0) s i h
      generalize hp : putF k x (x == 0) (s.take i) = p at hl hst
      obtain ⟨acc, dn⟩ := p
      dsimp only at hl
      have htk : (rows encE acc).take acc.length = rows encE acc := by rw [List.take_of_length_le]; rw [rows_length]; omega
      have hlk : List.length (rows encE acc ++ [[AV.int IntKind.i64 k, AV.int IntKind.i64 x]]) = acc.length + 1 := by simp [rows_length]
      have htk2 : (rows encE acc ++ [[AV.int IntKind.i64 k, AV.int IntKind.i64 x]]).take (acc.length + 1) = rows encE acc ++ [[AV.int IntKind.i64 k, AV.int IntKind.i64 x]] := by rw [List.take_of_length_le]; rw [hlk]; omega
      cases dn <;> cases h1 : decide (s[i].key ≥ k) <;> cases h2 : (s[i].key != k)
      all_goals (simp only [putS, h1, h2, Bool.not_true, Bool.not_false, Bool.and_true, Bool.and_false, Bool.false_eq_true, if_true, if_false] at hst)
      all_goals (simp (config := { maxSteps := 4000000 }) only [go_sem, simprocAttr, ↓dnA, Tryz.f227, rows_length, nlt h, h, rows_get _ _ _ h, encE, nn0, hp, h1, h2, htk, hlk, htk2, hw])
      all_goals repeat refine And.intro (by first | omega | (simp; done) | (simp; omega) | assumption) ?_
      all_goals first
        | (refine ⟨i + 1, [(49, 600)], by omega, by dsimp only; omega, Weak.of (by rfl) ?_ ?_ (by rfl)⟩
           · simp (config := { maxSteps := 4000000 }) only [go_sem, simprocAttr, ↓dnA, Tryz.f227, rows_length, hst, List.length_append, frW, wk2, wk1, wkL, wkB, hpW, List.mem_cons, Prod.mk.injEq, exists_eq_left, exists_eq_right, exists_eq]
             simp [rows, encE]
           · simp (config := { maxSteps := 4000000 }) only [go_sem, simprocAttr, ↓dnA, Tryz.f227, rows_length, hst, List.length_append, frW, wk2, wk1, wkL, wkB, hpW, List.mem_cons, Prod.mk.injEq, exists_eq_left, exists_eq_right, exists_eq])
        | (refine ⟨i + 1, [(35, 600)], by omega, by dsimp only; omega, Weak.of (by rfl) ?_ ?_ (by rfl)⟩
           · simp (config := { maxSteps := 4000000 }) only [go_sem, simprocAttr, ↓dnA, Tryz.f227, rows_length, hst, List.length_append, frW, wk2, wk1, wkL, wkB, hpW, List.mem_cons, Prod.mk.injEq, exists_eq_left, exists_eq_right, exists_eq]
             simp [rows, encE]
           · simp (config := { maxSteps := 4000000 }) only [go_sem, simprocAttr, ↓dnA, Tryz.f227, rows_length, hst, List.length_append, frW, wk2, wk1, wkL, wkB, hpW, List.mem_cons, Prod.mk.injEq, exists_eq_left, exists_eq_right, exists_eq])
        | (refine ⟨i + 1, [(600, 600)], by omega, by dsimp only; omega, Weak.of (by rfl) ?_ ?_ (by rfl)⟩
           · simp (config := { maxSteps := 4000000 }) only [go_sem, simprocAttr, ↓dnA, Tryz.f227, rows_length, hst, List.length_append, frW, wk2, wk1, wkL, wkB, hpW, List.mem_cons, Prod.mk.injEq, exists_eq_left, exists_eq_right, exists_eq]
           · simp (config := { maxSteps := 4000000 }) only [go_sem, simprocAttr, ↓dnA, Tryz.f227, rows_length, hst, List.length_append, frW, wk2, wk1, wkL, wkB, hpW, List.mem_cons, Prod.mk.injEq, exists_eq_left, exists_eq_right, exists_eq])
    · have hi' : i = s.length := by omega
      subst hi'
      rw [List.take_length] at hl
      unfold putD
      generalize hp : putF k x (x == 0) s = p at hl
      obtain ⟨acc, dn⟩ := p
      dsimp only at hl
      have htk : (rows encE acc).take acc.length = rows encE acc := by rw [List.take_of_length_le]; rw [rows_length]; omega
      cases dn with
      | true =>
        simp (config := { maxSteps := 4000000 }) only [go_sem, simprocAttr, ↓dnA, Tryz.f227, rows_length, nlf h, hp, List.take_length, htk]
        try rfl
      | false =>
        simp (config := { maxSteps := 4000000 }) only [go_sem, simprocAttr, ↓dnA, Tryz.f227, rows_length, nlf h, hp, List.take_length, htk]
        repeat refine And.intro (by first | omega | (simp; done) | (simp; omega) | assumption) ?_
        exact ⟨by simp [rows_length], by simp [rows, encE]⟩

end Go.Proofs.YtmibclbinebnjaaGreat

/- Contracts: the reference's runs of one action. -/
set_option linter.unusedSimpArgs false
set_option linter.unusedVariables false
set_option maxRecDepth 20000
set_option maxHeartbeats 4000000
namespace Go.Proofs.YtmibclbinebnjaaGreat
open Go Go.RowKit

theorem c_spec_l4Writes (n1 : Option Bool) (xs : List Entry) (hx : xs.length < 2 ^ 62) : Det Tryz.prog 233 [.sl n1 (rows encE xs)] (.bool (entOk 0 (-1) xs)) := by
  refine fspec_det tab_ok Tryz.call233 Tryz.func233 rfl 44 Tryz.ntmps233 (of_decide_eq_true rfl) fun B => codeK_sound tab_ok _ _ _ ?_
  simp (config := { maxSteps := 4000000 }) only [go_sem, simprocAttr, ↓dnA, Tryz.f233, rows_length]
  refine semL_for tab_ok (fun i : Nat => ⟨44, [(0, .sl n1 (rows encE xs)), (3, .int .i64 i)], []⟩) (fun i => xs.length - i)
    (fun i => i ≤ xs.length ∧ ∃ last : Int, -1 ≤ last ∧ (i = 0 → last = -1) ∧ (∀ j (h : j < xs.length), i = j + 1 → last = xs[j].key) ∧ entOk 0 last (xs.drop i) = entOk 0 (-1) xs) 0 [] (Weak.of rfl trivial ?_ rfl) ⟨by omega, -1, by omega, fun _ => rfl, fun j h hj => by omega, rfl⟩ ?_
  · simp (config := { maxSteps := 4000000 }) only [go_sem, simprocAttr, ↓dnA, Tryz.f233, frW, wk2, wk1, wkL, wkB, hpW, List.mem_cons, Prod.mk.injEq, exists_eq_left, exists_eq_right, exists_eq]
  · rintro i ⟨hi, last, hl, h0, hs, hp⟩
    by_cases h : i < xs.length
    · rw [drop_cons xs i h] at hp
      simp only [entOk] at hp
      simp (config := { maxSteps := 4000000 }) only [go_sem, simprocAttr, ↓dnA, Tryz.f233, rows_length, rows_get _ _ _ h, encE, nlt h, nn0]
      refine semL_draw tab_ok mixed_ rfl (ord := [(0, []), (1, []), (2, []), (3, []), (4, []), (5, []), (6, []), (7, []), (8, []), (9, []), (10, []), (11, []), (12, []), (13, []), (14, []), (15, []), (16, []), (17, []), (18, []), (19, []), (20, []), (21, []), (22, []), (23, []), (24, []), (25, []), (26, []), (27, []), (28, []), (29, []), (30, []), (31, []), (32, []), (33, [])]) (by dsimp only; decide +kernel) ?_
      simp (config := { maxSteps := 4000000 }) only [go_sem, simprocAttr, ↓dnA, Tryz.f233, rows_length, rows_get _ _ _ h, encE, nlt h, nn0]
      refine CallTo.det (c_l1In _ _ _) fun _ => ?_
      cases h1 : inB xs[i].key 0 31 with
      | false =>
        have h1' : inB xs[i].key (last + 1) 31 = false := by
          cases hc : inB xs[i].key (last + 1) 31 with
          | false => rfl
          | true => rw [inB_iff] at hc; rw [inB_iff.2 ⟨by omega, hc.2⟩] at h1; exact h1
        rw [h1', Bool.false_and, Bool.false_and] at hp
        simp (config := { maxSteps := 4000000 }) only [go_sem, simprocAttr, ↓dnA, Tryz.f233, rows_length, rows_get _ _ _ h, encE, nlt h, nn0, h1]
        exact hp.symm
      | true =>
        simp (config := { maxSteps := 4000000 }) only [go_sem, simprocAttr, ↓dnA, Tryz.f233, rows_length, rows_get _ _ _ h, encE, nlt h, nn0, h1]
        refine CallTo.det (c_l1In _ _ _) fun _ => ?_
        cases h2 : inB xs[i].value 0 1000000 with
        | false =>
          rw [h2, Bool.and_false, Bool.false_and] at hp
          simp (config := { maxSteps := 4000000 }) only [go_sem, simprocAttr, ↓dnA, Tryz.f233, rows_length, rows_get _ _ _ h, encE, nlt h, nn0, h1, h2]
          exact hp.symm
        | true =>
          rcases Nat.eq_zero_or_pos i with rfl | hpos
          · simp (config := { maxSteps := 4000000 }) only [go_sem, simprocAttr, ↓dnA, Tryz.f233, rows_length, rows_get _ _ _ h, encE, nlt h, nn0, h1, h2]
            have hl0 := h0 rfl
            have w1 : IntKind.i64.wrap 1 = 1 := by decide
            subst hl0
            rw [h2] at hp
            have h1' : inB (xs[0]'h).key (-1 + 1) 31 = true := h1
            rw [h1', Bool.true_and, Bool.true_and] at hp
            have hk := inB_iff.1 h1
            refine ⟨1, [], ⟨by omega, (xs[0]'h).key, by omega, fun hc => absurd hc (by omega), fun j hj e => ?_, hp⟩, by dsimp only; omega, Weak.of rfl trivial ?_ rfl⟩
            · obtain rfl : j = 0 := by omega
              rfl
            · simp (config := { maxSteps := 4000000 }) only [go_sem, simprocAttr, ↓dnA, Tryz.f233, w1, frW, wk2, wk1, wkL, wkB, hpW, List.mem_cons, Prod.mk.injEq, exists_eq_left, exists_eq_right, exists_eq]
          · obtain ⟨j, rfl⟩ : ∃ j, i = j + 1 := ⟨i - 1, by omega⟩
            have hw : IntKind.i64.wrap (((j + 1 : Nat) : Int) - 1) = (j : Int) := by rw [wrap_small _ (by omega) (by omega)]; omega
            have hj : j < xs.length := by omega
            have hg : decide (((j + 1 : Nat) : Int) > 0) = true := by simp
            have hls := hs j hj rfl
            simp (config := { maxSteps := 4000000 }) only [go_sem, simprocAttr, ↓dnA, Tryz.f233, rows_length, rows_get _ _ _ h, encE, nlt h, nn0, h1, h2, hw, rows_get _ _ _ hj, nlt hj, hg]
            have hk := inB_iff.1 h1
            cases h3 : decide (xs[j + 1].key ≤ xs[j].key) with
            | true =>
              have h1' : inB xs[j + 1].key (last + 1) 31 = false := by
                cases hc : inB xs[j + 1].key (last + 1) 31 with
                | false => rfl
                | true => rw [inB_iff] at hc; simp at h3; omega
              rw [h1', Bool.false_and, Bool.false_and] at hp
              exact ⟨fun _ => hp.symm, fun hc => by simp at hc⟩
            | false =>
              have h1' : inB xs[j + 1].key (last + 1) 31 = true := by rw [inB_iff]; simp at h3; omega
              rw [h1', h2, Bool.true_and, Bool.true_and] at hp
              simp only [Bool.false_eq_true, false_implies, true_implies, true_and, forall_const]
              refine ⟨j + 1 + 1, [], ⟨by omega, xs[j + 1].key, by omega, fun hc => absurd hc (by omega), fun j' hj' e => ?_, hp⟩, by dsimp only; omega, Weak.of rfl trivial ?_ rfl⟩
              · obtain rfl : j' = j + 1 := by omega
                rfl
              · simp (config := { maxSteps := 4000000 }) only [go_sem, simprocAttr, ↓dnA, Tryz.f233, wsucc h hx, frW, wk2, wk1, wkL, wkB, hpW, List.mem_cons, Prod.mk.injEq, exists_eq_left, exists_eq_right, exists_eq]
    · have : i = xs.length := by omega
      subst this
      simp only [List.drop_length] at hp
      simp (config := { maxSteps := 4000000 }) only [go_sem, simprocAttr, ↓dnA, Tryz.f233, rows_length, nlf h]
      exact hp.symm

theorem c_spec_ActionReads (a : Action) (ha : actionValid a = true) : Det Tryz.prog 239 [.agg (encA a)] (.osl true 1 (rows encI (readsA a))) := by
  refine fspec_det tab_ok Tryz.call239 Tryz.func239 rfl 35 Tryz.ntmps239 (of_decide_eq_true rfl) fun B => codeK_sound tab_ok _ _ _ ?_
  unfold encA readsA
  simp (config := { maxSteps := 4000000 }) only [go_sem, simprocAttr, ↓dnA, Tryz.f239, rows_length]
  refine CallTo.det (c_spec_ActionValid a) fun _ => ?_
  by_cases h1 : a.kind = 1
  · have e1 : (a.kind == 1) = true := by simp [h1]
    simp (config := { maxSteps := 4000000 }) only [go_sem, simprocAttr, ↓dnA, Tryz.f239, rows_length, ha, e1, h1, rows_nil]
  · have e1 : (a.kind == 1) = false := by simp [h1]
    by_cases h3 : a.kind = 3
    · have e3 : (a.kind == 3) = true := by simp [h3]
      simp (config := { maxSteps := 4000000 }) only [go_sem, simprocAttr, ↓dnA, Tryz.f239, rows_length, ha, e1, h1, e3, h3, rows, encI]
    · have e3 : (a.kind == 3) = false := by simp [h3]
      by_cases h6 : a.kind = 6
      · have e6 : (a.kind == 6) = true := by simp [h6]
        simp (config := { maxSteps := 4000000 }) only [go_sem, simprocAttr, ↓dnA, Tryz.f239, rows_length, ha, e1, h1, e3, h3, e6, h6, rows, encI]
      · have e6 : (a.kind == 6) = false := by simp [h6]
        by_cases hf : a.fr = a.to
        · have ef : (a.fr == a.to) = true := by simp [hf]
          simp (config := { maxSteps := 4000000 }) only [go_sem, simprocAttr, ↓dnA, Tryz.f239, rows_length, ha, e1, h1, e3, h3, e6, h6, ef, hf, rows, encI]
        · have ef : (a.fr == a.to) = false := by simp [hf]
          simp (config := { maxSteps := 4000000 }) only [go_sem, simprocAttr, ↓dnA, Tryz.f239, rows_length, ha, e1, h1, e3, h3, e6, h6, ef, hf, rows, encI]

/-- The effect of an action on the values of From and To. -/
def runX (a : Action) (f t : Int) : Effect := ⟨doneA a f t, (readsA a).map fun k => ⟨k, if k = a.fr then f else t⟩, if doneA a f t then (writesA a).map fun k => ⟨k, newV a f t k⟩ else []⟩

theorem runE_eq (a : Action) (v : List Int) : runE a v = runX a (valK v a.fr) (valK v a.to) := by
  unfold runE runX
  congr 1
  apply List.map_congr_left
  intro k hk
  by_cases h : k = a.fr
  · rw [if_pos h, h]
  · rw [if_neg h]
    rcases mem_reads hk with e | e
    · exact absurd e h
    · rw [e]

theorem putD_two (a b x y : Int) : putD b y false [⟨a, x⟩] = if a = b then [⟨b, y⟩] else [⟨min a b, if min a b = b then y else x⟩, ⟨max a b, if max a b = b then y else x⟩] := by
  unfold putD putF putS
  simp only [List.foldl_cons, List.foldl_nil, Bool.not_false, Bool.true_and]
  by_cases h : a = b
  · subst h; simp
  · by_cases h2 : a ≥ b
    · have e1 : min a b = b := by omega
      have e2 : max a b = a := by omega
      simp [h, h2, e1, e2]
    · have e1 : min a b = a := by omega
      have e2 : max a b = b := by omega
      simp [h, h2, e1, e2]

theorem c_spec_l6Run (a : Action) (f t : Int) (ha : actionValid a = true) (hf : 0 ≤ f ∧ f ≤ 1000000) (ht : 0 ≤ t ∧ t ≤ 1000000) :
    Det Tryz.prog 231 [.agg (encA a), .int .i64 f, .int .i64 t] (.agg (encFO (runX a f t))) := by
  refine fspec_det tab_ok Tryz.call231 Tryz.func231 rfl 152 Tryz.ntmps231 (of_decide_eq_true rfl) fun B => codeK_sound tab_ok _ _ _ ?_
  have hA := actOk_of ha
  have hfr := hA.fr
  have hto := hA.to
  have ham := hA.amount
  have h2 := readsA_len a
  simp (config := { maxSteps := 4000000 }) only [go_sem, simprocAttr, ↓dnA, Tryz.f231, rows_length, encA]
  refine CallTo.det (c_spec_ActionReads a ha) fun _ => ?_
  simp (config := { maxSteps := 4000000 }) only [go_sem, simprocAttr, ↓dnA, Tryz.f231, rows_length, encA]
  refine semL_nilVA 7 1 600 2 true (by rfl) (by simp) (by rfl) (by rfl) (by decide) (by decide) ?_
  have hrd : (runX a f t).reads = (readsA a).map fun k => ⟨k, if k = a.fr then f else t⟩ := rfl
  generalize hrs : readsA a = rs at h2 hrd
  generalize hnr : (fun k => (⟨k, if k = a.fr then f else t⟩ : Entry)) = nr at hrd
  have hmr : ∀ k, k ∈ rs → k = a.fr ∨ k = a.to := fun k hk => mem_reads (by rw [hrs]; exact hk)
  refine semL_for tab_ok (fun i : Nat => ⟨152, [(1, .int .i64 f), (2, .int .i64 t), (3, .loc 3 0), (6, .loc 6 0), (7, .loc 7 0), (8, .row 14000 rs.length), (9, .int .i64 i)],
      [(14000, .row true true 1 (rows encI rs)), (7, .var [.bool true, .row 600 i, .sl (some false) []]), (6, .var [.bool false, .sl (some false) [], .sl (some false) []]), (3, .var (encA a)),
        (600, .row true false 2 (rows encE ((rs.take i).map nr)))]⟩) (fun i => rs.length - i)
    (fun i => i ≤ rs.length) 0 [(3, 3), (6, 6), (7, 7), (14000, 14000), (600, 600)] (Weak.of (by rfl) ?_ ?_ (by rfl)) (by omega) ?_
  · simp (config := { maxSteps := 4000000 }) only [go_sem, simprocAttr, ↓dnA, Tryz.f231, rows_length, encA, frW, wk2, wk1, wkL, wkB, hpW, List.mem_cons, Prod.mk.injEq, exists_eq_left, exists_eq_right, exists_eq]
    try rfl
  · simp (config := { maxSteps := 4000000 }) only [go_sem, simprocAttr, ↓dnA, Tryz.f231, rows_length, encA, frW, wk2, wk1, wkL, wkB, hpW, List.mem_cons, Prod.mk.injEq, exists_eq_left, exists_eq_right, exists_eq]
    try rfl
  · rintro i hi
    by_cases h : i < rs.length
    · have hk := hmr _ (List.getElem_mem h)
      have hb : 0 ≤ rs[i] ∧ rs[i] < 32 := by rcases hk with e | e <;> rw [e] <;> omega
      have htk : (rows encE ((rs.take i).map nr)).take i = rows encE ((rs.take i).map nr) := by
        rw [List.take_of_length_le]; rw [rows_length, List.length_map, List.length_take]; omega
      have hl : min i rs.length = i := by omega
      have hw : IntKind.i64.wrap ((i : Int) + 1) = ((i + 1 : Nat) : Int) := wsucc h (by omega)
      have hni : nr rs[i] = ⟨rs[i], if rs[i] = a.fr then f else t⟩ := by rw [← hnr]
      simp (config := { maxSteps := 4000000 }) only [go_sem, simprocAttr, ↓dnA, Tryz.f231, rows_length, nlt h, h, rows_get _ _ _ h, encI, encA, nn0]
      refine semL_draw tab_ok mixed_ rfl (ord := [(0, []), (1, []), (2, []), (3, []), (4, []), (5, []), (6, [])]) (by dsimp only; decide +kernel) ?_
      cases hd : (rs[i] != a.fr) with
      | true =>
        have hd' : ¬ rs[i] = a.fr := by simpa using hd
        rw [if_neg hd'] at hni
        simp (config := { maxSteps := 4000000 }) only [go_sem, simprocAttr, ↓dnA, Tryz.f231, rows_length, nlt h, h, rows_get _ _ _ h, encI, encA, nn0, hd]
        refine semL_draw tab_ok mixed_ rfl (ord := [(0, []), (1, []), (2, []), (3, []), (4, []), (5, []), (6, []), (7, []), (8, [0, 1]), (9, []), (10, []), (11, [])]) (by dsimp only; decide +kernel) ?_
        simp (config := { maxSteps := 4000000 }) only [go_sem, simprocAttr, ↓dnA, Tryz.f231, rows_length, nlt h, h, rows_get _ _ _ h, encI, encA, nn0, List.length_take, List.length_map, hl, htk, hw]
        repeat refine And.intro (by first | omega | (simp; done) | (simp; omega) | assumption) ?_
        refine ⟨i + 1, [(3, 3), (6, 6), (7, 7), (14000, 14000), (38, 600)], by omega, by dsimp only; omega, Weak.of (by rfl) ?_ ?_ (by rfl)⟩
        · simp (config := { maxSteps := 4000000 }) only [go_sem, simprocAttr, ↓dnA, Tryz.f231, rows_length, encA, frW, wk2, wk1, wkL, wkB, hpW, List.mem_cons, Prod.mk.injEq, exists_eq_left, exists_eq_right, exists_eq]
          rw [take_snoc _ _ h, List.map_append, List.map_singleton, ← rows_snoc, hni]
          rfl
        · simp (config := { maxSteps := 4000000 }) only [go_sem, simprocAttr, ↓dnA, Tryz.f231, rows_length, encA, frW, wk2, wk1, wkL, wkB, hpW, List.mem_cons, Prod.mk.injEq, exists_eq_left, exists_eq_right, exists_eq]
      | false =>
        have hd' : rs[i] = a.fr := by simpa using hd
        rw [if_pos hd'] at hni
        simp (config := { maxSteps := 4000000 }) only [go_sem, simprocAttr, ↓dnA, Tryz.f231, rows_length, nlt h, h, rows_get _ _ _ h, encI, encA, nn0, hd]
        refine semL_draw tab_ok mixed_ rfl (ord := [(0, []), (1, []), (2, []), (3, []), (4, []), (5, []), (6, []), (7, []), (8, [0, 1]), (9, []), (10, []), (11, [])]) (by dsimp only; decide +kernel) ?_
        simp (config := { maxSteps := 4000000 }) only [go_sem, simprocAttr, ↓dnA, Tryz.f231, rows_length, nlt h, h, rows_get _ _ _ h, encI, encA, nn0, List.length_take, List.length_map, hl, htk, hw]
        repeat refine And.intro (by first | omega | (simp; done) | (simp; omega) | assumption) ?_
        refine ⟨i + 1, [(3, 3), (6, 6), (7, 7), (14000, 14000), (38, 600)], by omega, by dsimp only; omega, Weak.of (by rfl) ?_ ?_ (by rfl)⟩
        · simp (config := { maxSteps := 4000000 }) only [go_sem, simprocAttr, ↓dnA, Tryz.f231, rows_length, encA, frW, wk2, wk1, wkL, wkB, hpW, List.mem_cons, Prod.mk.injEq, exists_eq_left, exists_eq_right, exists_eq]
          rw [take_snoc _ _ h, List.map_append, List.map_singleton, ← rows_snoc, hni]
          rfl
        · simp (config := { maxSteps := 4000000 }) only [go_sem, simprocAttr, ↓dnA, Tryz.f231, rows_length, encA, frW, wk2, wk1, wkL, wkB, hpW, List.mem_cons, Prod.mk.injEq, exists_eq_left, exists_eq_right, exists_eq]
    · have hi' : i = rs.length := by omega
      subst hi'
      rw [List.take_length]
      have w1 : IntKind.i64.wrap (f - a.amount) = f - a.amount := wrap_small _ (by omega) (by omega)
      have w2 : IntKind.i64.wrap (f + t) = f + t := wrap_small _ (by omega) (by omega)
      have w3 : IntKind.i64.wrap (t + a.amount) = t + a.amount := wrap_small _ (by omega) (by omega)
      obtain ⟨kd, fr, to, am⟩ := a
      dsimp only at *
      rcases hA.kind with e | e | e | e | e | e <;> dsimp only at e <;> subst e
      · have hde : (runX ⟨1, fr, to, am⟩ f t).done = true := rfl
        have hwr : (runX ⟨1, fr, to, am⟩ f t).writes = [⟨fr, am⟩] := rfl
        simp (config := { maxSteps := 4000000 }) only [go_sem, simprocAttr, ↓dnA, Tryz.f231, rows_length, nlf h, encA, w1, w2, w3, encFO, hde, hwr, hrd, List.length_map, rows, encE]
      · have hde : (runX ⟨2, fr, to, am⟩ f t).done = doneA ⟨2, fr, to, am⟩ f t := rfl
        have hwr : (runX ⟨2, fr, to, am⟩ f t).writes = if doneA ⟨2, fr, to, am⟩ f t then (writesA ⟨2, fr, to, am⟩).map (fun k => ⟨k, newV ⟨2, fr, to, am⟩ f t k⟩) else [] := rfl
        have hcall := c_spec_l4Put (some true) [⟨fr, f - am⟩] to (t + am) (by simp)
        by_cases he : fr = to
        · subst he
          have e1 : (fr == fr) = true := by simp
          have hdn : doneA ⟨2, fr, fr, am⟩ f t = decide (f ≥ am) := by simp [doneA]
          have hw0 : (writesA ⟨2, fr, fr, am⟩).map (fun k => (⟨k, newV ⟨2, fr, fr, am⟩ f t k⟩ : Entry)) = [⟨fr, f⟩] := by simp [writesA, newV]
          rw [hdn] at hde hwr
          rw [hw0] at hwr
          cases h1 : decide (f ≥ am) with
          | false =>
            rw [h1, if_neg (by simp)] at hwr
            rw [h1] at hde
            simp (config := { maxSteps := 4000000 }) only [go_sem, simprocAttr, ↓dnA, Tryz.f231, rows_length, nlf h, encA, w1, w2, w3, h1, e1]
            refine CallTo.det hcall fun _ => ?_
            simp (config := { maxSteps := 4000000 }) only [go_sem, simprocAttr, ↓dnA, Tryz.f231, rows_length, nlf h, encA, w1, w2, w3, h1, e1, encFO, hde, hwr, hrd, List.length_map, rows_nil]
          | true =>
            rw [h1, if_pos rfl] at hwr
            rw [h1] at hde
            simp (config := { maxSteps := 4000000 }) only [go_sem, simprocAttr, ↓dnA, Tryz.f231, rows_length, nlf h, encA, w1, w2, w3, h1, e1]
            refine CallTo.det hcall fun _ => ?_
            simp (config := { maxSteps := 4000000 }) only [go_sem, simprocAttr, ↓dnA, Tryz.f231, rows_length, nlf h, encA, w1, w2, w3, h1, e1, encFO, hde, hwr, hrd, List.length_map, rows, encE]
        · have e1 : (fr == to) = false := by simp [he]
          have hdn : doneA ⟨2, fr, to, am⟩ f t = (decide (f ≥ am) && decide (t + am ≤ 1000000)) := by simp [doneA, he]
          have hw0 : (writesA ⟨2, fr, to, am⟩).map (fun k => (⟨k, newV ⟨2, fr, to, am⟩ f t k⟩ : Entry)) = putD to (t + am) false [⟨fr, f - am⟩] := by
            rw [putD_two, if_neg he]
            simp [writesA, newV, he]
          rw [hdn] at hde hwr
          rw [hw0] at hwr
          cases h1 : decide (f ≥ am) with
          | false =>
            rw [h1, Bool.false_and, if_neg (by simp)] at hwr
            rw [h1, Bool.false_and] at hde
            simp (config := { maxSteps := 4000000 }) only [go_sem, simprocAttr, ↓dnA, Tryz.f231, rows_length, nlf h, encA, w1, w2, w3, h1, e1]
            refine CallTo.det hcall fun _ => ?_
            simp (config := { maxSteps := 4000000 }) only [go_sem, simprocAttr, ↓dnA, Tryz.f231, rows_length, nlf h, encA, w1, w2, w3, h1, e1, encFO, hde, hwr, hrd, List.length_map, rows_nil]
          | true =>
            rw [h1, Bool.true_and] at hwr hde
            cases h3 : decide (t + am ≤ 1000000) with
            | false =>
              rw [h3, if_neg (by simp)] at hwr
              rw [h3] at hde
              simp (config := { maxSteps := 4000000 }) only [go_sem, simprocAttr, ↓dnA, Tryz.f231, rows_length, nlf h, encA, w1, w2, w3, h1, e1, h3]
              refine CallTo.det hcall fun _ => ?_
              simp (config := { maxSteps := 4000000 }) only [go_sem, simprocAttr, ↓dnA, Tryz.f231, rows_length, nlf h, encA, w1, w2, w3, h1, e1, h3, encFO, hde, hwr, hrd, List.length_map, rows_nil]
            | true =>
              rw [h3, if_pos rfl] at hwr
              rw [h3] at hde
              simp (config := { maxSteps := 4000000 }) only [go_sem, simprocAttr, ↓dnA, Tryz.f231, rows_length, nlf h, encA, w1, w2, w3, h1, e1, h3]
              refine CallTo.det hcall fun _ => ?_
              simp (config := { maxSteps := 4000000 }) only [go_sem, simprocAttr, ↓dnA, Tryz.f231, rows_length, nlf h, encA, w1, w2, w3, h1, e1, h3, encFO, hde, hwr, hrd, List.length_map]
      · have hde : (runX ⟨3, fr, to, am⟩ f t).done = true := rfl
        have hwr : (runX ⟨3, fr, to, am⟩ f t).writes = [⟨to, f⟩] := rfl
        simp (config := { maxSteps := 4000000 }) only [go_sem, simprocAttr, ↓dnA, Tryz.f231, rows_length, nlf h, encA, w1, w2, w3, encFO, hde, hwr, hrd, List.length_map, rows, encE]
      · have hde : (runX ⟨4, fr, to, am⟩ f t).done = true := rfl
        have hwr : (runX ⟨4, fr, to, am⟩ f t).writes = putD to f false [⟨fr, t⟩] := by
          rw [putD_two]
          unfold runX doneA writesA newV
          by_cases he : fr = to
          · simp [he]
          · simp [he]
        simp (config := { maxSteps := 4000000 }) only [go_sem, simprocAttr, ↓dnA, Tryz.f231, rows_length, nlf h, encA, w1, w2, w3]
        refine CallTo.det (c_spec_l4Put _ [⟨fr, t⟩] to f (by simp)) fun _ => ?_
        simp (config := { maxSteps := 4000000 }) only [go_sem, simprocAttr, ↓dnA, Tryz.f231, rows_length, nlf h, encA, w1, w2, w3, encFO, hde, hwr, hrd, List.length_map]
      · have hde : (runX ⟨5, fr, to, am⟩ f t).done = decide (f + t ≤ 1000000) := rfl
        have hwr : (runX ⟨5, fr, to, am⟩ f t).writes = if decide (f + t ≤ 1000000) then [⟨to, f + t⟩] else [] := rfl
        cases hd : decide (f + t ≤ 1000000) with
        | true =>
          rw [hd, if_pos rfl] at hwr
          simp (config := { maxSteps := 4000000 }) only [go_sem, simprocAttr, ↓dnA, Tryz.f231, rows_length, nlf h, encA, w1, w2, w3, hd, encFO, hde, hwr, hrd, List.length_map, rows, encE]
        | false =>
          rw [hd, if_neg (by simp)] at hwr
          simp (config := { maxSteps := 4000000 }) only [go_sem, simprocAttr, ↓dnA, Tryz.f231, rows_length, nlf h, encA, w1, w2, w3, hd, encFO, hde, hwr, hrd, List.length_map, rows, encE]
      · have hde : (runX ⟨6, fr, to, am⟩ f t).done = true := rfl
        have hwr : (runX ⟨6, fr, to, am⟩ f t).writes = [⟨fr, max 0 (f - am)⟩] := rfl
        simp (config := { maxSteps := 4000000 }) only [go_sem, simprocAttr, ↓dnA, Tryz.f231, rows_length, nlf h, encA, w1, w2, w3, encFO, hde, hwr, hrd, List.length_map, rows, encE]
        rw [Int.max_def]; split <;> split <;> omega

end Go.Proofs.YtmibclbinebnjaaGreat

/- Stores as data: puts, values. -/
set_option linter.unusedSimpArgs false
set_option linter.unusedVariables false
set_option maxRecDepth 20000
set_option maxHeartbeats 4000000
namespace Go.Proofs.YtmibclbinebnjaaGreat
open Go Go.RowKit

theorem entOk_cons {lo last : Int} {e : Entry} {r : List Entry} : entOk lo last (e :: r) = true ↔ (last < e.key ∧ e.key ≤ 31) ∧ (lo ≤ e.value ∧ e.value ≤ 1000000) ∧ entOk lo e.key r = true := by
  simp only [entOk, Bool.and_eq_true, inB_iff]
  constructor
  · rintro ⟨⟨h1, h2⟩, h3⟩; exact ⟨⟨by omega, h1.2⟩, h2, h3⟩
  · rintro ⟨h1, h2, h3⟩; exact ⟨⟨⟨by omega, h1.2⟩, h2⟩, h3⟩

theorem entOk_mono {lo a b : Int} (h : a ≤ b) : ∀ {r : List Entry}, entOk lo b r = true → entOk lo a r = true
  | [], _ => rfl
  | e :: r, hr => by
    rw [entOk_cons] at hr ⊢
    exact ⟨⟨by omega, hr.1.2⟩, hr.2⟩

theorem valAt_lt {lo last : Int} : ∀ {s : List Entry}, entOk lo last s = true → ∀ k, k ≤ last → valAt s k = 0
  | [], _, k, _ => rfl
  | e :: r, h, k, hk => by
    rw [entOk_cons] at h
    unfold valAt
    rw [if_neg (by omega)]
    exact valAt_lt h.2.2 k (by omega)

/-- A valid store is what its values are. -/
theorem store_ext : ∀ {s s' : List Entry} {last : Int}, entOk 1 last s = true → entOk 1 last s' = true → (∀ k, last < k → k ≤ 31 → valAt s k = valAt s' k) → s = s'
  | [], [], _, _, _, _ => rfl
  | [], e :: r, last, _, h', hv => by
    rw [entOk_cons] at h'
    have := hv e.key h'.1.1 h'.1.2
    simp only [valAt, if_true] at this
    omega
  | e :: r, [], last, h, _, hv => by
    rw [entOk_cons] at h
    have := hv e.key h.1.1 h.1.2
    simp only [valAt, if_true] at this
    omega
  | e :: r, e' :: r', last, h, h', hv => by
    rw [entOk_cons] at h h'
    have h1 := hv e.key h.1.1 h.1.2
    have h2 := hv e'.key h'.1.1 h'.1.2
    have hk : e.key = e'.key := by
      rcases Int.lt_trichotomy e.key e'.key with hl | hl | hl
      · simp only [valAt, if_true] at h1
        rw [if_neg (by omega), valAt_lt h'.2.2 _ (by omega)] at h1
        omega
      · exact hl
      · simp only [valAt, if_true] at h2
        rw [if_neg (by omega), valAt_lt h.2.2 _ (by omega)] at h2
        omega
    simp only [valAt, if_true] at h1
    rw [if_pos hk.symm] at h1
    have he : e = e' := by
      obtain ⟨a, b⟩ := e
      obtain ⟨a', b'⟩ := e'
      simp only at hk h1
      rw [hk, h1]
    subst he
    rw [store_ext (last := e.key) h.2.2 h'.2.2 fun k hk1 hk2 => by
      have := hv k (by omega) hk2
      simp only [valAt] at this
      rwa [if_neg (by omega), if_neg (by omega)] at this]

/-- The entries of values that stand behind i. -/
def storeFrom : Nat → List Int → List Entry
  | _, [] => []
  | i, x :: r => if x > 0 then ⟨(i : Int), x⟩ :: storeFrom (i + 1) r else storeFrom (i + 1) r

theorem storeFrom_append : ∀ (a b : List Int) (i : Nat), storeFrom i (a ++ b) = storeFrom i a ++ storeFrom (i + a.length) b
  | [], b, i => rfl
  | x :: a, b, i => by
    simp only [List.cons_append, storeFrom, List.length_cons]
    rw [storeFrom_append a b (i + 1), show i + 1 + a.length = i + (a.length + 1) by omega]
    split <;> rfl

theorem storeUp_eq (v : List Int) : ∀ n, n ≤ v.length → storeUp v n = storeFrom 0 (v.take n)
  | 0, _ => rfl
  | n + 1, h => by
    have ih := storeUp_eq v n (by omega)
    have hg : v.getD n 0 = v[n] := by rw [List.getD_eq_getElem?_getD, List.getElem?_eq_getElem (by omega)]; rfl
    rw [take_snoc _ _ (by omega), storeFrom_append, ← ih]
    rw [List.length_take, show min n v.length = n by omega, Nat.zero_add]
    by_cases hp : v.getD n 0 > 0
    · rw [storeUp_pos _ _ hp, hg]
      rw [hg] at hp
      simp [storeFrom, hp]
    · rw [storeUp_neg _ _ hp]
      rw [hg] at hp
      simp [storeFrom, hp]

theorem storeL_eq {v : List Int} (h : v.length = 32) : storeL v = storeFrom 0 v := by
  unfold storeL
  rw [storeUp_eq v 32 (by omega), List.take_of_length_le (by omega)]

theorem storeFrom_ok : ∀ (v : List Int) (i : Nat), i + v.length ≤ 32 → (∀ x, x ∈ v → x ≤ 1000000) → entOk 1 ((i : Int) - 1) (storeFrom i v) = true
  | [], i, _, _ => rfl
  | x :: r, i, hl, hv => by
    have ih := storeFrom_ok r (i + 1) (by simp only [List.length_cons] at hl; omega) fun y hy => hv y (List.mem_cons_of_mem _ hy)
    have hx := hv x (List.mem_cons_self ..)
    rw [show (((i + 1 : Nat) : Int) - 1) = (i : Int) by omega] at ih
    unfold storeFrom
    simp only [List.length_cons] at hl
    split
    · rw [entOk_cons]
      exact ⟨⟨by dsimp only; omega, by dsimp only; omega⟩, ⟨by dsimp only; omega, hx⟩, ih⟩
    · exact entOk_mono (by omega) ih

theorem storeFrom_at : ∀ (v : List Int) (i : Nat) (j : Nat), (∀ x, x ∈ v → 0 ≤ x ∧ x ≤ 1000000) → i + v.length ≤ 32 → valAt (storeFrom i v) ((i + j : Nat) : Int) = v.getD j 0
  | [], i, j, _, _ => by simp [storeFrom, valAt]
  | x :: r, i, j, hv, hl => by
    have hx := hv x (List.mem_cons_self ..)
    simp only [List.length_cons] at hl
    have hv' : ∀ y, y ∈ r → 0 ≤ y ∧ y ≤ 1000000 := fun y hy => hv y (List.mem_cons_of_mem _ hy)
    have ok := storeFrom_ok r (i + 1) (by omega) fun y hy => (hv' y hy).2
    rw [show (((i + 1 : Nat) : Int) - 1) = (i : Int) by omega] at ok
    cases j with
    | zero =>
      unfold storeFrom
      split
      · simp [valAt]
      · rw [Nat.add_zero, valAt_lt ok _ (by omega)]
        simp; omega
    | succ j =>
      have ih := storeFrom_at r (i + 1) j hv' (by omega)
      rw [show i + 1 + j = i + (j + 1) by omega] at ih
      unfold storeFrom
      split
      · simp only [valAt]
        rw [if_neg (by omega), ih]; rfl
      · rw [ih]; rfl

theorem ValsOk.mem {v : List Int} (h : ValsOk v) : ∀ x, x ∈ v → 0 ≤ x ∧ x ≤ 1000000 := by
  intro x hx
  obtain ⟨i, hi, rfl⟩ := List.getElem_of_mem hx
  have := h.2 i
  rwa [List.getD_eq_getElem?_getD, List.getElem?_eq_getElem hi] at this

theorem storeL_valid {v : List Int} (h : ValsOk v) : storeValid (storeL v) = true := by
  rw [storeL_eq h.1]
  exact storeFrom_ok v 0 (by rw [h.1]; decide) fun x hx => (h.mem x hx).2

theorem storeL_at {v : List Int} (h : ValsOk v) (k : Int) (h0 : 0 ≤ k) : valAt (storeL v) k = valK v k := by
  rw [storeL_eq h.1]
  have := storeFrom_at v 0 k.toNat h.mem (by rw [h.1]; decide)
  rw [Nat.zero_add, Int.toNat_of_nonneg h0] at this
  exact this

theorem storeL_values {s : List Entry} (h : storeValid s = true) : storeL (valuesL s) = s := by
  have hv := valuesL_ok h
  refine store_ext (last := -1) (storeL_valid hv) h fun k h0 h1 => ?_
  rw [storeL_at hv k (by omega)]
  have := (valuesL_get h k.toNat (by omega)).2
  rw [Int.toNat_of_nonneg (by omega)] at this
  exact this

/-- Puts, one entry behind the other. -/
def putR (k x : Int) : Bool → List Entry → List Entry
  | d, [] => if d then [] else [⟨k, x⟩]
  | d, e :: r => (if !d && decide (e.key ≥ k) then [⟨k, x⟩] else []) ++ ((if (e.key != k) = true then [e] else []) ++ putR k x (d || decide (e.key ≥ k)) r)

theorem putF_eq (k x : Int) : ∀ (s : List Entry) (acc : List Entry) (d : Bool), (if (s.foldl (putS k x) (acc, d)).2 then (s.foldl (putS k x) (acc, d)).1 else (s.foldl (putS k x) (acc, d)).1 ++ [⟨k, x⟩]) = acc ++ putR k x d s
  | [], acc, d => by cases d <;> simp [putR]
  | e :: r, acc, d => by
    rw [List.foldl_cons]
    have hst : putS k x (acc, d) e = (acc ++ ((if !d && decide (e.key ≥ k) then [⟨k, x⟩] else []) ++ (if (e.key != k) = true then [e] else [])), d || decide (e.key ≥ k)) := by
      unfold putS
      cases d <;> cases decide (e.key ≥ k) <;> cases (e.key != k) <;> simp
    rw [hst, putF_eq k x r]
    simp only [putR, List.append_assoc]

theorem putD_eq (k x : Int) (d : Bool) (s : List Entry) : putD k x d s = putR k x d s := by
  have := putF_eq k x s [] d
  rwa [List.nil_append] at this

theorem putR_true (k x : Int) : ∀ (s : List Entry), putR k x true s = s.filter fun e => e.key != k
  | [] => rfl
  | e :: r => by
    unfold putR
    rw [Bool.true_or, putR_true k x r]
    cases h : (e.key != k) <;> simp [h]

theorem filter_ok (k : Int) {lo : Int} : ∀ {s : List Entry} {last : Int}, entOk lo last s = true → entOk lo last (s.filter fun e => e.key != k) = true
  | [], _, _ => rfl
  | e :: r, last, h => by
    rw [entOk_cons] at h
    have ih := filter_ok k h.2.2
    rw [List.filter_cons]
    split
    · rw [entOk_cons]; exact ⟨h.1, h.2.1, ih⟩
    · exact entOk_mono (by omega) ih

theorem filter_at (k j : Int) : ∀ (s : List Entry), valAt (s.filter fun e => e.key != k) j = if j = k then 0 else valAt s j
  | [] => by simp [valAt]
  | e :: r => by
    have ih := filter_at k j r
    rw [List.filter_cons]
    by_cases he : e.key = k
    · rw [if_neg (by simp [he]), ih]
      by_cases hj : j = k
      · rw [if_pos hj, if_pos hj]
      · rw [if_neg hj, if_neg hj]; simp only [valAt]; rw [if_neg (by omega)]
    · rw [if_pos (by simp [he])]
      simp only [valAt]
      rw [ih]
      by_cases hj : j = k
      · rw [if_neg (by omega), if_pos hj, if_pos hj]
      · rw [if_neg hj, if_neg hj]

theorem filter_id (k : Int) {lo : Int} : ∀ {s : List Entry} {last : Int}, k ≤ last → entOk lo last s = true → (s.filter fun e => e.key != k) = s
  | [], _, _, _ => rfl
  | e :: r, last, hk, h => by
    rw [entOk_cons] at h
    rw [List.filter_cons, if_pos (by simp; omega), filter_id k (last := e.key) (by omega) h.2.2]

theorem putR_ok {k x : Int} (hk : k ≤ 31) (hx : 1 ≤ x ∧ x ≤ 1000000) : ∀ {s : List Entry} {last : Int}, last < k → entOk 1 last s = true →
    entOk 1 last (putR k x false s) = true ∧ ∀ j, valAt (putR k x false s) j = if j = k then x else valAt s j
  | [], last, hl, _ => by
    constructor
    · show entOk 1 last [⟨k, x⟩] = true
      rw [entOk_cons]; exact ⟨⟨hl, hk⟩, hx, rfl⟩
    · intro j
      show (if k = j then x else 0) = _
      by_cases h : j = k
      · rw [if_pos h.symm, if_pos h]
      · rw [if_neg (by omega), if_neg h]; rfl
  | e :: r, last, hl, h => by
    rw [entOk_cons] at h
    unfold putR
    by_cases hg : e.key ≥ k
    · simp only [hg, decide_true, Bool.not_false, Bool.true_and, if_true, Bool.or_true]
      rw [putR_true, filter_id k (last := e.key) (by omega) h.2.2]
      by_cases he : e.key = k
      · rw [if_neg (by simp [he])]
        constructor
        · show entOk 1 last (⟨k, x⟩ :: r) = true
          rw [entOk_cons]; exact ⟨⟨hl, hk⟩, hx, he ▸ h.2.2⟩
        · intro j
          show (if k = j then x else valAt r j) = if j = k then x else (if e.key = j then e.value else valAt r j)
          by_cases hj : j = k
          · rw [if_pos hj.symm, if_pos hj]
          · rw [if_neg (by omega), if_neg hj, if_neg (by omega)]
      · rw [if_pos (by simp [he])]
        constructor
        · show entOk 1 last (⟨k, x⟩ :: e :: r) = true
          rw [entOk_cons, entOk_cons]; exact ⟨⟨hl, hk⟩, hx, ⟨by dsimp only; omega, h.1.2⟩, h.2.1, h.2.2⟩
        · intro j
          show (if k = j then x else (if e.key = j then e.value else valAt r j)) = if j = k then x else (if e.key = j then e.value else valAt r j)
          by_cases hj : j = k
          · rw [if_pos hj.symm, if_pos hj]
          · rw [if_neg (by omega), if_neg hj]
    · simp only [hg, decide_false, Bool.not_false, Bool.and_false, Bool.false_eq_true, if_false, Bool.or_false]
      rw [if_pos (by simp; omega)]
      obtain ⟨i1, i2⟩ := putR_ok hk hx (last := e.key) (by omega) h.2.2
      constructor
      · show entOk 1 last (e :: putR k x false r) = true
        rw [entOk_cons]; exact ⟨h.1, h.2.1, i1⟩
      · intro j
        show (if e.key = j then e.value else valAt (putR k x false r) j) = if j = k then x else (if e.key = j then e.value else valAt r j)
        rw [i2 j]
        by_cases hj : j = k
        · rw [if_pos hj, if_neg (by omega), if_pos hj]
        · rw [if_neg hj, if_neg hj]

theorem putD_ok {k x : Int} (hk : 0 ≤ k ∧ k ≤ 31) (hx : 0 ≤ x ∧ x ≤ 1000000) {s : List Entry} (h : storeValid s = true) : storeValid (putD k x (x == 0) s) = true ∧ ∀ j, valAt (putD k x (x == 0) s) j = if j = k then x else valAt s j := by
  rw [putD_eq]
  by_cases h0 : x = 0
  · subst h0
    rw [show ((0 : Int) == 0) = true from rfl, putR_true]
    exact ⟨filter_ok k h, fun j => filter_at k j s⟩
  · rw [show (x == 0) = false by simp [h0]]
    exact putR_ok hk.2 (by omega) (last := -1) (by omega) h

theorem put_storeL {v : List Int} (hv : ValsOk v) {w : Entry} (hk : 0 ≤ w.key ∧ w.key ≤ 31) (hx : 0 ≤ w.value ∧ w.value ≤ 1000000) : putD w.key w.value (w.value == 0) (storeL v) = storeL (putV v w) := by
  have hv2 : ValsOk (putV v w) := applyW_ok [w] v hv fun y hy => by rw [List.mem_singleton.1 hy]; exact ⟨hk, hx⟩
  obtain ⟨h1, h2⟩ := putD_ok hk hx (storeL_valid hv)
  refine store_ext (last := -1) h1 (storeL_valid hv2) fun j h3 h4 => ?_
  rw [h2 j, storeL_at hv j (by omega), storeL_at hv2 j (by omega)]
  unfold valK putV
  rw [List.getD_eq_getElem?_getD (l := v.set _ _), List.getElem?_set]
  by_cases hj : j = w.key
  · subst hj
    rw [if_pos rfl, if_pos rfl, if_pos (by rw [hv.1]; omega)]; rfl
  · rw [if_neg hj, if_neg (by omega), ← List.getD_eq_getElem?_getD]

/-- A store with entries put. -/
def applyS (s : List Entry) (ws : List Entry) : List Entry := ws.foldl (fun s w => putD w.key w.value (w.value == 0) s) s

theorem applyS_storeL : ∀ (ws : List Entry) {v : List Int}, ValsOk v → WritesOk ws → applyS (storeL v) ws = storeL (applyW v ws)
  | [], v, _, _ => rfl
  | w :: ws, v, hv, hw => by
    have h1 := hw w (List.mem_cons_self ..)
    show applyS (putD w.key w.value (w.value == 0) (storeL v)) ws = _
    rw [put_storeL hv h1.1 h1.2]
    exact applyS_storeL ws (applyW_ok [w] v hv fun y hy => by rw [List.mem_singleton.1 hy]; exact h1) fun y hy => hw y (List.mem_cons_of_mem _ hy)

end Go.Proofs.YtmibclbinebnjaaGreat

/- Contracts: the reference's serial runs. -/
set_option linter.unusedSimpArgs false
set_option linter.unusedVariables false
set_option maxRecDepth 20000
set_option maxHeartbeats 4000000
namespace Go.Proofs.YtmibclbinebnjaaGreat
open Go Go.RowKit

theorem storeAt_bd {s : List Entry} (h : storeValid s = true) (k : Int) : 0 ≤ valAt s k ∧ valAt s k ≤ 1000000 := by
  obtain ⟨h1, _⟩ := entOk_spec 1 s (-1) h
  exact valAt_bd (fun e he => by have := h1 e he; omega) k

/-- An action on a store. -/
def runAction (s : List Entry) (a : Action) : Effect := if storeValid s && actionValid a then runX a (valAt s a.fr) (valAt s a.to) else ⟨false, [], []⟩

theorem c_spec_RunAction (n1 : Option Bool) (s : List Entry) (a : Action) (hs : s.length < 2 ^ 32) : Det Tryz.prog 218 [.sl n1 (rows encE s), .agg (encA a)] (.agg (encFO (runAction s a))) := by
  refine fspec_det tab_ok Tryz.call218 Tryz.func218 rfl 24 Tryz.ntmps218 (of_decide_eq_true rfl) fun B => codeK_sound tab_ok _ _ _ ?_
  unfold runAction
  simp (config := { maxSteps := 4000000 }) only [go_sem, simprocAttr, ↓dnA, Tryz.f218, rows_length, encA]
  refine CallTo.det (c_spec_StoreValid n1 s (by omega)) fun _ => ?_
  cases h1 : storeValid s with
  | false => simp (config := { maxSteps := 4000000 }) only [go_sem, simprocAttr, ↓dnA, Tryz.f218, rows_length, encA, h1, encFO, rows_nil]
  | true =>
    simp (config := { maxSteps := 4000000 }) only [go_sem, simprocAttr, ↓dnA, Tryz.f218, rows_length, encA, h1]
    refine CallTo.det (c_spec_ActionValid a) fun _ => ?_
    cases h2 : actionValid a with
    | false => simp (config := { maxSteps := 4000000 }) only [go_sem, simprocAttr, ↓dnA, Tryz.f218, rows_length, encA, h1, h2, encFO, rows_nil]
    | true =>
      simp (config := { maxSteps := 4000000 }) only [go_sem, simprocAttr, ↓dnA, Tryz.f218, rows_length, encA, h1, h2]
      refine semL_draw tab_ok mixed_ rfl (ord := [(0, []), (1, []), (2, []), (3, []), (5, []), (6, []), (7, []), (4, [0, 5, 6, 7]), (8, [0]), (9, []), (10, [])]) (by dsimp only; decide +kernel) ?_
      simp (config := { maxSteps := 4000000 }) only [go_sem, simprocAttr, ↓dnA, Tryz.f218, rows_length, encA, h1, h2]
      refine CallTo.det (c_spec_l2At n1 s _ (by omega)) fun _ => ?_
      simp (config := { maxSteps := 4000000 }) only [go_sem, simprocAttr, ↓dnA, Tryz.f218, rows_length, encA, h1, h2]
      refine CallTo.det (c_spec_l2At n1 s _ (by omega)) fun _ => ?_
      simp (config := { maxSteps := 4000000 }) only [go_sem, simprocAttr, ↓dnA, Tryz.f218, rows_length, encA, h1, h2]
      refine CallTo.det (c_spec_l6Run a _ _ h2 (storeAt_bd h1 _) (storeAt_bd h1 _)) fun _ => ?_
      simp (config := { maxSteps := 4000000 }) only [go_sem, simprocAttr, ↓dnA, Tryz.f218, rows_length, encA, h1, h2, encFO]

/-- A store with an effect's entries put. -/
def applyEffect (s : List Entry) (ws : List Entry) : List Entry := if storeValid s && entOk 0 (-1) ws then applyS s ws else []

theorem applyS_take (s ws : List Entry) (i : Nat) (h : i < ws.length) : applyS s (ws.take (i + 1)) = putD ws[i].key ws[i].value (ws[i].value == 0) (applyS s (ws.take i)) := by
  unfold applyS
  rw [take_snoc _ _ h, List.foldl_append]
  rfl

theorem entOk_len {lo : Int} : ∀ {s : List Entry} {last : Int}, -1 ≤ last → entOk lo last s = true → s = [] ∨ (s.length : Int) ≤ 31 - last
  | [], _, _, _ => .inl rfl
  | e :: r, last, hl, h => by
    rw [entOk_cons] at h
    rcases entOk_len (by omega) h.2.2 with e1 | e1
    · subst e1; right; simp only [List.length_cons, List.length_nil]; omega
    · right; rw [List.length_cons]; omega
theorem store_len {s : List Entry} (h : storeValid s = true) : s.length ≤ 32 := by
  rcases entOk_len (by omega) h with e | e
  · subst e; simp
  · omega

theorem applyS_valid : ∀ (ws : List Entry) {s : List Entry}, storeValid s = true → WritesOk ws → storeValid (applyS s ws) = true
  | [], s, h, _ => h
  | w :: ws, s, h, hw => by
    have h1 := hw w (List.mem_cons_self ..)
    exact applyS_valid ws (putD_ok h1.1 h1.2 h).1 fun y hy => hw y (List.mem_cons_of_mem _ hy)

theorem c_spec_ApplyEffect (n1 n2 n3 : Option Bool) (s : List Entry) (e : Effect) (hs : s.length ≤ 32) (hw : e.writes.length ≤ 2 ^ 20) : Det Tryz.prog 219 [.sl n1 (rows encE s), .agg (encF n2 n3 e)] (.osl true 2 (rows encE (applyEffect s e.writes))) := by
  refine fspec_det tab_ok Tryz.call219 Tryz.func219 rfl 42 Tryz.ntmps219 (of_decide_eq_true rfl) fun B => codeK_sound tab_ok _ _ _ ?_
  unfold applyEffect
  simp (config := { maxSteps := 4000000 }) only [go_sem, simprocAttr, ↓dnA, Tryz.f219, rows_length, encF]
  refine CallTo.det (c_spec_StoreValid n1 s (by omega)) fun _ => ?_
  cases h1 : storeValid s with
  | false => simp (config := { maxSteps := 4000000 }) only [go_sem, simprocAttr, ↓dnA, Tryz.f219, rows_length, encF, h1, rows_nil]
  | true =>
    simp (config := { maxSteps := 4000000 }) only [go_sem, simprocAttr, ↓dnA, Tryz.f219, rows_length, encF, h1]
    refine CallTo.det (c_spec_l4Writes n3 e.writes (by omega)) fun _ => ?_
    cases h2 : entOk 0 (-1) e.writes with
    | false => simp (config := { maxSteps := 4000000 }) only [go_sem, simprocAttr, ↓dnA, Tryz.f219, rows_length, encF, h1, h2, rows_nil]
    | true =>
      have ha := all_rows encE AV.flat (fun _ => rfl) s
      have hb := all_rows encE AV.one (fun _ => rfl) s
      have hc := sz0_rows encE 2 (fun _ => rfl) s
      simp (config := { maxSteps := 4000000 }) only [go_sem, simprocAttr, ↓dnA, Tryz.f219, rows_length, encF, h1, h2]
      repeat refine And.intro (by first | omega | (simp; done) | (simp; omega) | assumption) ?_
      have hW : WritesOk e.writes := fun w hw => by have := (entOk_spec 0 e.writes (-1) h2).1 w hw; omega
      refine semL_for tab_ok (fun i : Nat => ⟨42, [(3, .loc 3 0), (5, .row 600 (applyS s (e.writes.take i)).length), (6, .int .i64 i)],
          [(3, .var [.bool e.done, .sl n2 (rows encE e.reads), .sl n3 (rows encE e.writes)]), (600, .row true true 2 (rows encE (applyS s (e.writes.take i))))]⟩) (fun i => e.writes.length - i)
        (fun i => i ≤ e.writes.length) 0 [(3, 3), (19, 600)] (Weak.of (by rfl) ?_ ?_ (by rfl)) (by omega) ?_
      · simp (config := { maxSteps := 4000000 }) only [go_sem, simprocAttr, ↓dnA, Tryz.f219, rows_length, encF, frW, wk2, wk1, wkL, wkB, hpW, List.mem_cons, Prod.mk.injEq, exists_eq_left, exists_eq_right, exists_eq]
        rfl
      · simp (config := { maxSteps := 4000000 }) only [go_sem, simprocAttr, ↓dnA, Tryz.f219, rows_length, encF, frW, wk2, wk1, wkL, wkB, hpW, List.mem_cons, Prod.mk.injEq, exists_eq_left, exists_eq_right, exists_eq]
        rfl
      · rintro i hi
        by_cases h : i < e.writes.length
        · have hv := applyS_valid (e.writes.take i) h1 fun w hw => hW w (List.mem_of_mem_take hw)
          have hl := store_len hv
          have hst := applyS_take s e.writes i h
          have hw : IntKind.i64.wrap ((i : Int) + 1) = ((i + 1 : Nat) : Int) := wsucc h (by omega)
          generalize applyS s (e.writes.take i) = u at hl hst
          have htk : (rows encE u).take u.length = rows encE u := by rw [List.take_of_length_le]; rw [rows_length]; omega
          simp (config := { maxSteps := 4000000 }) only [go_sem, simprocAttr, ↓dnA, Tryz.f219, rows_length, nlt h, h, rows_get _ _ _ h, encE, nn0]
          refine semL_drawL tab_ok 14 mixed_ rfl (ord := [(0, []), (1, []), (2, []), (3, []), (4, []), (5, []), (6, []), (7, []), (8, []), (9, []), (10, []), (11, []), (12, []), (13, [])]) (by dsimp only; decide +kernel) ?_
          simp (config := { maxSteps := 4000000 }) only [go_sem, simprocAttr, ↓dnA, Tryz.f219, rows_length, nlt h, h, rows_get _ _ _ h, encE, nn0, htk, hw]
          repeat refine And.intro (by first | omega | (simp; done) | (simp; omega) | assumption) ?_
          refine CallTo.det (c_spec_l2Put _ u _ _ (by omega)) fun _ => ?_
          simp (config := { maxSteps := 4000000 }) only [go_sem, simprocAttr, ↓dnA, Tryz.f219, rows_length, nlt h, h, rows_get _ _ _ h, encE, nn0, htk, hw]
          refine ⟨i + 1, [(3, 3), (41000, 600)], by omega, by dsimp only; omega, Weak.of (by rfl) ?_ ?_ (by rfl)⟩
          · simp (config := { maxSteps := 4000000 }) only [go_sem, simprocAttr, ↓dnA, Tryz.f219, rows_length, hst, frW, wk2, wk1, wkL, wkB, hpW, List.mem_cons, Prod.mk.injEq, exists_eq_left, exists_eq_right, exists_eq]
          · simp (config := { maxSteps := 4000000 }) only [go_sem, simprocAttr, ↓dnA, Tryz.f219, rows_length, hst, frW, wk2, wk1, wkL, wkB, hpW, List.mem_cons, Prod.mk.injEq, exists_eq_left, exists_eq_right, exists_eq]
        · have hi' : i = e.writes.length := by omega
          subst hi'
          simp (config := { maxSteps := 4000000 }) only [go_sem, simprocAttr, ↓dnA, Tryz.f219, rows_length, nlf h, List.take_length]

theorem writesOk_ent {ws : List Entry} (h : entOk 0 (-1) ws = true) : WritesOk ws := fun w hw => by have := (entOk_spec 0 ws (-1) h).1 w hw; omega

theorem runE_ent {a : Action} {v : List Int} (ha : ActOk a) (hv : ValsOk v) : entOk 0 (-1) (runE a v).writes = true := by
  have hW := runE_writesOk ha hv
  have hs : ∀ k x : Int, (⟨k, x⟩ : Entry) ∈ (runE a v).writes → (-1 < k ∧ k ≤ 31) ∧ 0 ≤ x ∧ x ≤ 1000000 := fun k x h => by have := hW _ h; dsimp only at this; omega
  have hfr := ha.fr
  have hto := ha.to
  unfold runE at hs ⊢
  dsimp only at hs ⊢
  split
  · rename_i hd
    rw [if_pos hd] at hs
    unfold writesA at hs ⊢
    split
    · rename_i hk
      rw [if_pos hk] at hs
      rw [List.map_cons, List.map_nil] at hs ⊢
      rw [entOk_cons]
      have := hs _ _ (List.mem_cons_self ..)
      exact ⟨this.1, this.2, rfl⟩
    · rename_i hk
      rw [if_neg hk] at hs
      split
      · rename_i hk2
        rw [if_pos hk2] at hs
        rw [List.map_cons, List.map_nil] at hs ⊢
        rw [entOk_cons]
        have := hs _ _ (List.mem_cons_self ..)
        exact ⟨this.1, this.2, rfl⟩
      · rename_i hk2
        rw [if_neg hk2] at hs
        rw [List.map_cons, List.map_cons, List.map_nil] at hs ⊢
        rw [entOk_cons, entOk_cons]
        have h1 := hs _ _ (List.mem_cons_self ..)
        have h2 := hs _ _ (List.mem_cons_of_mem _ (List.mem_cons_self ..))
        exact ⟨h1.1, h1.2, ⟨by dsimp only; omega, h2.1.2⟩, h2.2, rfl⟩
  · rfl

theorem runAction_eq {a : Action} {u : List Int} (ha : actionValid a = true) (hu : ValsOk u) : runAction (storeL u) a = runE a u := by
  have hA := actOk_of ha
  have hfr := hA.fr
  have hto := hA.to
  unfold runAction
  rw [storeL_valid hu, ha, Bool.true_and, if_pos rfl, runE_eq, storeL_at hu _ hfr.1, storeL_at hu _ hto.1]

theorem applyEffect_eq {a : Action} {u : List Int} (ha : actionValid a = true) (hu : ValsOk u) : applyEffect (storeL u) (runE a u).writes = storeL (applyW u (runE a u).writes) := by
  unfold applyEffect
  rw [storeL_valid hu, runE_ent (actOk_of ha) hu, Bool.true_and, if_pos rfl]
  exact applyS_storeL _ hu (runE_writesOk (actOk_of ha) hu)

theorem runE_wlen (a : Action) (v : List Int) : (runE a v).writes.length ≤ 2 := by
  unfold runE
  dsimp only
  split
  · rw [List.length_map]; exact writesA_len _
  · simp

theorem c_spec_RunSerial (n1 n2 : Option Bool) (s : List Entry) (l : List Action) (hs : s.length < 2 ^ 32) (hl : l.length < 2 ^ 32) :
    Det Tryz.prog 197 [.sl n1 (rows encE s), .sl n2 (rows encA l)] (.tup [.osl true 2 (rows encE (runSerial s l).1), .osl true 3 (rows encF1 (runSerial s l).2)]) := by
  refine fspec_det tab_ok Tryz.call197 Tryz.func197 rfl 45 Tryz.ntmps197 (of_decide_eq_true rfl) fun B => codeK_sound tab_ok _ _ _ ?_
  unfold runSerial
  simp (config := { maxSteps := 4000000 }) only [go_sem, simprocAttr, ↓dnA, Tryz.f197, rows_length]
  refine CallTo.det (c_spec_StoreValid n1 s (by omega)) fun _ => ?_
  cases h1 : storeValid s with
  | false => simp (config := { maxSteps := 4000000 }) only [go_sem, simprocAttr, ↓dnA, Tryz.f197, rows_length, h1, rows_nil]
  | true =>
    simp (config := { maxSteps := 4000000 }) only [go_sem, simprocAttr, ↓dnA, Tryz.f197, rows_length, h1]
    refine CallTo.det (c_spec_ActionsValid n2 l (by omega)) fun _ => ?_
    cases h2 : actionsValid l with
    | false => simp (config := { maxSteps := 4000000 }) only [go_sem, simprocAttr, ↓dnA, Tryz.f197, rows_length, h1, h2, rows_nil]
    | true =>
      obtain ⟨ha, h10⟩ := actionsValid_ok h2
      have hav : ∀ a, a ∈ l → actionValid a = true := by
        unfold actionsValid at h2
        rw [Bool.and_eq_true] at h2
        exact fun a h => List.all_eq_true.1 h2.2 a h
      have hV := valuesL_ok h1
      have hsv := storeL_values h1
      have hsl := store_len h1
      have b1 := all_rows encE AV.flat (fun _ => rfl) s
      have b2 := all_rows encE AV.one (fun _ => rfl) s
      have b3 := sz0_rows encE 2 (fun _ => rfl) s
      simp (config := { maxSteps := 4000000 }) only [go_sem, simprocAttr, ↓dnA, Tryz.f197, rows_length, h1, h2]
      repeat refine And.intro (by first | omega | (simp; done) | (simp; omega) | assumption) ?_
      refine semL_for tab_ok (fun i : Nat => ⟨45, [(0, .sl n1 (rows encE s)), (1, .sl n2 (rows encA l)), (6, .row 601 i), (7, .row 600 (storeL (runAllE (valuesL s) (l.take i)).1).length), (8, .int .i64 i)],
          [(600, .row true true 2 (rows encE (storeL (runAllE (valuesL s) (l.take i)).1))), (601, .row true true 3 (rows encF1 (runAllE (valuesL s) (l.take i)).2))]⟩) (fun i => l.length - i)
        (fun i => i ≤ l.length) 0 [(23, 600), (10, 601)] (Weak.of (by rfl) ?_ ?_ (by rfl)) (by omega) ?_
      · simp (config := { maxSteps := 4000000 }) only [go_sem, simprocAttr, ↓dnA, Tryz.f197, rows_length, frW, wk2, wk1, wkL, wkB, hpW, List.mem_cons, Prod.mk.injEq, exists_eq_left, exists_eq_right, exists_eq]
        exact ⟨congrArg (rows encE) hsv, rfl⟩
      · simp (config := { maxSteps := 4000000 }) only [go_sem, simprocAttr, ↓dnA, Tryz.f197, rows_length, frW, wk2, wk1, wkL, wkB, hpW, List.mem_cons, Prod.mk.injEq, exists_eq_left, exists_eq_right, exists_eq]
        exact congrArg (fun x : List Entry => AV.row 23 x.length) hsv.symm
      · rintro i hi
        obtain ⟨hU, hL⟩ := runAllE_ok ha hV i hi
        by_cases h : i < l.length
        · have hst := runAllE_take (valuesL s) l i h
          generalize hp : runAllE (valuesL s) (l.take i) = p at hU hL hst
          obtain ⟨u, es⟩ := p
          dsimp only at hU hL
          have hai := hav _ (List.getElem_mem h)
          have hul := store_len (storeL_valid hU)
          have htk : (rows encE (storeL u)).take (storeL u).length = rows encE (storeL u) := by rw [List.take_of_length_le]; rw [rows_length]; omega
          have hte : (rows encF1 es).take i = rows encF1 es := by rw [List.take_of_length_le]; rw [rows_length, hL]; omega
          have hw : IntKind.i64.wrap ((i : Int) + 1) = ((i + 1 : Nat) : Int) := wsucc h (by omega)
          have hW := runE_wlen l[i] u
          simp (config := { maxSteps := 4000000 }) only [go_sem, simprocAttr, ↓dnA, Tryz.f197, rows_length, nlt h, h, hp, rows_get _ _ _ h, encA, nn0, htk]
          repeat refine And.intro (by first | omega | (simp; done) | (simp; omega) | assumption) ?_
          refine CallTo.det (c_spec_RunAction _ (storeL u) l[i] (by omega)) fun _ => ?_
          rw [runAction_eq hai hU]
          have he := applyEffect_eq hai hU
          have hee : encF1 (runE l[i] u) = [.bool (runE l[i] u).done, .sl none (rows encE (runE l[i] u).reads), .sl none (rows encE (runE l[i] u).writes)] := rfl
          have hs2 : runAllE (valuesL s) (l.take (i + 1)) = (applyW u (runE l[i] u).writes, es ++ [runE l[i] u]) := by rw [hst]; rfl
          generalize runE l[i] u = r at hs2 hW he hee
          simp (config := { maxSteps := 4000000 }) only [go_sem, simprocAttr, ↓dnA, Tryz.f197, rows_length, nlt h, h, hp, rows_get _ _ _ h, encA, encFO, nn0, htk]
          refine CallTo.det (c_spec_ApplyEffect _ none none (storeL u) r hul (by omega)) fun _ => ?_
          rw [he]
          simp (config := { maxSteps := 4000000 }) only [go_sem, simprocAttr, ↓dnA, Tryz.f197, rows_length, nlt h, h, hp, rows_get _ _ _ h, encA, encFO, nn0, htk, hte, hL, hw]
          repeat refine And.intro (by first | omega | (simp; done) | (simp; omega) | assumption) ?_
          refine ⟨i + 1, [(39000, 600), (42, 601)], by omega, by dsimp only; omega, Weak.of (by rfl) ?_ ?_ (by rfl)⟩
          · simp (config := { maxSteps := 4000000 }) only [go_sem, simprocAttr, ↓dnA, Tryz.f197, rows_length, hs2, ← rows_snoc, hee, frW, wk2, wk1, wkL, wkB, hpW, List.mem_cons, Prod.mk.injEq, exists_eq_left, exists_eq_right, exists_eq]
          · simp (config := { maxSteps := 4000000 }) only [go_sem, simprocAttr, ↓dnA, Tryz.f197, rows_length, hs2, frW, wk2, wk1, wkL, wkB, hpW, List.mem_cons, Prod.mk.injEq, exists_eq_left, exists_eq_right, exists_eq]
        · have hi' : i = l.length := by omega
          subst hi'
          rw [List.take_length] at hL
          simp (config := { maxSteps := 4000000 }) only [go_sem, simprocAttr, ↓dnA, Tryz.f197, rows_length, nlf h, List.take_length]
          exact hL.symm

end Go.Proofs.YtmibclbinebnjaaGreat

/- Contracts: trees of one store, their copies, the values behind a block. -/
set_option linter.unusedSimpArgs false
set_option linter.unusedVariables false
set_option maxRecDepth 20000
set_option maxHeartbeats 4000000
namespace Go.Proofs.YtmibclbinebnjaaGreat
open Go Go.RowKit

def treeOf (s : List Entry) : Tree := if storeValid s then ⟨s, [firstBlock s], [-1]⟩ else ⟨[], [], []⟩

def encBk0 (b : Block) : List AV := [.int .i64 b.before, .int .i64 b.height, .int .i64 b.view, .sl (some false) [], .int .i64 b.root, .int .i64 b.effects]
theorem c_impl_FirstBlock0 (n1 : Option Bool) (s : List Entry) (hx : s.length < 2 ^ 62) : Det Tryz.prog 162 [.sl n1 (rows encE s)] (.agg (encBk0 (firstBlock s))) := by
  refine fspec_det tab_ok Tryz.call162 Tryz.func162 rfl 11 Tryz.ntmps162 (of_decide_eq_true rfl) fun B => codeK_sound tab_ok _ _ _ ?_
  simp (config := { maxSteps := 4000000 }) only [go_sem, simprocAttr, ↓dnA, Tryz.f162, rows_length]
  refine CallTo.det (c_impl_StoreValid _ _ hx) fun _ => ?_
  cases h : storeValid s with
  | false => simp (config := { maxSteps := 4000000 }) only [go_sem, simprocAttr, ↓dnA, Tryz.f162, rows_length, h, firstBlock, encBk0]
  | true =>
    simp (config := { maxSteps := 4000000 }) only [go_sem, simprocAttr, ↓dnA, Tryz.f162, rows_length, h]
    refine CallTo.det (c_impl_RootOf _ _ hx) fun _ => ?_
    simp (config := { maxSteps := 4000000 }) only [go_sem, simprocAttr, ↓dnA, Tryz.f162, rows_length, h]
    refine CallTo.det (c_impl_EffectsSum0 _) fun _ => ?_
    simp (config := { maxSteps := 4000000 }) only [go_sem, simprocAttr, ↓dnA, Tryz.f162, rows_length, h, firstBlock, encBk0]


/-- The values behind the blocks of a way. -/
def wayV (t : Tree) (v : List Int) (p : List Int) : List Int := p.foldl (fun v i => (runAllE v (t.blk i.toNat).list).1) v
def afterV (t : Tree) (n : Int) : List Int := wayV t (valuesL t.base) (pathL t n)
def storeAt (t : Tree) (n : Int) : List Entry := storeL (afterV t n)

theorem blk_acts {t : Tree} (ht : TreeOk t) {i : Nat} (hi : i < t.blocks.length) : (∀ a, a ∈ (t.blk i).list → ActOk a) ∧ (t.blk i).list.length ≤ 10 ∧ actionsValid (t.blk i).list = true := by
  have h := ht.valid i hi
  unfold blockValid at h
  rw [Bool.and_eq_true] at h
  have := actionsValid_ok h.2
  exact ⟨this.1, this.2, h.2⟩

theorem runAllE_valsOk {v : List Int} {l : List Action} (hl : ∀ a, a ∈ l → ActOk a) (hv : ValsOk v) : ValsOk (runAllE v l).1 := by
  have := runAllE_ok hl hv l.length (Nat.le_refl _)
  rw [List.take_length] at this
  exact this.1

theorem wayV_ok {t : Tree} (ht : TreeOk t) : ∀ (p : List Int) {v : List Int}, (∀ x, x ∈ p → 0 ≤ x ∧ x < t.blocks.length) → ValsOk v → ValsOk (wayV t v p)
  | [], v, _, hv => hv
  | x :: p, v, hp, hv => by
    have hx := hp x (List.mem_cons_self ..)
    exact wayV_ok ht p (fun y hy => hp y (List.mem_cons_of_mem _ hy)) (runAllE_valsOk (blk_acts ht (i := x.toNat) (by omega)).1 hv)

theorem wayV_take (t : Tree) (v : List Int) (p : List Int) (i : Nat) (h : i < p.length) : wayV t v (p.take (i + 1)) = (runAllE (wayV t v (p.take i)) (t.blk p[i].toNat).list).1 := by
  unfold wayV
  rw [take_snoc _ _ h, List.foldl_append]
  rfl

theorem c_impl_after (n1 n2 n3 : Option Bool) (t : Tree) (n : Int) (ht : TreeOk t) (hx : TreeSz t) (hn : n < t.blocks.length) :
    Det Tryz.prog 203 [.agg (encT n1 n2 n3 t), .int .i64 n] (.agg (cellsI (afterV t n))) := by
  refine fspec_det tab_ok Tryz.call203 Tryz.func203 rfl 32 Tryz.ntmps203 (of_decide_eq_true rfl) fun B => codeK_sound tab_ok _ _ _ ?_
  have hV := valuesL_ok ht.store
  have cl : (cellsI (valuesL t.base)).length = 32 := by rw [cellsI_length, hV.1]
  have hcv : (cellsI (valuesL t.base)).take 32 = cellsI (valuesL t.base) := cellsI_take _ 32 hV.1
  obtain ⟨h3, h4⟩ := entOk_spec 1 t.base (-1) ht.store
  simp (config := { maxSteps := 4000000 }) only [go_sem, simprocAttr, ↓dnA, Tryz.f203, rows_length, cellsI_impL, cellsI_impLB, encT]
  refine CallTo.det (c_impl_valuesOf n1 t.base hx.base (fun e he => by have := h3 e he; omega)) fun _ => ?_
  simp (config := { maxSteps := 4000000 }) only [go_sem, simprocAttr, ↓dnA, Tryz.f203, rows_length, cellsI_impL, cellsI_impLB, encT, cl, hcv, cellsI_one, cellsI_exp]
  repeat refine And.intro (by first | omega | (simp; done) | (simp; omega) | assumption) ?_
  refine CallTo.det (c_impl_path n1 n2 n3 t n ht hx hn) fun _ => ?_
  have hpl := pathL_len ht hn
  have hpb := pathL_bd ht hn
  have hres : afterV t n = wayV t (valuesL t.base) (pathL t n) := rfl
  rw [hres]
  generalize pathL t n = p at hpl hpb
  simp (config := { maxSteps := 4000000 }) only [go_sem, simprocAttr, ↓dnA, Tryz.f203, rows_length, cellsI_impL, cellsI_impLB, encT, cl, hcv]
  refine semL_for tab_ok (fun i : Nat => ⟨32, [(2, .loc 2 0), (4, .loc 4 0), (5, .loc 5 0), (13, .row 14000 p.length), (14, .int .i64 p.length), (15, .int .i64 i)],
      [(14000, .row true false 1 (rows encI p)), (2, .var (encT n1 n2 n3 t)), (4, .var (cellsI zeros32)), (5, .var (cellsI (wayV t (valuesL t.base) (p.take i))))]⟩) (fun i => p.length - i)
    (fun i => i ≤ p.length) 0 [(2, 2), (4, 4), (5, 5), (14000, 14000)] (Weak.of (by rfl) ?_ ?_ (by rfl)) (by omega) ?_
  · simp (config := { maxSteps := 4000000 }) only [go_sem, simprocAttr, ↓dnA, Tryz.f203, rows_length, cellsI_impL, cellsI_impLB, encT, frW, wk2, wk1, wkL, wkB, hpW, List.mem_cons, Prod.mk.injEq, exists_eq_left, exists_eq_right, exists_eq]
    exact ⟨of_eq_true (cellsI_wk _ zeros32), of_eq_true (cellsI_wk _ (valuesL t.base))⟩
  · simp (config := { maxSteps := 4000000 }) only [go_sem, simprocAttr, ↓dnA, Tryz.f203, rows_length, cellsI_impL, cellsI_impLB, encT, frW, wk2, wk1, wkL, wkB, hpW, List.mem_cons, Prod.mk.injEq, exists_eq_left, exists_eq_right, exists_eq]
  · rintro i hi
    have hU := wayV_ok ht (p.take i) (fun x hx => by have := hpb x (List.mem_of_mem_take hx); omega) hV
    have cu : (cellsI (wayV t (valuesL t.base) (p.take i))).length = 32 := by rw [cellsI_length, hU.1]
    have hcu : (cellsI (wayV t (valuesL t.base) (p.take i))).take 32 = cellsI (wayV t (valuesL t.base) (p.take i)) := cellsI_take _ 32 hU.1
    by_cases h : i < p.length
    · have hb := hpb _ (List.getElem_mem h)
      have hst := wayV_take t (valuesL t.base) p i h
      have hw : IntKind.i64.wrap ((i : Int) + 1) = ((i + 1 : Nat) : Int) := wsucc h (by omega)
      generalize wayV t (valuesL t.base) (p.take i) = u at hU cu hcu hst
      obtain ⟨k, hk⟩ : ∃ k : Nat, p[i] = (k : Int) := ⟨p[i].toNat, by omega⟩
      have hkl : k < t.blocks.length := by omega
      have hbk := t.blk_get k hkl
      obtain ⟨b1, b2, b3⟩ := blk_acts ht hkl
      have hr := runAllE_valsOk b1 hU
      rw [hk, Int.toNat_natCast] at hst
      simp (config := { maxSteps := 4000000 }) only [go_sem, simprocAttr, ↓dnA, Tryz.f203, rows_length, cellsI_impL, cellsI_impLB, nlt h, h, rows_get _ _ _ h, encI, hk, encT, nn0, hw, cu, hcu]
      refine semL_draw tab_ok mixed_ rfl (ord := [(0, []), (1, []), (2, []), (3, []), (4, []), (5, []), (6, []), (7, []), (8, []), (9, []), (10, []), (11, [10])]) (by dsimp only; decide +kernel) ?_
      simp (config := { maxSteps := 4000000 }) only [go_sem, simprocAttr, ↓dnA, Tryz.f203, rows_length, cellsI_impL, cellsI_impLB, nlt hkl, hkl, rows_get _ _ _ hkl, hbk, encB1, encBk, encT, nn0, hw, cu, hcu, cellsI_noT, cellsI_argL]
      refine CallTo.det (c_impl_runAll none u (t.blk k).list b1 b2 hU) fun _ => ?_
      generalize runAllE u (t.blk k).list = r at hr hst
      have cr : (cellsI r.1).length = 32 := by rw [cellsI_length, hr.1]
      have hcr : (cellsI r.1).take 32 = cellsI r.1 := cellsI_take _ 32 hr.1
      simp (config := { maxSteps := 4000000 }) only [go_sem, simprocAttr, ↓dnA, Tryz.f203, rows_length, cellsI_impL, cellsI_impLB, encT, nn0, hw, cu, hcu, cr, hcr, cellsI_noT, cellsI_argL, cellsI_one, cellsI_exp]
      repeat refine And.intro (by first | omega | (simp; done) | (simp; omega) | assumption) ?_
      refine ⟨i + 1, [(2, 2), (4, 4), (5, 5), (14000, 14000)], by omega, by dsimp only; omega, Weak.of (by rfl) ?_ ?_ (by rfl)⟩
      · simp (config := { maxSteps := 4000000 }) only [go_sem, simprocAttr, ↓dnA, Tryz.f203, rows_length, cellsI_impL, cellsI_impLB, encT, hst, frW, wk2, wk1, wkL, wkB, hpW, List.mem_cons, Prod.mk.injEq, exists_eq_left, exists_eq_right, exists_eq]
        exact ⟨of_eq_true (cellsI_wk _ zeros32), of_eq_true (cellsI_wk _ r.1)⟩
      · simp (config := { maxSteps := 4000000 }) only [go_sem, simprocAttr, ↓dnA, Tryz.f203, rows_length, cellsI_impL, cellsI_impLB, encT, frW, wk2, wk1, wkL, wkB, hpW, List.mem_cons, Prod.mk.injEq, exists_eq_left, exists_eq_right, exists_eq]
    · have hi' : i = p.length := by omega
      subst hi'
      rw [List.take_length] at cu hcu
      have cz : (cellsI zeros32).length = 32 := rfl
      simp (config := { maxSteps := 4000000 }) only [go_sem, simprocAttr, ↓dnA, Tryz.f203, rows_length, cellsI_impL, cellsI_impLB, nlf h, List.take_length, cu, hcu, cz, cellsI_exp, cellsI_rw, cellsI_one]


/-- The store behind a block of a tree; none where there is no such block. -/
noncomputable def storeOf (t : Tree) (n : Int) : List Entry := if treeValid t && inB n 0 ((t.blocks.length : Int) - 1) then storeAt t n else []

theorem afterV_ok {t : Tree} (ht : TreeOk t) {n : Int} (hn : n < t.blocks.length) : ValsOk (afterV t n) :=
  wayV_ok ht _ (fun x hx => by have := pathL_bd ht hn x hx; omega) (valuesL_ok ht.store)

theorem c_impl_StoreOf (n1 n2 n3 : Option Bool) (t : Tree) (n : Int) (hx : TreeSz t) :
    Det Tryz.prog 151 [.agg (encT n1 n2 n3 t), .int .i64 n] (.osl false 2 (rows encE (storeOf t n))) := by
  refine fspec_det tab_ok Tryz.call151 Tryz.func151 rfl 18 Tryz.ntmps151 (of_decide_eq_true rfl) fun B => codeK_sound tab_ok _ _ _ ?_
  unfold storeOf
  simp (config := { maxSteps := 4000000 }) only [go_sem, simprocAttr, ↓dnA, Tryz.f151, rows_length, cellsI_impL, cellsI_impLB, encT]
  refine CallTo.det (c_impl_BlockTreeValid n1 n2 n3 t hx) fun _ => ?_
  cases h1 : treeValid t with
  | false => simp (config := { maxSteps := 4000000 }) only [go_sem, simprocAttr, ↓dnA, Tryz.f151, rows_length, cellsI_impL, cellsI_impLB, encT, h1, rows_nil]
  | true =>
    simp (config := { maxSteps := 4000000 }) only [go_sem, simprocAttr, ↓dnA, Tryz.f151, rows_length, cellsI_impL, cellsI_impLB, encT, h1]
    refine CallTo.det (c_impl_has n1 n2 n3 t n hx) fun _ => ?_
    cases h2 : inB n 0 ((t.blocks.length : Int) - 1) with
    | false => simp (config := { maxSteps := 4000000 }) only [go_sem, simprocAttr, ↓dnA, Tryz.f151, rows_length, cellsI_impL, cellsI_impLB, encT, h1, h2, rows_nil]
    | true =>
      have hb := inB_iff.1 h2
      have ht := treeOk_of h1
      have hV := afterV_ok ht (n := n) (by omega)
      have cu : (cellsI (afterV t n)).length = 32 := by rw [cellsI_length, hV.1]
      have hcu : (cellsI (afterV t n)).take 32 = cellsI (afterV t n) := cellsI_take _ 32 hV.1
      simp (config := { maxSteps := 4000000 }) only [go_sem, simprocAttr, ↓dnA, Tryz.f151, rows_length, cellsI_impL, cellsI_impLB, encT, h1, h2]
      refine CallTo.det (c_impl_after n1 n2 n3 t n ht hx (by omega)) fun _ => ?_
      simp (config := { maxSteps := 4000000 }) only [go_sem, simprocAttr, ↓dnA, Tryz.f151, rows_length, cellsI_impL, cellsI_impLB, encT, h1, h2, cu, hcu, cellsI_noT, cellsI_argL]
      refine CallTo.det (c_impl_store (afterV t n) hV) fun _ => ?_
      simp (config := { maxSteps := 4000000 }) only [go_sem, simprocAttr, ↓dnA, Tryz.f151, rows_length, cellsI_impL, cellsI_impLB, encT, h1, h2, storeAt]

end Go.Proofs.YtmibclbinebnjaaGreat

/- Contracts: the reference's store behind a block. -/
set_option linter.unusedSimpArgs false
set_option linter.unusedVariables false
set_option maxRecDepth 20000
set_option maxHeartbeats 4000000
namespace Go.Proofs.YtmibclbinebnjaaGreat
open Go Go.RowKit

theorem values_storeL {v : List Int} (h : ValsOk v) : valuesL (storeL v) = v := by
  have hs := storeL_valid h
  apply List.ext_getElem?
  intro k
  by_cases hk : k < 32
  · obtain ⟨h1, h2⟩ := valuesL_get hs k hk
    have h3 := storeL_at h (k : Int) (by omega)
    rw [← h2] at h3
    unfold valK at h3
    rw [Int.toNat_natCast] at h3
    rw [List.getElem?_eq_getElem (by rw [h1]; exact hk), List.getElem?_eq_getElem (by rw [h.1]; exact hk)]
    rw [List.getD_eq_getElem?_getD, List.getD_eq_getElem?_getD, List.getElem?_eq_getElem (by rw [h1]; exact hk), List.getElem?_eq_getElem (by rw [h.1]; exact hk)] at h3
    exact congrArg some h3
  · have h1 := (valuesL_get hs 0 (by omega)).1
    rw [List.getElem?_eq_none (by rw [h1]; omega), List.getElem?_eq_none (by rw [h.1]; omega)]

theorem runSerial_storeL {v : List Int} {l : List Action} (h : ValsOk v) (hl : actionsValid l = true) : (runSerial (storeL v) l).1 = storeL (runAllE v l).1 := by
  unfold runSerial
  rw [storeL_valid h, hl, values_storeL h]
  rfl

theorem c_spec_StoreOf (n1 n2 n3 : Option Bool) (t : Tree) (n : Int) (hx : TreeS32 t) :
    Det Tryz.prog 146 [.agg (encT n1 n2 n3 t), .int .i64 n] (.osl false 2 (rows encE (storeOf t n))) := by
  refine fspec_det tab_ok Tryz.call146 Tryz.func146 rfl 43 Tryz.ntmps146 (of_decide_eq_true rfl) fun B => codeK_sound tab_ok _ _ _ ?_
  have hpn := pathTo_len t n
  simp (config := { maxSteps := 4000000 }) only [go_sem, simprocAttr, ↓dnA, Tryz.f146, rows_length, encT]
  refine CallTo.det (c_spec_PathTo n1 n2 n3 t n hx.sz) fun _ => ?_
  by_cases hok : treeValid t = true ∧ 0 ≤ n ∧ n < t.blocks.length
  · obtain ⟨h0, hn0, hn⟩ := hok
    have ht := treeOk_of h0
    have hp0 : pathTo t n = pathL t n := pathTo_in h0 hn0 hn
    have hso : storeOf t n = storeL (wayV t (valuesL t.base) (pathL t n)) := by
      unfold storeOf
      rw [h0, inB_iff.2 (by omega)]
      rfl
    have hbd := pathL_bd ht hn
    have hpl := pathL_len ht hn
    have hpos : 0 < (pathL t n).length := by
      unfold pathL
      obtain ⟨k, rfl⟩ : ∃ k : Nat, n = (k : Int) := ⟨n.toNat, by omega⟩
      rw [List.length_reverse, (back_cons ht k (by omega)).1, List.length_cons]
      omega
    rw [hp0, hso]
    generalize pathL t n = p at hbd hpl hpos
    have hV := valuesL_ok ht.store
    have hsv := storeL_values ht.store
    have hsl := store_len ht.store
    have b1 := all_rows encE AV.flat (fun _ => rfl) t.base
    have b2 := all_rows encE AV.one (fun _ => rfl) t.base
    have b3 := sz0_rows encE 2 (fun _ => rfl) t.base
    have hgt : decide ((p.length : Int) > 0) = true := by simp; omega
    simp (config := { maxSteps := 4000000 }) only [go_sem, simprocAttr, ↓dnA, Tryz.f146, rows_length, encT, hgt]
    repeat refine And.intro (by first | omega | (simp; done) | (simp; omega) | assumption) ?_
    refine semL_for tab_ok (fun i : Nat => ⟨43, [(2, .loc 2 0), (5, .row 13000 p.length), (6, .row 600 (storeL (wayV t (valuesL t.base) (p.take i))).length), (7, .int .i64 i)],
        [(2, .var (encT n1 n2 n3 t)), (13000, .row true true 1 (rows encI p)), (600, .row true true 2 (rows encE (storeL (wayV t (valuesL t.base) (p.take i)))))]⟩) (fun i => p.length - i)
      (fun i => i ≤ p.length) 0 [(2, 2), (13000, 13000), (20, 600)] (Weak.of (by rfl) ?_ ?_ (by rfl)) (by omega) ?_
    · simp (config := { maxSteps := 4000000 }) only [go_sem, simprocAttr, ↓dnA, Tryz.f146, rows_length, encT, frW, wk2, wk1, wkL, wkB, hpW, List.mem_cons, Prod.mk.injEq, exists_eq_left, exists_eq_right, exists_eq]
      exact congrArg (rows encE) hsv
    · simp (config := { maxSteps := 4000000 }) only [go_sem, simprocAttr, ↓dnA, Tryz.f146, rows_length, frW, wk2, wk1, wkL, wkB, hpW, List.mem_cons, Prod.mk.injEq, exists_eq_left, exists_eq_right, exists_eq]
      exact congrArg (fun x : List Entry => AV.row 20 x.length) hsv.symm
    · rintro i hi
      have hU := wayV_ok ht (p.take i) (fun x hx => by have := hbd x (List.mem_of_mem_take hx); omega) hV
      by_cases h : i < p.length
      · have hb := hbd _ (List.getElem_mem h)
        have hst := wayV_take t (valuesL t.base) p i h
        have hw : IntKind.i64.wrap ((i : Int) + 1) = ((i + 1 : Nat) : Int) := wsucc h (by omega)
        generalize wayV t (valuesL t.base) (p.take i) = u at hU hst
        obtain ⟨k, hk⟩ : ∃ k : Nat, p[i] = (k : Int) := ⟨p[i].toNat, by omega⟩
        have hkl : k < t.blocks.length := by omega
        have hbk := t.blk_get k hkl
        obtain ⟨a1, a2, a3⟩ := blk_acts ht hkl
        have hul := store_len (storeL_valid hU)
        rw [hk, Int.toNat_natCast] at hst
        simp (config := { maxSteps := 4000000 }) only [go_sem, simprocAttr, ↓dnA, Tryz.f146, rows_length, encT, nlt h, h, rows_get _ _ _ h, encI, hk, nn0]
        refine semL_draw tab_ok mixed_ rfl (ord := [(0, []), (1, []), (2, []), (3, []), (4, []), (5, []), (6, []), (7, []), (8, []), (9, []), (10, []), (11, []), (12, []), (13, []), (14, []), (15, [])]) (by dsimp only; decide +kernel) ?_
        simp (config := { maxSteps := 4000000 }) only [go_sem, simprocAttr, ↓dnA, Tryz.f146, rows_length, encT, nlt h, h, rows_get _ _ _ h, encI, hk, nn0, nlt hkl, hkl, rows_get _ _ _ hkl, hbk, encB1, encBk]
        refine CallTo.det (c_spec_RunSerial _ none (storeL u) (t.blk k).list (by omega) (by omega)) fun _ => ?_
        have hrs := runSerial_storeL hU a3
        rw [← hst] at hrs
        generalize runSerial (storeL u) (t.blk k).list = r at hrs
        obtain ⟨r1, r2⟩ := r
        dsimp only at hrs
        subst hrs
        simp (config := { maxSteps := 4000000 }) only [go_sem, simprocAttr, ↓dnA, Tryz.f146, rows_length, encT, nlt h, h, rows_get _ _ _ h, encI, hk, nn0, nlt hkl, hkl, rows_get _ _ _ hkl, hbk, encB1, encBk, hw]
        refine ⟨i + 1, [(2, 2), (13000, 13000), (39000, 600)], by omega, by dsimp only; omega, Weak.of (by rfl) ?_ ?_ (by rfl)⟩
        · simp (config := { maxSteps := 4000000 }) only [go_sem, simprocAttr, ↓dnA, Tryz.f146, rows_length, encT, frW, wk2, wk1, wkL, wkB, hpW, List.mem_cons, Prod.mk.injEq, exists_eq_left, exists_eq_right, exists_eq]
        · simp (config := { maxSteps := 4000000 }) only [go_sem, simprocAttr, ↓dnA, Tryz.f146, rows_length, encT, frW, wk2, wk1, wkL, wkB, hpW, List.mem_cons, Prod.mk.injEq, exists_eq_left, exists_eq_right, exists_eq]
      · have hi' : i = p.length := by omega
        subst hi'
        simp (config := { maxSteps := 4000000 }) only [go_sem, simprocAttr, ↓dnA, Tryz.f146, rows_length, encT, nlf h, List.take_length]
  · have hp0 : pathTo t n = [] := by unfold pathTo; rw [if_neg hok]
    have hso : storeOf t n = [] := by
      unfold storeOf
      cases h1 : treeValid t with
      | false => rfl
      | true =>
        cases h2 : inB n 0 ((t.blocks.length : Int) - 1) with
        | false => rfl
        | true =>
          have := inB_iff.1 h2
          exact absurd ⟨h1, by omega, by omega⟩ hok
    rw [hp0, hso]
    simp (config := { maxSteps := 4000000 }) only [go_sem, simprocAttr, ↓dnA, Tryz.f146, rows_length, encT, rows_nil, List.length_nil]
    refine semL_for tab_ok (fun _ : Nat => ⟨43, [(5, .row 13000 0), (6, .row 600 0), (7, .int .i64 0)],
        [(13000, .row true true 1 []), (600, .row true true 2 [])]⟩) (fun i => i) (fun _ => True) 0 [(13000, 13000), (13, 600)] (Weak.of (by rfl) ?_ ?_ (by rfl)) trivial ?_
    · simp (config := { maxSteps := 4000000 }) only [go_sem, simprocAttr, ↓dnA, Tryz.f146, rows_length, frW, wk2, wk1, wkL, wkB, hpW, List.mem_cons, Prod.mk.injEq, exists_eq_left, exists_eq_right, exists_eq]
      try rfl
    · simp (config := { maxSteps := 4000000 }) only [go_sem, simprocAttr, ↓dnA, Tryz.f146, rows_length, frW, wk2, wk1, wkL, wkB, hpW, List.mem_cons, Prod.mk.injEq, exists_eq_left, exists_eq_right, exists_eq]
    · rintro i -
      simp (config := { maxSteps := 4000000 }) only [go_sem, simprocAttr, ↓dnA, Tryz.f146, rows_length, rows_nil, List.length_nil]

end Go.Proofs.YtmibclbinebnjaaGreat

/- slices.Grow of nil. -/
set_option linter.unusedSimpArgs false
set_option linter.unusedVariables false
set_option maxRecDepth 100000
set_option maxHeartbeats 4000000
namespace Go.Proofs.YtmibclbinebnjaaGreat
open Go Go.RowKit

theorem w_Grow (n : Nat) (w : World) (hn : n ≤ 1000000) : ∃ z : Value, z.cells.size = 2 ∧ Calls Tryz.prog 244 #[.slice none 0 0, .int .i64 n] w fun e w' =>
    (n = 0 ∧ e = .returned (.slice none 0 0) ∧ w' = w) ∨
    (0 < n ∧ e = .returned (.slice (some ⟨w.heap.size, 0, none⟩) 0 (grownCap w n 0 161)) ∧
      w' = w.drew.alloc (.cells ((#[] : Array Value) ++ Builtin.zeroCells z.cells n ++ Builtin.zeroCells z.cells (grownCap w n 0 161 - n)) 161)) := by
  have he : elemInfo tab 23 = some ((elemInfo tab 23).get (by decide +kernel)) := (Option.some_get _).symm
  obtain ⟨e, nf, d, z, hue, ok⟩ := elemInfo_und tab_ok he
  have hs : nf.size = 2 := ok.size.trans (by decide +kernel)
  have hb : nf.bytes = 16 := ok.bytes.trans (by decide +kernel)
  have hzs : z.cells.size = 2 := ok.zs.trans (by decide +kernel)
  obtain rfl : e = 161 := by
    have h2 : Tryz.prog.underlying 23 = some (.slice 161) := Tryz.underlying23
    rw [h2] at hue
    cases hue; rfl
  have hi := ok.info
  have hz := ok.zero
  refine ⟨z, hzs, ?_⟩
  rcases Nat.eq_zero_or_pos n with rfl | hp
  · refine Calls.mono (R := fun e w' => e = .returned (.slice none 0 0) ∧ w' = w) ?_ (fun e w' h => .inl ⟨rfl, h.1, h.2⟩)
    go_enter Tryz.func244, Tryz.ntmps244
    go_wp2
    go_ret
    exact ⟨rfl, rfl⟩
  · have hold : (Builtin.firstCells nf.size 0 (.slice none 0 0)).run Tryz.prog w.drew = .ok ([] : List Value).toArray w.drew := run_firstCells_none w.drew nf.size 0 0 0
    have hrz : ∀ ty, (Builtin.append_ #[23, 3] ty #[.slice none 0 0, .int .i64 (n : Int)]).run Tryz.prog w =
        .ok (.slice (some ⟨w.heap.size, 0, none⟩) (0 + n) (grownCap w (0 + n) 0 161)) (w.drew.alloc (.cells (([] : List Value).toArray ++ Builtin.zeroCells z.cells n ++ Builtin.zeroCells z.cells (grownCap w (0 + n) 0 161 - (0 + n))) 161)) := fun ty =>
      Lib.run_append_grow_zeros w 23 3 ty 161 nf z .i64 .i64 hue Tryz.underlying3 hi hz none 0 0 [] hold n hp (by omega) (by omega) (by omega) (by rw [hb]; omega) (growslice_fits (by omega) (by rw [hb]; omega))
    rw [Nat.zero_add] at hrz
    have hGn : n ≤ grownCap w n 0 161 := grownCap_ge w _ _ _
    refine Calls.mono (R := fun e w' => e = .returned (.slice (some ⟨w.heap.size, 0, none⟩) 0 (grownCap w n 0 161)) ∧ w' = w.drew.alloc (.cells ((#[] : Array Value) ++ Builtin.zeroCells z.cells n ++ Builtin.zeroCells z.cells (grownCap w n 0 161 - n)) 161)) ?_ (fun e w' h => .inr ⟨hp, h.1, h.2⟩)
    obtain ⟨G, hG⟩ : ∃ G, G = grownCap w n 0 161 := ⟨_, rfl⟩
    rw [← hG] at hrz hGn ⊢
    have hG63 : G ≤ 9223372036854775807 := by
      have := grownCap_le_maxLen w n 0 161 (by unfold maxLen; omega)
      rw [← hG] at this
      unfold maxLen at this
      omega
    have h1 : ¬ ((n : Int) < 0) := by omega
    have h2 : wrap64 (n : Int) = (n : Int) := by unfold wrap64; omega
    have h4 : (n : Int) > 0 := by omega
    clear hold hG
    go_enter Tryz.func244, Tryz.ntmps244
    go_wp2_with (at_builtin; refine Lib.wpList_append_run _ rfl _ _ _ _ rfl _ _ rfl rfl _ _ (hrz _) ?_)
    all_goals (go_ret; exact ⟨rfl, rfl⟩)

theorem c_Grow (n : Nat) (hn : n ≤ 1000000) : Det Tryz.prog 244 [.sl (some false) [], .int .i64 n] (.osl false 2 []) := by
  refine ⟨Tryz.call244, fun w S vs b BF hl ha _ _ => ?_⟩
  have hv : vs = #[.slice none 0 0, .int .i64 n] := by
    have h0 := ha 0 (by simp)
    have h1 := ha 1 (by simp)
    have e0 : vs.getD 0 undef = .slice none 0 0 := by
      rcases h0 with h0 | h0
      · revert h0
        generalize vs.getD 0 undef = v
        generalize hb : ([AV.sl (some false) [], AV.int .i64 n] : List AV).getD 0 .top = bb
        intro h0
        cases h0 with
        | nil nn hn => rfl
        | empty a cap nn hn => cases hb; exact absurd rfl hn
        | slice b o cap sz nn es f hn => cases hb; exact absurd rfl hn
        | _ => cases hb
      · exact absurd h0.1 (by simp)
    have e1 : vs.getD 1 undef = .int .i64 n := by
      rcases h1 with h1 | h1
      · revert h1
        generalize vs.getD 1 undef = v
        generalize hb : ([AV.sl (some false) [], AV.int .i64 n] : List AV).getD 1 .top = bb
        intro h1
        cases h1 with
        | int k m => cases hb; rfl
        | _ => cases hb
      · exact absurd h1.1 (by simp)
    have hsz : vs.size = 2 := hl
    apply Array.ext
    · exact hsz
    · intro i h1 h2
      have : i = 0 ∨ i = 1 := by omega
      rcases this with rfl | rfl
      · simpa [Array.getD, hsz] using e0
      · simpa [Array.getD, hsz] using e1
  obtain ⟨z, hz, hc⟩ := w_Grow n w hn
  rw [hv]
  refine hc.mono ?_
  rintro e w' (⟨rfl, rfl, rfl⟩ | ⟨hp, rfl, rfl⟩)
  · exact ⟨_, .osl false 2 [], [], fun _ => False, fun _ _ => False, rfl, rfl, ⟨rfl, rfl, rfl, Nat.le_refl _, fun _ _ _ => rfl⟩,
      .part _ _ _ (.cell _ _ _ (.osl _ _ _ _ _ ⟨by decide, by simp, .inl ⟨rfl, rfl, rfl, fun _ h => h⟩⟩)), by simp, by simp [BoxM], by simp [BoxM]⟩
  · have hge := grownCap_ge w n 0 161
    refine ⟨_, .osl false 2 [], [], fun x => x = w.heap.size, fun _ _ => False, rfl, rfl, ⟨rfl, rfl, rfl, ?_, fun x hx _ => ?_⟩, .part _ _ _ (.cell _ _ _ (.osl _ _ _ _ _ ⟨by decide, by simp, .inr ⟨w.heap.size, grownCap w n 0 161, _, 161, fun _ _ _ => False, rfl, by simpa using heap_alloc_new w.drew _, ?_, by simp, by simp, by simp, by simp, by simp⟩⟩)), by simp, by simp [BoxM], by simp [BoxM]⟩
    · simp
    · exact Below.heap_alloc w.drew _ x hx
    · simp only [Array.size_append, size_zeroCells, hz, ← Nat.add_mul, List.size_toArray, List.length_nil]
      congr 1; omega

/-- A list of slices. -/
def encSl (xs : List Entry) : List AV := [.sl none (rows encE xs)]

theorem flatten_take {α : Type} (L : List (List α)) (i : Nat) (h : i < L.length) : (L.take (i + 1)).flatten = (L.take i).flatten ++ L[i] := by
  rw [take_snoc _ _ h, List.flatten_append]; simp

theorem c_Concat (n1 : Option Bool) (L : List (List Entry)) (hL : L.length ≤ 1000) (hF : L.flatten.length ≤ 1000000) : Det Tryz.prog 238 [.sl n1 (rows encSl L)] (.osl false 2 (rows encE L.flatten)) := by
  refine fspec_det tab_ok Tryz.call238 Tryz.func238 rfl 36 Tryz.ntmps238 (of_decide_eq_true rfl) fun B => codeK_sound tab_ok _ _ _ ?_
  have hle : ∀ i, (L.take i).flatten.length ≤ L.flatten.length := fun i => by
    have := congrArg (fun l : List (List Entry) => l.flatten.length) (List.take_append_drop i L)
    simp only [List.flatten_append, List.length_append] at this
    omega
  simp (config := { maxSteps := 4000000 }) only [go_sem, simprocAttr, ↓dnA, Tryz.f238, rows_length]
  refine semL_for tab_ok (fun i : Nat => ⟨36, [(0, .sl n1 (rows encSl L)), (3, .int .i64 (L.take i).flatten.length), (9, .sl n1 (rows encSl L)), (10, .int .i64 L.length), (11, .int .i64 i)], []⟩) (fun i => L.length - i)
    (fun i => i ≤ L.length) 0 [] (Weak.of (by rfl) ?_ ?_ (by rfl)) (by omega) ?_
  · trivial
  · simp (config := { maxSteps := 4000000 }) only [go_sem, simprocAttr, ↓dnA, Tryz.f238, rows_length, frW, wk2, wk1, wkL, wkB, hpW, List.mem_cons, Prod.mk.injEq, exists_eq_left, exists_eq_right, exists_eq]
    try rfl
  · rintro i hi
    by_cases h : i < L.length
    · have hst := flatten_take L i h
      have h1 := hle (i + 1)
      rw [hst, List.length_append] at h1
      have hw : IntKind.i64.wrap ((i : Int) + 1) = ((i + 1 : Nat) : Int) := wsucc h (by omega)
      have hw2 : IntKind.i64.wrap (((L.take i).flatten.length : Int) + (L[i].length : Int)) = (((L.take i).flatten.length + L[i].length : Nat) : Int) := by rw [wrap_small _ (by omega) (by omega)]; omega
      simp (config := { maxSteps := 4000000 }) only [go_sem, simprocAttr, ↓dnA, Tryz.f238, rows_length, nlt h, h, rows_get _ _ _ h, encSl, nn0, hw, hw2]
      have hnn : decide ((((L.take i).flatten.length + L[i].length : Nat) : Int) < 0) = false := by simp; omega
      rw [hnn]
      refine ⟨fun hc => by simp at hc, fun _ => ?_⟩
      refine ⟨i + 1, [], by omega, by dsimp only; omega, Weak.of (by rfl) ?_ ?_ (by rfl)⟩
      · trivial
      · simp (config := { maxSteps := 4000000 }) only [go_sem, simprocAttr, ↓dnA, Tryz.f238, rows_length, hst, List.length_append, frW, wk2, wk1, wkL, wkB, hpW, List.mem_cons, Prod.mk.injEq, exists_eq_left, exists_eq_right, exists_eq]
    · have hi' : i = L.length := by omega
      subst hi'
      simp (config := { maxSteps := 4000000 }) only [go_sem, simprocAttr, ↓dnA, Tryz.f238, rows_length, nlf h, List.take_length]
      refine CallTo.det (c_Grow _ hF) fun _ => ?_
      simp (config := { maxSteps := 4000000 }) only [go_sem, simprocAttr, ↓dnA, Tryz.f238, rows_length, nlf h, List.take_length]
      refine semL_for tab_ok (fun i : Nat => ⟨36, [(6, .row 600 (L.take i).flatten.length), (25, .sl n1 (rows encSl L)), (26, .int .i64 L.length), (27, .int .i64 i)], [(600, .row true false 2 (rows encE (L.take i).flatten))]⟩) (fun i => L.length - i)
        (fun i => i ≤ L.length) 0 [(25000, 600)] (Weak.of (by rfl) ?_ ?_ (by rfl)) (by omega) ?_
      · simp (config := { maxSteps := 4000000 }) only [go_sem, simprocAttr, ↓dnA, Tryz.f238, rows_length, frW, wk2, wk1, wkL, wkB, hpW, List.mem_cons, Prod.mk.injEq, exists_eq_left, exists_eq_right, exists_eq]
        try rfl
      · simp (config := { maxSteps := 4000000 }) only [go_sem, simprocAttr, ↓dnA, Tryz.f238, rows_length, frW, wk2, wk1, wkL, wkB, hpW, List.mem_cons, Prod.mk.injEq, exists_eq_left, exists_eq_right, exists_eq]
        try rfl
      · rintro i hi
        by_cases h : i < L.length
        · have hst := flatten_take L i h
          have h1 := hle (i + 1)
          rw [hst, List.length_append] at h1
          have hw : IntKind.i64.wrap ((i : Int) + 1) = ((i + 1 : Nat) : Int) := wsucc h (by omega)
          have htk : (rows encE (L.take i).flatten).take (L.take i).flatten.length = rows encE (L.take i).flatten := by rw [List.take_of_length_le]; rw [rows_length]; omega
          have b1 := all_rows encE AV.flat (fun _ => rfl) L[i]
          have b2 := all_rows encE AV.one (fun _ => rfl) L[i]
          have b3 := sz0_rows encE 2 (fun _ => rfl) L[i]
          simp (config := { maxSteps := 4000000 }) only [go_sem, simprocAttr, ↓dnA, Tryz.f238, rows_length, nlt h, h, rows_get _ _ _ h, encSl, nn0, hw, htk]
          repeat refine And.intro (by first | omega | (simp; done) | (simp; omega) | assumption) ?_
          refine ⟨i + 1, [(33, 600)], by omega, by dsimp only; omega, Weak.of (by rfl) ?_ ?_ (by rfl)⟩
          · simp (config := { maxSteps := 4000000 }) only [go_sem, simprocAttr, ↓dnA, Tryz.f238, rows_length, hst, List.length_append, frW, wk2, wk1, wkL, wkB, hpW, List.mem_cons, Prod.mk.injEq, exists_eq_left, exists_eq_right, exists_eq]
            simp [rows]
          · simp (config := { maxSteps := 4000000 }) only [go_sem, simprocAttr, ↓dnA, Tryz.f238, rows_length, hst, List.length_append, frW, wk2, wk1, wkL, wkB, hpW, List.mem_cons, Prod.mk.injEq, exists_eq_left, exists_eq_right, exists_eq]
        · have hi' : i = L.length := by omega
          subst hi'
          simp (config := { maxSteps := 4000000 }) only [go_sem, simprocAttr, ↓dnA, Tryz.f238, rows_length, nlf h, List.take_length]

end Go.Proofs.YtmibclbinebnjaaGreat

/- Contracts: the sums of effects. -/
set_option linter.unusedSimpArgs false
set_option linter.unusedVariables false
set_option maxRecDepth 20000
set_option maxHeartbeats 4000000
namespace Go.Proofs.YtmibclbinebnjaaGreat
open Go Go.RowKit

def flatE (es : List Entry) : List Int := es.flatMap fun e => [e.key, e.value]
theorem flatE_len : ∀ es : List Entry, (flatE es).length = 2 * es.length
  | [] => rfl
  | e :: r => by
    have := flatE_len r
    simp only [flatE, List.flatMap_cons, List.length_append, List.length_cons, List.length_nil] at this ⊢
    omega
theorem flatE_take (es : List Entry) (i : Nat) (h : i < es.length) : flatE (es.take (i + 1)) = flatE (es.take i) ++ [es[i].key, es[i].value] := by
  unfold flatE
  rw [take_snoc _ _ h, List.flatMap_append]
  simp

/-- What is summed of an effect. -/
def effectL (e : Effect) : List Int := [if e.done then 1 else 0, (e.reads.length : Int)] ++ flatE (e.reads ++ e.writes)
def effectSum (e : Effect) : Int := sumOf 3 (effectL e)
def effectsSum (es : List Effect) : Int := if es.length > 10 then -1 else sumOf 4 (es.map effectSum)

theorem c_impl_EffectSum (e : Effect) (h1 : e.reads.length ≤ 100000) (h2 : e.writes.length ≤ 100000) : Det Tryz.prog 226 [.agg (encF1 e)] (.int .i64 (effectSum e)) := by
  refine fspec_det tab_ok Tryz.call226 Tryz.func226 rfl 35 Tryz.ntmps226 (of_decide_eq_true rfl) fun B => codeK_sound tab_ok _ _ _ ?_
  have hcc : [e.reads, e.writes].flatten = e.reads ++ e.writes := by simp
  have hcat := c_Concat (some true) [e.reads, e.writes] (by simp) (by rw [hcc, List.length_append]; omega)
  rw [hcc] at hcat
  obtain ⟨dn, rd, wr⟩ := e
  dsimp only at h1 h2 hcat
  have hl : (rd ++ wr).length = rd.length + wr.length := List.length_append
  have hx : effectL ⟨dn, rd, wr⟩ = (if dn then 1 else 0) :: (rd.length : Int) :: flatE (rd ++ wr) := rfl
  generalize hes : rd ++ wr = es at hcat hl hx
  generalize hd : (if dn then (1 : Int) else 0) = dv at hx
  cases dn
  all_goals (simp (config := { maxSteps := 4000000 }) only [go_sem, simprocAttr, ↓dnA, Tryz.f226, rows_length, encF1, encF, nn0])
  all_goals refine CallTo.det hcat fun _ => ?_
  all_goals (simp (config := { maxSteps := 4000000 }) only [go_sem, simprocAttr, ↓dnA, Tryz.f226, rows_length, encF1, encF, nn0])
  all_goals simp only [Bool.false_eq_true, if_false, if_true] at hd
  all_goals
   refine semL_for tab_ok (fun i : Nat => ⟨35, [(3, .row 600 (2 + 2 * i)), (19, .row 20000 es.length), (20, .int .i64 es.length), (21, .int .i64 i)],
      [(20000, .row true false 2 (rows encE es)), (600, .row true true 1 (rows encI (dv :: (rd.length : Int) :: flatE (es.take i))))]⟩) (fun i => es.length - i)
    (fun i => i ≤ es.length) 0 [(20000, 20000), (9, 600)] (Weak.of (by rfl) ?_ ?_ (by rfl)) (by omega) ?_
  · subst hd; simp (config := { maxSteps := 4000000 }) only [go_sem, simprocAttr, ↓dnA, Tryz.f226, rows_length, frW, wk2, wk1, wkL, wkB, hpW, List.mem_cons, Prod.mk.injEq, exists_eq_left, exists_eq_right, exists_eq]
    rfl
  · simp (config := { maxSteps := 4000000 }) only [go_sem, simprocAttr, ↓dnA, Tryz.f226, rows_length, frW, wk2, wk1, wkL, wkB, hpW, List.mem_cons, Prod.mk.injEq, exists_eq_left, exists_eq_right, exists_eq]
  · rintro i hi
    by_cases h : i < es.length
    · have hst := flatE_take es i h
      have hw : IntKind.i64.wrap ((i : Int) + 1) = ((i + 1 : Nat) : Int) := wsucc h (by omega)
      have hfl := flatE_len (es.take i)
      rw [List.length_take, show min i es.length = i by omega] at hfl
      generalize flatE (es.take i) = u at hst hfl
      have hlu : (rows encI (dv :: (rd.length : Int) :: u)).length = 2 + 2 * i := by rw [rows_length, List.length_cons, List.length_cons]; omega
      have htk : (rows encI (dv :: (rd.length : Int) :: u)).take (2 + 2 * i) = rows encI (dv :: (rd.length : Int) :: u) := by rw [List.take_of_length_le]; omega
      simp (config := { maxSteps := 4000000 }) only [go_sem, simprocAttr, ↓dnA, Tryz.f226, rows_length, nlt h, h, rows_get _ _ _ h, encE, nn0, hw, htk, hlu]
      repeat refine And.intro (by first | omega | (simp; done) | (simp; omega) | assumption) ?_
      refine ⟨i + 1, [(20000, 20000), (31, 600)], by omega, by dsimp only; omega, Weak.of (by rfl) ?_ ?_ (by rfl)⟩
      · simp (config := { maxSteps := 4000000 }) only [go_sem, simprocAttr, ↓dnA, Tryz.f226, rows_length, hst, frW, wk2, wk1, wkL, wkB, hpW, List.mem_cons, Prod.mk.injEq, exists_eq_left, exists_eq_right, exists_eq]
        simp [rows, encI]
      · simp (config := { maxSteps := 4000000 }) only [go_sem, simprocAttr, ↓dnA, Tryz.f226, rows_length, hst, frW, wk2, wk1, wkL, wkB, hpW, List.mem_cons, Prod.mk.injEq, exists_eq_left, exists_eq_right, exists_eq]
        congr 1
    · have hi' : i = es.length := by omega
      subst hi'
      rw [List.take_length]
      have hfl := flatE_len es
      have hlu : (dv :: (rd.length : Int) :: flatE es).length = 2 + 2 * es.length := by rw [List.length_cons, List.length_cons]; omega
      simp (config := { maxSteps := 4000000 }) only [go_sem, simprocAttr, ↓dnA, Tryz.f226, rows_length, nlf h, hlu]
      refine CallTo.det (c_impl_SumOf 3 (some true) (dv :: (rd.length : Int) :: flatE es) (by rw [hlu]; omega)) fun _ => ?_
      simp (config := { maxSteps := 4000000 }) only [go_sem, simprocAttr, ↓dnA, Tryz.f226, rows_length, nlf h, hlu]
      unfold effectSum
      rw [hx]
  · subst hd; simp (config := { maxSteps := 4000000 }) only [go_sem, simprocAttr, ↓dnA, Tryz.f226, rows_length, frW, wk2, wk1, wkL, wkB, hpW, List.mem_cons, Prod.mk.injEq, exists_eq_left, exists_eq_right, exists_eq]
    rfl
  · simp (config := { maxSteps := 4000000 }) only [go_sem, simprocAttr, ↓dnA, Tryz.f226, rows_length, frW, wk2, wk1, wkL, wkB, hpW, List.mem_cons, Prod.mk.injEq, exists_eq_left, exists_eq_right, exists_eq]
  · rintro i hi
    by_cases h : i < es.length
    · have hst := flatE_take es i h
      have hw : IntKind.i64.wrap ((i : Int) + 1) = ((i + 1 : Nat) : Int) := wsucc h (by omega)
      have hfl := flatE_len (es.take i)
      rw [List.length_take, show min i es.length = i by omega] at hfl
      generalize flatE (es.take i) = u at hst hfl
      have hlu : (rows encI (dv :: (rd.length : Int) :: u)).length = 2 + 2 * i := by rw [rows_length, List.length_cons, List.length_cons]; omega
      have htk : (rows encI (dv :: (rd.length : Int) :: u)).take (2 + 2 * i) = rows encI (dv :: (rd.length : Int) :: u) := by rw [List.take_of_length_le]; omega
      simp (config := { maxSteps := 4000000 }) only [go_sem, simprocAttr, ↓dnA, Tryz.f226, rows_length, nlt h, h, rows_get _ _ _ h, encE, nn0, hw, htk, hlu]
      repeat refine And.intro (by first | omega | (simp; done) | (simp; omega) | assumption) ?_
      refine ⟨i + 1, [(20000, 20000), (31, 600)], by omega, by dsimp only; omega, Weak.of (by rfl) ?_ ?_ (by rfl)⟩
      · simp (config := { maxSteps := 4000000 }) only [go_sem, simprocAttr, ↓dnA, Tryz.f226, rows_length, hst, frW, wk2, wk1, wkL, wkB, hpW, List.mem_cons, Prod.mk.injEq, exists_eq_left, exists_eq_right, exists_eq]
        simp [rows, encI]
      · simp (config := { maxSteps := 4000000 }) only [go_sem, simprocAttr, ↓dnA, Tryz.f226, rows_length, hst, frW, wk2, wk1, wkL, wkB, hpW, List.mem_cons, Prod.mk.injEq, exists_eq_left, exists_eq_right, exists_eq]
        congr 1
    · have hi' : i = es.length := by omega
      subst hi'
      rw [List.take_length]
      have hfl := flatE_len es
      have hlu : (dv :: (rd.length : Int) :: flatE es).length = 2 + 2 * es.length := by rw [List.length_cons, List.length_cons]; omega
      simp (config := { maxSteps := 4000000 }) only [go_sem, simprocAttr, ↓dnA, Tryz.f226, rows_length, nlf h, hlu]
      refine CallTo.det (c_impl_SumOf 3 (some true) (dv :: (rd.length : Int) :: flatE es) (by rw [hlu]; omega)) fun _ => ?_
      simp (config := { maxSteps := 4000000 }) only [go_sem, simprocAttr, ↓dnA, Tryz.f226, rows_length, nlf h, hlu]
      unfold effectSum
      rw [hx]

theorem c_spec_EffectSum (e : Effect) (h1 : e.reads.length ≤ 100000) (h2 : e.writes.length ≤ 100000) : Det Tryz.prog 221 [.agg (encF1 e)] (.int .i64 (effectSum e)) := by
  refine fspec_det tab_ok Tryz.call221 Tryz.func221 rfl 60 Tryz.ntmps221 (of_decide_eq_true rfl) fun B => codeK_sound tab_ok _ _ _ ?_
  obtain ⟨dn, rd, wr⟩ := e
  dsimp only at h1 h2
  have hx : effectL ⟨dn, rd, wr⟩ = (if dn then 1 else 0) :: (rd.length : Int) :: (flatE rd ++ flatE wr) := by
    show _ :: _ :: flatE (rd ++ wr) = _
    simp [flatE]
  generalize hd : (if dn then (1 : Int) else 0) = dv at hx
  have lr := flatE_len rd
  have lw := flatE_len wr
  cases dn
  all_goals simp only [Bool.false_eq_true, if_false, if_true] at hd
  all_goals (simp (config := { maxSteps := 4000000 }) only [go_sem, simprocAttr, ↓dnA, Tryz.f221, rows_length, encF1, encF, nn0])
  · refine semL_for tab_ok (fun i : Nat => ⟨60, [(1, .loc 1 0), (3, .row 600 (2 + 2 * i)), (4, .int .i64 i)],
        [(1, .var [.bool false, .sl none (rows encE rd), .sl none (rows encE wr)]), (600, .row true true 1 (rows encI (dv :: (rd.length : Int) :: flatE (rd.take i))))]⟩) (fun i => rd.length - i)
      (fun i => i ≤ rd.length) 0 [(1, 1), (9, 600)] (Weak.of (by rfl) ?_ ?_ (by rfl)) (by omega) ?_
    · subst hd; simp (config := { maxSteps := 4000000 }) only [go_sem, simprocAttr, ↓dnA, Tryz.f221, rows_length, frW, wk2, wk1, wkL, wkB, hpW, List.mem_cons, Prod.mk.injEq, exists_eq_left, exists_eq_right, exists_eq]
      rfl
    · simp (config := { maxSteps := 4000000 }) only [go_sem, simprocAttr, ↓dnA, Tryz.f221, rows_length, frW, wk2, wk1, wkL, wkB, hpW, List.mem_cons, Prod.mk.injEq, exists_eq_left, exists_eq_right, exists_eq]
    · rintro i hi
      by_cases h : i < rd.length
      · have hst := flatE_take rd i h
        have hw : IntKind.i64.wrap ((i : Int) + 1) = ((i + 1 : Nat) : Int) := wsucc h (by omega)
        have hfl := flatE_len (rd.take i)
        rw [List.length_take, show min i rd.length = i by omega] at hfl
        generalize flatE (rd.take i) = u at hst hfl
        have hlu : (rows encI (dv :: (rd.length : Int) :: u)).length = 2 + 2 * i := by rw [rows_length, List.length_cons, List.length_cons]; omega
        have htk : (rows encI (dv :: (rd.length : Int) :: u)).take (2 + 2 * i) = rows encI (dv :: (rd.length : Int) :: u) := by rw [List.take_of_length_le]; omega
        simp (config := { maxSteps := 4000000 }) only [go_sem, simprocAttr, ↓dnA, Tryz.f221, rows_length, nlt h, h, rows_get _ _ _ h, encE, nn0, hw, htk, hlu]
        refine semL_drawL tab_ok 15 mixed_ rfl (ord := [(0, []), (1, []), (2, []), (3, []), (4, []), (5, []), (6, []), (7, []), (8, []), (9, []), (10, []), (11, []), (12, []), (13, [0]), (14, [])]) (by dsimp only; decide +kernel) ?_
        simp (config := { maxSteps := 4000000 }) only [go_sem, simprocAttr, ↓dnA, Tryz.f221, rows_length, nlt h, h, rows_get _ _ _ h, encE, nn0, hw, htk, hlu]
        repeat refine And.intro (by first | omega | (simp; done) | (simp; omega) | assumption) ?_
        refine ⟨i + 1, [(1, 1), (35, 600)], by omega, by dsimp only; omega, Weak.of (by rfl) ?_ ?_ (by rfl)⟩
        · simp (config := { maxSteps := 4000000 }) only [go_sem, simprocAttr, ↓dnA, Tryz.f221, rows_length, hst, frW, wk2, wk1, wkL, wkB, hpW, List.mem_cons, Prod.mk.injEq, exists_eq_left, exists_eq_right, exists_eq]
          simp [rows, encI]
        · simp (config := { maxSteps := 4000000 }) only [go_sem, simprocAttr, ↓dnA, Tryz.f221, rows_length, hst, frW, wk2, wk1, wkL, wkB, hpW, List.mem_cons, Prod.mk.injEq, exists_eq_left, exists_eq_right, exists_eq]
          congr 1
      · have hi' : i = rd.length := by omega
        subst hi'
        rw [List.take_length]
        simp (config := { maxSteps := 4000000 }) only [go_sem, simprocAttr, ↓dnA, Tryz.f221, rows_length, nlf h]
        refine semL_for tab_ok (fun i : Nat => ⟨60, [(1, .loc 1 0), (3, .row 600 (2 + 2 * rd.length + 2 * i)), (5, .int .i64 i)],
            [(1, .var [.bool false, .sl none (rows encE rd), .sl none (rows encE wr)]), (600, .row true true 1 (rows encI (dv :: (rd.length : Int) :: (flatE rd ++ flatE (wr.take i)))))]⟩) (fun i => wr.length - i)
          (fun i => i ≤ wr.length) 0 [(1, 1), (600, 600)] (Weak.of (by rfl) ?_ ?_ (by rfl)) (by omega) ?_
        · simp (config := { maxSteps := 4000000 }) only [go_sem, simprocAttr, ↓dnA, Tryz.f221, rows_length, frW, wk2, wk1, wkL, wkB, hpW, List.mem_cons, Prod.mk.injEq, exists_eq_left, exists_eq_right, exists_eq]
          simp [flatE]
        · simp (config := { maxSteps := 4000000 }) only [go_sem, simprocAttr, ↓dnA, Tryz.f221, rows_length, frW, wk2, wk1, wkL, wkB, hpW, List.mem_cons, Prod.mk.injEq, exists_eq_left, exists_eq_right, exists_eq]
          try rfl
        · rintro i hi
          by_cases h : i < wr.length
          · have hst := flatE_take wr i h
            have hw : IntKind.i64.wrap ((i : Int) + 1) = ((i + 1 : Nat) : Int) := wsucc h (by omega)
            have hfl := flatE_len (wr.take i)
            rw [List.length_take, show min i wr.length = i by omega] at hfl
            generalize flatE (wr.take i) = u at hst hfl
            have hlu : (rows encI (dv :: (rd.length : Int) :: (flatE rd ++ u))).length = 2 + 2 * rd.length + 2 * i := by rw [rows_length, List.length_cons, List.length_cons, List.length_append]; omega
            have htk : (rows encI (dv :: (rd.length : Int) :: (flatE rd ++ u))).take (2 + 2 * rd.length + 2 * i) = rows encI (dv :: (rd.length : Int) :: (flatE rd ++ u)) := by rw [List.take_of_length_le]; omega
            simp (config := { maxSteps := 4000000 }) only [go_sem, simprocAttr, ↓dnA, Tryz.f221, rows_length, nlt h, h, rows_get _ _ _ h, encE, nn0, hw, htk, hlu]
            refine semL_drawL tab_ok 15 mixed_ rfl (ord := [(0, []), (1, []), (2, []), (3, []), (4, []), (5, []), (6, []), (7, []), (8, []), (9, []), (10, []), (11, []), (12, []), (13, [0]), (14, [])]) (by dsimp only; decide +kernel) ?_
            simp (config := { maxSteps := 4000000 }) only [go_sem, simprocAttr, ↓dnA, Tryz.f221, rows_length, nlt h, h, rows_get _ _ _ h, encE, nn0, hw, htk, hlu]
            repeat refine And.intro (by first | omega | (simp; done) | (simp; omega) | assumption) ?_
            refine ⟨i + 1, [(1, 1), (57, 600)], by omega, by dsimp only; omega, Weak.of (by rfl) ?_ ?_ (by rfl)⟩
            · simp (config := { maxSteps := 4000000 }) only [go_sem, simprocAttr, ↓dnA, Tryz.f221, rows_length, hst, frW, wk2, wk1, wkL, wkB, hpW, List.mem_cons, Prod.mk.injEq, exists_eq_left, exists_eq_right, exists_eq]
              simp [rows, encI]
            · simp (config := { maxSteps := 4000000 }) only [go_sem, simprocAttr, ↓dnA, Tryz.f221, rows_length, hst, frW, wk2, wk1, wkL, wkB, hpW, List.mem_cons, Prod.mk.injEq, exists_eq_left, exists_eq_right, exists_eq]
              congr 1
          · have hi' : i = wr.length := by omega
            subst hi'
            rw [List.take_length]
            have hlu : (dv :: (rd.length : Int) :: (flatE rd ++ flatE wr)).length = 2 + 2 * rd.length + 2 * wr.length := by rw [List.length_cons, List.length_cons, List.length_append]; omega
            simp (config := { maxSteps := 4000000 }) only [go_sem, simprocAttr, ↓dnA, Tryz.f221, rows_length, nlf h, hlu]
            refine CallTo.det (c_spec_SumOf 3 (some true) (dv :: (rd.length : Int) :: (flatE rd ++ flatE wr)) (by rw [hlu]; omega)) fun _ => ?_
            simp (config := { maxSteps := 4000000 }) only [go_sem, simprocAttr, ↓dnA, Tryz.f221, rows_length, nlf h, hlu]
            unfold effectSum
            rw [hx]
  · refine semL_for tab_ok (fun i : Nat => ⟨60, [(1, .loc 1 0), (3, .row 600 (2 + 2 * i)), (4, .int .i64 i)],
        [(1, .var [.bool true, .sl none (rows encE rd), .sl none (rows encE wr)]), (600, .row true true 1 (rows encI (dv :: (rd.length : Int) :: flatE (rd.take i))))]⟩) (fun i => rd.length - i)
      (fun i => i ≤ rd.length) 0 [(1, 1), (9, 600)] (Weak.of (by rfl) ?_ ?_ (by rfl)) (by omega) ?_
    · subst hd; simp (config := { maxSteps := 4000000 }) only [go_sem, simprocAttr, ↓dnA, Tryz.f221, rows_length, frW, wk2, wk1, wkL, wkB, hpW, List.mem_cons, Prod.mk.injEq, exists_eq_left, exists_eq_right, exists_eq]
      rfl
    · simp (config := { maxSteps := 4000000 }) only [go_sem, simprocAttr, ↓dnA, Tryz.f221, rows_length, frW, wk2, wk1, wkL, wkB, hpW, List.mem_cons, Prod.mk.injEq, exists_eq_left, exists_eq_right, exists_eq]
    · rintro i hi
      by_cases h : i < rd.length
      · have hst := flatE_take rd i h
        have hw : IntKind.i64.wrap ((i : Int) + 1) = ((i + 1 : Nat) : Int) := wsucc h (by omega)
        have hfl := flatE_len (rd.take i)
        rw [List.length_take, show min i rd.length = i by omega] at hfl
        generalize flatE (rd.take i) = u at hst hfl
        have hlu : (rows encI (dv :: (rd.length : Int) :: u)).length = 2 + 2 * i := by rw [rows_length, List.length_cons, List.length_cons]; omega
        have htk : (rows encI (dv :: (rd.length : Int) :: u)).take (2 + 2 * i) = rows encI (dv :: (rd.length : Int) :: u) := by rw [List.take_of_length_le]; omega
        simp (config := { maxSteps := 4000000 }) only [go_sem, simprocAttr, ↓dnA, Tryz.f221, rows_length, nlt h, h, rows_get _ _ _ h, encE, nn0, hw, htk, hlu]
        refine semL_drawL tab_ok 15 mixed_ rfl (ord := [(0, []), (1, []), (2, []), (3, []), (4, []), (5, []), (6, []), (7, []), (8, []), (9, []), (10, []), (11, []), (12, []), (13, [0]), (14, [])]) (by dsimp only; decide +kernel) ?_
        simp (config := { maxSteps := 4000000 }) only [go_sem, simprocAttr, ↓dnA, Tryz.f221, rows_length, nlt h, h, rows_get _ _ _ h, encE, nn0, hw, htk, hlu]
        repeat refine And.intro (by first | omega | (simp; done) | (simp; omega) | assumption) ?_
        refine ⟨i + 1, [(1, 1), (35, 600)], by omega, by dsimp only; omega, Weak.of (by rfl) ?_ ?_ (by rfl)⟩
        · simp (config := { maxSteps := 4000000 }) only [go_sem, simprocAttr, ↓dnA, Tryz.f221, rows_length, hst, frW, wk2, wk1, wkL, wkB, hpW, List.mem_cons, Prod.mk.injEq, exists_eq_left, exists_eq_right, exists_eq]
          simp [rows, encI]
        · simp (config := { maxSteps := 4000000 }) only [go_sem, simprocAttr, ↓dnA, Tryz.f221, rows_length, hst, frW, wk2, wk1, wkL, wkB, hpW, List.mem_cons, Prod.mk.injEq, exists_eq_left, exists_eq_right, exists_eq]
          congr 1
      · have hi' : i = rd.length := by omega
        subst hi'
        rw [List.take_length]
        simp (config := { maxSteps := 4000000 }) only [go_sem, simprocAttr, ↓dnA, Tryz.f221, rows_length, nlf h]
        refine semL_for tab_ok (fun i : Nat => ⟨60, [(1, .loc 1 0), (3, .row 600 (2 + 2 * rd.length + 2 * i)), (5, .int .i64 i)],
            [(1, .var [.bool true, .sl none (rows encE rd), .sl none (rows encE wr)]), (600, .row true true 1 (rows encI (dv :: (rd.length : Int) :: (flatE rd ++ flatE (wr.take i)))))]⟩) (fun i => wr.length - i)
          (fun i => i ≤ wr.length) 0 [(1, 1), (600, 600)] (Weak.of (by rfl) ?_ ?_ (by rfl)) (by omega) ?_
        · simp (config := { maxSteps := 4000000 }) only [go_sem, simprocAttr, ↓dnA, Tryz.f221, rows_length, frW, wk2, wk1, wkL, wkB, hpW, List.mem_cons, Prod.mk.injEq, exists_eq_left, exists_eq_right, exists_eq]
          simp [flatE]
        · simp (config := { maxSteps := 4000000 }) only [go_sem, simprocAttr, ↓dnA, Tryz.f221, rows_length, frW, wk2, wk1, wkL, wkB, hpW, List.mem_cons, Prod.mk.injEq, exists_eq_left, exists_eq_right, exists_eq]
          try rfl
        · rintro i hi
          by_cases h : i < wr.length
          · have hst := flatE_take wr i h
            have hw : IntKind.i64.wrap ((i : Int) + 1) = ((i + 1 : Nat) : Int) := wsucc h (by omega)
            have hfl := flatE_len (wr.take i)
            rw [List.length_take, show min i wr.length = i by omega] at hfl
            generalize flatE (wr.take i) = u at hst hfl
            have hlu : (rows encI (dv :: (rd.length : Int) :: (flatE rd ++ u))).length = 2 + 2 * rd.length + 2 * i := by rw [rows_length, List.length_cons, List.length_cons, List.length_append]; omega
            have htk : (rows encI (dv :: (rd.length : Int) :: (flatE rd ++ u))).take (2 + 2 * rd.length + 2 * i) = rows encI (dv :: (rd.length : Int) :: (flatE rd ++ u)) := by rw [List.take_of_length_le]; omega
            simp (config := { maxSteps := 4000000 }) only [go_sem, simprocAttr, ↓dnA, Tryz.f221, rows_length, nlt h, h, rows_get _ _ _ h, encE, nn0, hw, htk, hlu]
            refine semL_drawL tab_ok 15 mixed_ rfl (ord := [(0, []), (1, []), (2, []), (3, []), (4, []), (5, []), (6, []), (7, []), (8, []), (9, []), (10, []), (11, []), (12, []), (13, [0]), (14, [])]) (by dsimp only; decide +kernel) ?_
            simp (config := { maxSteps := 4000000 }) only [go_sem, simprocAttr, ↓dnA, Tryz.f221, rows_length, nlt h, h, rows_get _ _ _ h, encE, nn0, hw, htk, hlu]
            repeat refine And.intro (by first | omega | (simp; done) | (simp; omega) | assumption) ?_
            refine ⟨i + 1, [(1, 1), (57, 600)], by omega, by dsimp only; omega, Weak.of (by rfl) ?_ ?_ (by rfl)⟩
            · simp (config := { maxSteps := 4000000 }) only [go_sem, simprocAttr, ↓dnA, Tryz.f221, rows_length, hst, frW, wk2, wk1, wkL, wkB, hpW, List.mem_cons, Prod.mk.injEq, exists_eq_left, exists_eq_right, exists_eq]
              simp [rows, encI]
            · simp (config := { maxSteps := 4000000 }) only [go_sem, simprocAttr, ↓dnA, Tryz.f221, rows_length, hst, frW, wk2, wk1, wkL, wkB, hpW, List.mem_cons, Prod.mk.injEq, exists_eq_left, exists_eq_right, exists_eq]
              congr 1
          · have hi' : i = wr.length := by omega
            subst hi'
            rw [List.take_length]
            have hlu : (dv :: (rd.length : Int) :: (flatE rd ++ flatE wr)).length = 2 + 2 * rd.length + 2 * wr.length := by rw [List.length_cons, List.length_cons, List.length_append]; omega
            simp (config := { maxSteps := 4000000 }) only [go_sem, simprocAttr, ↓dnA, Tryz.f221, rows_length, nlf h, hlu]
            refine CallTo.det (c_spec_SumOf 3 (some true) (dv :: (rd.length : Int) :: (flatE rd ++ flatE wr)) (by rw [hlu]; omega)) fun _ => ?_
            simp (config := { maxSteps := 4000000 }) only [go_sem, simprocAttr, ↓dnA, Tryz.f221, rows_length, nlf h, hlu]
            unfold effectSum
            rw [hx]

def EffOk (es : List Effect) : Prop := ∀ e, e ∈ es → e.reads.length ≤ 100000 ∧ e.writes.length ≤ 100000

theorem c_impl_EffectsSum (n1 : Option Bool) (es : List Effect) (hl : es.length < 2 ^ 32) (hE : EffOk es) : Det Tryz.prog 202 [.sl n1 (rows encF1 es)] (.int .i64 (effectsSum es)) := by
  refine fspec_det tab_ok Tryz.call202 Tryz.func202 rfl 23 Tryz.ntmps202 (of_decide_eq_true rfl) fun B => codeK_sound tab_ok _ _ _ ?_
  unfold effectsSum
  have hg : decide ((es.length : Int) > 10) = decide (es.length > 10) := by simp; omega
  by_cases h10 : es.length > 10
  · have hd : decide ((es.length : Int) > 10) = true := by rw [hg]; simp [h10]
    simp (config := { maxSteps := 4000000 }) only [go_sem, simprocAttr, ↓dnA, Tryz.f202, rows_length, hd, h10]
  · have hd : decide ((es.length : Int) > 10) = false := by rw [hg]; simp [h10]
    rw [if_neg h10]
    simp (config := { maxSteps := 4000000 }) only [go_sem, simprocAttr, ↓dnA, Tryz.f202, rows_length, hd]
    refine semL_nilA 3 600 1 true (by rfl) (by rfl) (by decide) (by decide) ?_
    refine semL_for tab_ok (fun i : Nat => ⟨23, [(3, .row 600 i), (9, .sl n1 (rows encF1 es)), (10, .int .i64 es.length), (11, .int .i64 i)], [(600, .row true false 1 (rows encI ((es.take i).map effectSum)))]⟩) (fun i => es.length - i)
      (fun i => i ≤ es.length) 0 [(600, 600)] (Weak.of (by rfl) ?_ ?_ (by rfl)) (by omega) ?_
    · simp (config := { maxSteps := 4000000 }) only [go_sem, simprocAttr, ↓dnA, Tryz.f202, rows_length, frW, wk2, wk1, wkL, wkB, hpW, List.mem_cons, Prod.mk.injEq, exists_eq_left, exists_eq_right, exists_eq]
      try rfl
    · simp (config := { maxSteps := 4000000 }) only [go_sem, simprocAttr, ↓dnA, Tryz.f202, rows_length, frW, wk2, wk1, wkL, wkB, hpW, List.mem_cons, Prod.mk.injEq, exists_eq_left, exists_eq_right, exists_eq]
      try rfl
    · rintro i hi
      by_cases h : i < es.length
      · have hw : IntKind.i64.wrap ((i : Int) + 1) = ((i + 1 : Nat) : Int) := wsucc h (by omega)
        have hst : (es.take (i + 1)).map effectSum = (es.take i).map effectSum ++ [effectSum es[i]] := by rw [take_snoc _ _ h, List.map_append]; rfl
        have hlu : ((es.take i).map effectSum).length = i := by rw [List.length_map, List.length_take]; omega
        have he := hE _ (List.getElem_mem h)
        have hee : encF1 es[i] = [.bool es[i].done, .sl none (rows encE es[i].reads), .sl none (rows encE es[i].writes)] := rfl
        generalize (es.take i).map effectSum = u at hst hlu
        have htk : (rows encI u).take i = rows encI u := by rw [List.take_of_length_le]; rw [rows_length]; omega
        simp (config := { maxSteps := 4000000 }) only [go_sem, simprocAttr, ↓dnA, Tryz.f202, rows_length, nlt h, h, rows_get _ _ _ h, hee, nn0, hw, htk, hlu]
        refine CallTo.det (c_impl_EffectSum es[i] he.1 he.2) fun _ => ?_
        simp (config := { maxSteps := 4000000 }) only [go_sem, simprocAttr, ↓dnA, Tryz.f202, rows_length, nlt h, h, rows_get _ _ _ h, hee, nn0, hw, htk, hlu]
        repeat refine And.intro (by first | omega | (simp; done) | (simp; omega) | assumption) ?_
        refine ⟨i + 1, [(19, 600)], by omega, by dsimp only; omega, Weak.of (by rfl) ?_ ?_ (by rfl)⟩
        · simp (config := { maxSteps := 4000000 }) only [go_sem, simprocAttr, ↓dnA, Tryz.f202, rows_length, hst, frW, wk2, wk1, wkL, wkB, hpW, List.mem_cons, Prod.mk.injEq, exists_eq_left, exists_eq_right, exists_eq]
          simp [rows, encI]
        · simp (config := { maxSteps := 4000000 }) only [go_sem, simprocAttr, ↓dnA, Tryz.f202, rows_length, hst, frW, wk2, wk1, wkL, wkB, hpW, List.mem_cons, Prod.mk.injEq, exists_eq_left, exists_eq_right, exists_eq]
      · have hi' : i = es.length := by omega
        subst hi'
        rw [List.take_length]
        have hlu : (es.map effectSum).length = es.length := List.length_map ..
        simp (config := { maxSteps := 4000000 }) only [go_sem, simprocAttr, ↓dnA, Tryz.f202, rows_length, nlf h, hlu]
        refine CallTo.det (c_impl_SumOf 4 none (es.map effectSum) (by rw [hlu]; omega)) fun _ => ?_
        simp (config := { maxSteps := 4000000 }) only [go_sem, simprocAttr, ↓dnA, Tryz.f202, rows_length, nlf h, hlu]

theorem c_spec_EffectsSum (n1 : Option Bool) (es : List Effect) (hl : es.length < 2 ^ 32) (hE : EffOk es) : Det Tryz.prog 199 [.sl n1 (rows encF1 es)] (.int .i64 (effectsSum es)) := by
  refine fspec_det tab_ok Tryz.call199 Tryz.func199 rfl 25 Tryz.ntmps199 (of_decide_eq_true rfl) fun B => codeK_sound tab_ok _ _ _ ?_
  unfold effectsSum
  have hg : decide ((es.length : Int) > 10) = decide (es.length > 10) := by simp; omega
  simp (config := { maxSteps := 4000000 }) only [go_sem, simprocAttr, ↓dnA, Tryz.f199, rows_length]
  refine semL_for tab_ok (fun i : Nat => ⟨25, [(0, .sl n1 (rows encF1 es)), (3, .row 600 i), (4, .int .i64 i)], [(600, .row true true 1 (rows encI ((es.take i).map effectSum)))]⟩) (fun i => es.length - i)
    (fun i => i ≤ es.length) 0 [(5, 600)] (Weak.of (by rfl) ?_ ?_ (by rfl)) (by omega) ?_
  · simp (config := { maxSteps := 4000000 }) only [go_sem, simprocAttr, ↓dnA, Tryz.f199, rows_length, frW, wk2, wk1, wkL, wkB, hpW, List.mem_cons, Prod.mk.injEq, exists_eq_left, exists_eq_right, exists_eq]
    try rfl
  · simp (config := { maxSteps := 4000000 }) only [go_sem, simprocAttr, ↓dnA, Tryz.f199, rows_length, frW, wk2, wk1, wkL, wkB, hpW, List.mem_cons, Prod.mk.injEq, exists_eq_left, exists_eq_right, exists_eq]
    try rfl
  · rintro i hi
    by_cases h : i < es.length
    · have hw : IntKind.i64.wrap ((i : Int) + 1) = ((i + 1 : Nat) : Int) := wsucc h (by omega)
      have hst : (es.take (i + 1)).map effectSum = (es.take i).map effectSum ++ [effectSum es[i]] := by rw [take_snoc _ _ h, List.map_append]; rfl
      have hlu : ((es.take i).map effectSum).length = i := by rw [List.length_map, List.length_take]; omega
      have he := hE _ (List.getElem_mem h)
      have hee : encF1 es[i] = [.bool es[i].done, .sl none (rows encE es[i].reads), .sl none (rows encE es[i].writes)] := rfl
      generalize (es.take i).map effectSum = u at hst hlu
      have htk : (rows encI u).take i = rows encI u := by rw [List.take_of_length_le]; rw [rows_length]; omega
      simp (config := { maxSteps := 4000000 }) only [go_sem, simprocAttr, ↓dnA, Tryz.f199, rows_length, nlt h, h, rows_get _ _ _ h, hee, nn0, hw, htk, hlu]
      refine CallTo.det (c_spec_EffectSum es[i] he.1 he.2) fun _ => ?_
      simp (config := { maxSteps := 4000000 }) only [go_sem, simprocAttr, ↓dnA, Tryz.f199, rows_length, nlt h, h, rows_get _ _ _ h, hee, nn0, hw, htk, hlu]
      repeat refine And.intro (by first | omega | (simp; done) | (simp; omega) | assumption) ?_
      refine ⟨i + 1, [(19, 600)], by omega, by dsimp only; omega, Weak.of (by rfl) ?_ ?_ (by rfl)⟩
      · simp (config := { maxSteps := 4000000 }) only [go_sem, simprocAttr, ↓dnA, Tryz.f199, rows_length, hst, frW, wk2, wk1, wkL, wkB, hpW, List.mem_cons, Prod.mk.injEq, exists_eq_left, exists_eq_right, exists_eq]
        simp [rows, encI]
      · simp (config := { maxSteps := 4000000 }) only [go_sem, simprocAttr, ↓dnA, Tryz.f199, rows_length, hst, frW, wk2, wk1, wkL, wkB, hpW, List.mem_cons, Prod.mk.injEq, exists_eq_left, exists_eq_right, exists_eq]
    · have hi' : i = es.length := by omega
      subst hi'
      rw [List.take_length]
      have hlu : (es.map effectSum).length = es.length := List.length_map ..
      by_cases h10 : es.length > 10
      · have hd : decide ((es.length : Int) > 10) = true := by rw [hg]; simp [h10]
        rw [if_pos h10]
        simp (config := { maxSteps := 4000000 }) only [go_sem, simprocAttr, ↓dnA, Tryz.f199, rows_length, nlf h, hlu, hd]
      · have hd : decide ((es.length : Int) > 10) = false := by rw [hg]; simp [h10]
        rw [if_neg h10]
        simp (config := { maxSteps := 4000000 }) only [go_sem, simprocAttr, ↓dnA, Tryz.f199, rows_length, nlf h, hlu, hd]
        refine CallTo.det (c_spec_SumOf 4 _ (es.map effectSum) (by rw [hlu]; omega)) fun _ => ?_
        simp (config := { maxSteps := 4000000 }) only [go_sem, simprocAttr, ↓dnA, Tryz.f199, rows_length, nlf h, hlu, hd]

end Go.Proofs.YtmibclbinebnjaaGreat

/- Contracts: the block behind a block. -/
set_option linter.unusedSimpArgs false
set_option linter.unusedVariables false
set_option maxRecDepth 20000
set_option maxHeartbeats 4000000
namespace Go.Proofs.YtmibclbinebnjaaGreat
open Go Go.RowKit

/-- The block behind a block. -/
def nextBlock (b : Block) (s : List Entry) (v : Int) (l : List Action) : Block × Bool :=
  if blockValid b && (b.height != 100) && storeValid s && inB v (b.view + 1) 1000 && actionsValid l then (⟨blockSum b, b.height + 1, v, l, rootOf (runSerial s l).1, effectsSum (runSerial s l).2⟩, true) else (⟨0, 0, 0, [], 0, 0⟩, false)

theorem nextBlock_len (b : Block) (s : List Entry) (v : Int) (l : List Action) : (nextBlock b s v l).1.list.length ≤ l.length := by
  unfold nextBlock
  split
  · exact Nat.le_refl _
  · simp

theorem runE_rlen (a : Action) (v : List Int) : (runE a v).reads.length ≤ 2 := by
  show ((readsA a).map _).length ≤ 2
  rw [List.length_map]; exact readsA_len _

theorem runAllE_effOk (v : List Int) (l : List Action) : ∀ i, i ≤ l.length → EffOk (runAllE v (l.take i)).2
  | 0, _ => fun e he => by simp [runAllE] at he
  | i + 1, hi => by
    have ih := runAllE_effOk v l i (by omega)
    rw [runAllE_take _ _ _ (by omega)]
    intro e he
    unfold stepR at he
    rcases List.mem_append.1 he with he | he
    · exact ih e he
    · rw [List.mem_singleton.1 he]
      have h1 := runE_rlen l[i] (runAllE v (l.take i)).1
      have h2 := runE_wlen l[i] (runAllE v (l.take i)).1
      omega

theorem runSerial_ok {s : List Entry} {l : List Action} (h1 : storeValid s = true) (h2 : actionsValid l = true) : storeValid (runSerial s l).1 = true ∧ (runSerial s l).2.length = l.length ∧ EffOk (runSerial s l).2 := by
  obtain ⟨ha, h10⟩ := actionsValid_ok h2
  have hV := valuesL_ok h1
  have hO := runAllE_ok ha hV l.length (Nat.le_refl _)
  have hE := runAllE_effOk (valuesL s) l l.length (Nat.le_refl _)
  rw [List.take_length] at hO hE
  unfold runSerial
  rw [h1, h2]
  exact ⟨storeL_valid hO.1, hO.2, hE⟩

theorem blockValid_bd {b : Block} (h : blockValid b = true) : (0 ≤ b.height ∧ b.height ≤ 100) ∧ (0 ≤ b.view ∧ b.view ≤ 1000) ∧ b.list.length ≤ 10 := by
  unfold blockValid at h
  simp only [Bool.and_eq_true] at h
  obtain ⟨⟨⟨⟨⟨_, _⟩, _⟩, h4⟩, h5⟩, h6⟩ := h
  exact ⟨inB_iff.1 h4, inB_iff.1 h5, (actionsValid_ok h6).2⟩

theorem c_impl_NextBlock (n n1 n2 : Option Bool) (b : Block) (s : List Entry) (v : Int) (l : List Action) (hb : b.list.length < 2 ^ 32) (hs : s.length < 2 ^ 32) (hl : l.length < 2 ^ 32) :
    Det Tryz.prog 150 [.agg (encBk n b), .sl n1 (rows encE s), .int .i64 v, .sl n2 (rows encA l)] (.tup [.agg (encBkF (nextBlock b s v l).1), .bool (nextBlock b s v l).2]) := by
  refine fspec_det tab_ok Tryz.call150 Tryz.func150 rfl 58 Tryz.ntmps150 (of_decide_eq_true rfl) fun B => codeK_sound tab_ok _ _ _ ?_
  unfold nextBlock
  simp (config := { maxSteps := 4000000 }) only [go_sem, simprocAttr, ↓dnA, Tryz.f150, rows_length, encBk]
  refine CallTo.det (c_impl_BlockValid n b (by omega)) fun _ => ?_
  cases h1 : blockValid b with
  | false => simp (config := { maxSteps := 4000000 }) only [go_sem, simprocAttr, ↓dnA, Tryz.f150, rows_length, encBk, encBkF, h1, rows_nil]
  | true =>
    obtain ⟨b1, b2, b3⟩ := blockValid_bd h1
    cases h2 : (b.height == 100) with
    | true =>
      have h2' : (b.height != 100) = false := by simpa using h2
      simp (config := { maxSteps := 4000000 }) only [go_sem, simprocAttr, ↓dnA, Tryz.f150, rows_length, encBk, encBkF, h1, h2, h2', rows_nil]
    | false =>
      have h2' : (b.height != 100) = true := by simpa using h2
      simp (config := { maxSteps := 4000000 }) only [go_sem, simprocAttr, ↓dnA, Tryz.f150, rows_length, encBk, encBkF, h1, h2, h2', rows_nil]
      refine CallTo.det (c_impl_StoreValid n1 s (by omega)) fun _ => ?_
      cases h3 : storeValid s with
      | false => simp (config := { maxSteps := 4000000 }) only [go_sem, simprocAttr, ↓dnA, Tryz.f150, rows_length, encBk, encBkF, h1, h2, h2', h3, rows_nil]
      | true =>
        have hw : IntKind.i64.wrap (b.view + 1) = b.view + 1 := wrap_small _ (by omega) (by omega)
        simp (config := { maxSteps := 4000000 }) only [go_sem, simprocAttr, ↓dnA, Tryz.f150, rows_length, encBk, encBkF, h1, h2, h2', h3, hw, rows_nil]
        refine CallTo.det (c_in _ _ _) fun _ => ?_
        cases h4 : inB v (b.view + 1) 1000 with
        | false => simp (config := { maxSteps := 4000000 }) only [go_sem, simprocAttr, ↓dnA, Tryz.f150, rows_length, encBk, encBkF, h1, h2, h2', h3, h4, hw, rows_nil]
        | true =>
          simp (config := { maxSteps := 4000000 }) only [go_sem, simprocAttr, ↓dnA, Tryz.f150, rows_length, encBk, encBkF, h1, h2, h2', h3, h4, hw, rows_nil]
          refine CallTo.det (c_impl_ActionsValid n2 l (by omega)) fun _ => ?_
          cases h5 : actionsValid l with
          | false => simp (config := { maxSteps := 4000000 }) only [go_sem, simprocAttr, ↓dnA, Tryz.f150, rows_length, encBk, encBkF, h1, h2, h2', h3, h4, h5, hw, rows_nil]
          | true =>
            obtain ⟨r1, r2, r3⟩ := runSerial_ok h3 h5
            obtain ⟨_, h10⟩ := actionsValid_ok h5
            have r4 := store_len r1
            simp (config := { maxSteps := 4000000 }) only [go_sem, simprocAttr, ↓dnA, Tryz.f150, rows_length, encBk, encBkF, h1, h2, h2', h3, h4, h5, hw, rows_nil]
            refine CallTo.det (c_impl_RunSerial n1 n2 s l hs hl) fun _ => ?_
            generalize runSerial s l = p at r1 r2 r3 r4
            obtain ⟨s', es⟩ := p
            dsimp only at r1 r2 r3 r4 ⊢
            simp (config := { maxSteps := 4000000 }) only [go_sem, simprocAttr, ↓dnA, Tryz.f150, rows_length, encBk, encBkF, h1, h2, h2', h3, h4, h5, hw, rows_nil]
            refine semL_draw tab_ok mixed_ rfl (ord := [(0, []), (2, []), (3, []), (4, []), (5, []), (6, []), (7, []), (9, []), (1, [2, 3, 4, 5, 6, 7, 9]), (8, [2, 3, 4, 5, 6, 9]), (10, [2, 3, 4, 5, 6]), (11, []), (12, []), (13, []), (14, [])]) (by dsimp only; decide +kernel) ?_
            have w1 : IntKind.i64.wrap (b.height + 1) = b.height + 1 := wrap_small _ (by omega) (by omega)
            simp (config := { maxSteps := 4000000 }) only [go_sem, simprocAttr, ↓dnA, Tryz.f150, rows_length, encBk, w1]
            refine CallTo.det (c_impl_BlockSum n b (by omega)) fun _ => ?_
            simp (config := { maxSteps := 4000000 }) only [go_sem, simprocAttr, ↓dnA, Tryz.f150, rows_length, encBk, w1]
            refine CallTo.det (c_impl_RootOf none s' (by omega)) fun _ => ?_
            simp (config := { maxSteps := 4000000 }) only [go_sem, simprocAttr, ↓dnA, Tryz.f150, rows_length, encBk, w1]
            refine CallTo.det (c_impl_EffectsSum none es (by omega) r3) fun _ => ?_
            simp (config := { maxSteps := 4000000 }) only [go_sem, simprocAttr, ↓dnA, Tryz.f150, rows_length, encBk, w1]
            refine CallTo.det (c_impl_Block_clone n2 ⟨blockSum b, b.height + 1, v, l, rootOf s', effectsSum es⟩ hl) fun _ => ?_
            simp (config := { maxSteps := 4000000 }) only [go_sem, simprocAttr, ↓dnA, Tryz.f150, rows_length, encBk, encBkF, w1, h2']

theorem c_spec_NextBlock (n n1 n2 : Option Bool) (b : Block) (s : List Entry) (v : Int) (l : List Action) (hb : b.list.length < 2 ^ 32) (hs : s.length < 2 ^ 32) (hl : l.length < 2 ^ 32) :
    Det Tryz.prog 145 [.agg (encBk n b), .sl n1 (rows encE s), .int .i64 v, .sl n2 (rows encA l)] (.tup [.agg (encBkF (nextBlock b s v l).1), .bool (nextBlock b s v l).2]) := by
  refine fspec_det tab_ok Tryz.call145 Tryz.func145 rfl 59 Tryz.ntmps145 (of_decide_eq_true rfl) fun B => codeK_sound tab_ok _ _ _ ?_
  unfold nextBlock
  simp (config := { maxSteps := 4000000 }) only [go_sem, simprocAttr, ↓dnA, Tryz.f145, rows_length, encBk]
  refine CallTo.det (c_spec_BlockValid n b (by omega)) fun _ => ?_
  cases h1 : blockValid b with
  | false => simp (config := { maxSteps := 4000000 }) only [go_sem, simprocAttr, ↓dnA, Tryz.f145, rows_length, encBk, encBkF, h1, rows_nil]
  | true =>
    obtain ⟨b1, b2, b3⟩ := blockValid_bd h1
    cases h2 : (b.height == 100) with
    | true =>
      have h2' : (b.height != 100) = false := by simpa using h2
      simp (config := { maxSteps := 4000000 }) only [go_sem, simprocAttr, ↓dnA, Tryz.f145, rows_length, encBk, encBkF, h1, h2, h2', rows_nil]
    | false =>
      have h2' : (b.height != 100) = true := by simpa using h2
      simp (config := { maxSteps := 4000000 }) only [go_sem, simprocAttr, ↓dnA, Tryz.f145, rows_length, encBk, encBkF, h1, h2, h2', rows_nil]
      refine CallTo.det (c_spec_StoreValid n1 s (by omega)) fun _ => ?_
      cases h3 : storeValid s with
      | false => simp (config := { maxSteps := 4000000 }) only [go_sem, simprocAttr, ↓dnA, Tryz.f145, rows_length, encBk, encBkF, h1, h2, h2', h3, rows_nil]
      | true =>
        have hw : IntKind.i64.wrap (b.view + 1) = b.view + 1 := wrap_small _ (by omega) (by omega)
        simp (config := { maxSteps := 4000000 }) only [go_sem, simprocAttr, ↓dnA, Tryz.f145, rows_length, encBk, encBkF, h1, h2, h2', h3, hw, rows_nil]
        refine CallTo.det (c_l1In _ _ _) fun _ => ?_
        cases h4 : inB v (b.view + 1) 1000 with
        | false => simp (config := { maxSteps := 4000000 }) only [go_sem, simprocAttr, ↓dnA, Tryz.f145, rows_length, encBk, encBkF, h1, h2, h2', h3, h4, hw, rows_nil]
        | true =>
          simp (config := { maxSteps := 4000000 }) only [go_sem, simprocAttr, ↓dnA, Tryz.f145, rows_length, encBk, encBkF, h1, h2, h2', h3, h4, hw, rows_nil]
          refine CallTo.det (c_spec_ActionsValid n2 l (by omega)) fun _ => ?_
          cases h5 : actionsValid l with
          | false => simp (config := { maxSteps := 4000000 }) only [go_sem, simprocAttr, ↓dnA, Tryz.f145, rows_length, encBk, encBkF, h1, h2, h2', h3, h4, h5, hw, rows_nil]
          | true =>
            obtain ⟨r1, r2, r3⟩ := runSerial_ok h3 h5
            obtain ⟨_, h10⟩ := actionsValid_ok h5
            have r4 := store_len r1
            simp (config := { maxSteps := 4000000 }) only [go_sem, simprocAttr, ↓dnA, Tryz.f145, rows_length, encBk, encBkF, h1, h2, h2', h3, h4, h5, hw, rows_nil]
            refine CallTo.det (c_spec_RunSerial n1 n2 s l hs hl) fun _ => ?_
            generalize runSerial s l = p at r1 r2 r3 r4
            obtain ⟨s', es⟩ := p
            dsimp only at r1 r2 r3 r4 ⊢
            simp (config := { maxSteps := 4000000 }) only [go_sem, simprocAttr, ↓dnA, Tryz.f145, rows_length, encBk, encBkF, h1, h2, h2', h3, h4, h5, hw, rows_nil]
            refine semL_draw tab_ok mixed_ rfl (ord := [(0, []), (2, []), (3, []), (4, []), (5, []), (7, []), (9, []), (11, []), (1, [2, 3, 4, 5, 7, 9, 11]), (6, [0, 2, 3, 4, 5, 7, 9, 11]), (8, [2, 3, 4, 5, 9, 11]), (10, [2, 3, 4, 5, 11]), (12, [2, 3, 4, 5]), (13, []), (14, []), (15, [])]) (by dsimp only; decide +kernel) ?_
            have a1 := all_rows encA AV.flat (fun _ => rfl) l
            have a2 := all_rows encA AV.one (fun _ => rfl) l
            have a3 := sz0_rows encA 4 (fun _ => rfl) l
            have w1 : IntKind.i64.wrap (b.height + 1) = b.height + 1 := wrap_small _ (by omega) (by omega)
            simp (config := { maxSteps := 4000000 }) only [go_sem, simprocAttr, ↓dnA, Tryz.f145, rows_length, encBk, w1]
            refine CallTo.det (c_spec_BlockSum n b (by omega)) fun _ => ?_
            simp (config := { maxSteps := 4000000 }) only [go_sem, simprocAttr, ↓dnA, Tryz.f145, rows_length, encBk, w1]
            repeat refine And.intro (by first | omega | (simp; done) | (simp; omega) | assumption) ?_
            refine CallTo.det (c_spec_RootOf _ s' (by omega)) fun _ => ?_
            simp (config := { maxSteps := 4000000 }) only [go_sem, simprocAttr, ↓dnA, Tryz.f145, rows_length, encBk, w1]
            refine CallTo.det (c_spec_EffectsSum _ es (by omega) r3) fun _ => ?_
            simp (config := { maxSteps := 4000000 }) only [go_sem, simprocAttr, ↓dnA, Tryz.f145, rows_length, encBk, encBkF, w1, h2']

end Go.Proofs.YtmibclbinebnjaaGreat

/- Contracts: putting blocks, growing trees. -/
set_option linter.unusedSimpArgs false
set_option linter.unusedVariables false
set_option maxRecDepth 20000
set_option maxHeartbeats 4000000
namespace Go.Proofs.YtmibclbinebnjaaGreat
open Go Go.RowKit

def putT (t : Tree) (b : Block) : Tree := ⟨t.base, t.blocks ++ [b], t.before ++ [findB t.blocks b.before]⟩
open Classical in
noncomputable def putBlock (t : Tree) (b : Block) : Tree × Bool := if treeValid t then (if treeValid (putT t b) then (putT t b, true) else (t, false)) else (⟨[], [], []⟩, false)

theorem c_impl_PutBlock (n n1 n2 n3 : Option Bool) (t : Tree) (b : Block) (hx : TreeS32 t) (hb : b.list.length < 2 ^ 32) :
    Det Tryz.prog 152 [.agg (encT n1 n2 n3 t), .agg (encBk n b)] (.tup [.agg (encTF (putBlock t b).1), .bool (putBlock t b).2]) := by
  refine fspec_det tab_ok Tryz.call152 Tryz.func152 rfl 35 Tryz.ntmps152 (of_decide_eq_true rfl) fun B => codeK_sound tab_ok _ _ _ ?_
  unfold putBlock
  simp (config := { maxSteps := 4000000 }) only [go_sem, simprocAttr, ↓dnA, Tryz.f152, rows_length, encT, encBk]
  refine CallTo.det (c_impl_BlockTreeValid n1 n2 n3 t hx.sz) fun _ => ?_
  cases h1 : treeValid t with
  | false => simp (config := { maxSteps := 4000000 }) only [go_sem, simprocAttr, ↓dnA, Tryz.f152, rows_length, encT, encTF, h1, rows_nil]
  | true =>
    have ht := treeOk_of h1
    have hlen := ht.len
    have hbl := ht.bef
    simp (config := { maxSteps := 4000000 }) only [go_sem, simprocAttr, ↓dnA, Tryz.f152, rows_length, encT, encBk, h1]
    refine CallTo.det (c_impl_Tree_clone n1 n2 n3 t hx) fun _ => ?_
    simp (config := { maxSteps := 4000000 }) only [go_sem, simprocAttr, ↓dnA, Tryz.f152, rows_length, encT, encTF, encBk, h1]
    refine semL_draw tab_ok mixed_ rfl (ord := [(0, []), (1, []), (2, []), (3, [0, 1]), (4, [0, 1]), (5, []), (6, []), (7, [])]) (by dsimp only; decide +kernel) ?_
    simp (config := { maxSteps := 4000000 }) only [go_sem, simprocAttr, ↓dnA, Tryz.f152, rows_length, encT, encBk, h1]
    refine CallTo.det (c_impl_Block_clone n b hb) fun _ => ?_
    have tk1 : (rows encB1 t.blocks).take t.blocks.length = rows encB1 t.blocks := by rw [List.take_of_length_le]; rw [rows_length]; omega
    have tk2 : (rows encI t.before).take t.before.length = rows encI t.before := by rw [List.take_of_length_le]; rw [rows_length]; omega
    simp (config := { maxSteps := 4000000 }) only [go_sem, simprocAttr, ↓dnA, Tryz.f152, rows_length, encT, encBk, encBkF, h1, tk1]
    repeat refine And.intro (by first | omega | (simp; done) | (simp; omega) | assumption) ?_
    refine semL_draw tab_ok mixed_ rfl (ord := [(0, []), (1, []), (2, []), (3, []), (4, []), (5, [0, 1]), (6, [0, 1]), (7, []), (8, []), (9, [])]) (by dsimp only; decide +kernel) ?_
    simp (config := { maxSteps := 4000000 }) only [go_sem, simprocAttr, ↓dnA, Tryz.f152, rows_length, encT, encBk, h1]
    refine CallTo.det (c_impl_find n1 n2 n3 t b.before hx.sz) fun _ => ?_
    have e1 : rows encB1 t.blocks ++ [[AV.int IntKind.i64 b.before, AV.int IntKind.i64 b.height, AV.int IntKind.i64 b.view, AV.sl none (rows encA b.list), AV.int IntKind.i64 b.root, AV.int IntKind.i64 b.effects]] = rows encB1 (t.blocks ++ [b]) := by
      rw [← rows_snoc]; rfl
    have e2 : rows encI t.before ++ [[AV.int IntKind.i64 (findB t.blocks b.before)]] = rows encI (t.before ++ [findB t.blocks b.before]) := by
      rw [← rows_snoc]; rfl
    have l1 : (t.blocks ++ [b]).length = t.blocks.length + 1 := by simp
    have l2 : (t.before ++ [findB t.blocks b.before]).length = t.before.length + 1 := by simp
    have hu : TreeSz (putT t b) := ⟨hx.sz.base, by show (t.blocks ++ [b]).length < _; rw [l1]; omega, by show (t.before ++ [findB t.blocks b.before]).length < _; rw [l2]; omega, fun c hc => by
      rcases List.mem_append.1 hc with e | e
      · exact hx.sz.list c e
      · rw [List.mem_singleton.1 e]; omega⟩
    have hv := c_impl_BlockTreeValid none (some true) (some true) (putT t b) hu
    have hf : encTF (putT t b) = [.osl false 2 (rows encE t.base), .osl false 6 (rows encB1 (t.blocks ++ [b])), .osl false 1 (rows encI (t.before ++ [findB t.blocks b.before]))] := rfl
    simp (config := { maxSteps := 4000000 }) only [go_sem, simprocAttr, ↓dnA, Tryz.f152, rows_length, encT, encBk, h1, tk2, e1, e2, l1, l2]
    repeat refine And.intro (by first | omega | (simp; done) | (simp; omega) | assumption) ?_
    refine CallTo.det hv fun _ => ?_
    cases h2 : treeValid (putT t b) with
    | false =>
      simp (config := { maxSteps := 4000000 }) only [go_sem, simprocAttr, ↓dnA, Tryz.f152, rows_length, encT, encBk, h1, h2]
      refine CallTo.det (c_impl_Tree_clone n1 n2 n3 t hx) fun _ => ?_
      simp (config := { maxSteps := 4000000 }) only [go_sem, simprocAttr, ↓dnA, Tryz.f152, rows_length, encT, encTF, h1, h2]
    | true =>
      simp (config := { maxSteps := 4000000 }) only [go_sem, simprocAttr, ↓dnA, Tryz.f152, rows_length, encT, encBk, h1, h2, hf, tk2, e1, e2, l1, l2]

open Classical in
/-- A tree with the block behind the block n, of actions on the store there. -/
noncomputable def growTree (t : Tree) (n v : Int) (l : List Action) : Tree × Bool :=
  if treeValid t then (if inB n 0 ((t.blocks.length : Int) - 1) then (if (nextBlock (t.blk n.toNat) (storeOf t n) v l).2 then putBlock t (nextBlock (t.blk n.toNat) (storeOf t n) v l).1 else (t, false)) else (t, false)) else (⟨[], [], []⟩, false)

theorem c_impl_GrowTree (n0 n1 n2 n3 : Option Bool) (t : Tree) (n v : Int) (l : List Action) (hx : TreeS32 t) (hl : l.length < 2 ^ 32) :
    Det Tryz.prog 77 [.agg (encT n1 n2 n3 t), .int .i64 n, .int .i64 v, .sl n0 (rows encA l)] (.tup [.agg (encTF (growTree t n v l).1), .bool (growTree t n v l).2]) := by
  refine fspec_det tab_ok Tryz.call77 Tryz.func77 rfl 45 Tryz.ntmps77 (of_decide_eq_true rfl) fun B => codeK_sound tab_ok _ _ _ ?_
  unfold growTree
  simp (config := { maxSteps := 4000000 }) only [go_sem, simprocAttr, ↓dnA, Tryz.f77, rows_length, encT]
  refine CallTo.det (c_impl_BlockTreeValid n1 n2 n3 t hx.sz) fun _ => ?_
  cases h1 : treeValid t with
  | false => simp (config := { maxSteps := 4000000 }) only [go_sem, simprocAttr, ↓dnA, Tryz.f77, rows_length, encT, encTF, h1, rows_nil]
  | true =>
    have ht := treeOk_of h1
    have hlen := ht.len
    simp (config := { maxSteps := 4000000 }) only [go_sem, simprocAttr, ↓dnA, Tryz.f77, rows_length, encT, h1]
    refine CallTo.det (c_impl_has n1 n2 n3 t n hx.sz) fun _ => ?_
    cases h2 : inB n 0 ((t.blocks.length : Int) - 1) with
    | false =>
      simp (config := { maxSteps := 4000000 }) only [go_sem, simprocAttr, ↓dnA, Tryz.f77, rows_length, encT, h1, h2]
      refine CallTo.det (c_impl_Tree_clone n1 n2 n3 t hx) fun _ => ?_
      simp (config := { maxSteps := 4000000 }) only [go_sem, simprocAttr, ↓dnA, Tryz.f77, rows_length, encT, encTF, h1, h2]
    | true =>
      have hb := inB_iff.1 h2
      obtain ⟨k, hk⟩ : ∃ k : Nat, n = (k : Int) := ⟨n.toNat, by omega⟩
      subst hk
      have hkl : k < t.blocks.length := by omega
      have hbk := t.blk_get k hkl
      have hbl := hx.list _ (List.getElem_mem hkl)
      rw [hbk] at hbl
      have hso : (storeOf t (k : Int)).length ≤ 32 := by
        have := store_len (storeL_valid (afterV_ok ht (n := (k : Int)) (by omega)))
        unfold storeOf
        rw [h1, h2]
        exact this
      rw [Int.toNat_natCast]
      simp (config := { maxSteps := 4000000 }) only [go_sem, simprocAttr, ↓dnA, Tryz.f77, rows_length, encT, h1, h2]
      refine semL_draw tab_ok mixed_ rfl (ord := [(0, []), (1, []), (2, []), (3, []), (4, []), (5, []), (6, []), (8, []), (9, []), (7, [0, 1, 2, 3, 4, 8, 9]), (10, []), (11, []), (12, []), (13, []), (14, [0, 1, 2, 3, 4, 5, 6, 8, 9, 11, 12, 13]), (15, [13]), (16, [])]) (by dsimp only; decide +kernel) ?_
      simp (config := { maxSteps := 4000000 }) only [go_sem, simprocAttr, ↓dnA, Tryz.f77, rows_length, encT, h1, h2, nlt hkl, hkl, rows_get _ _ _ hkl, hbk, encB1, encBk, nn0]
      refine CallTo.det (c_impl_StoreOf n1 n2 n3 t k hx.sz) fun _ => ?_
      simp (config := { maxSteps := 4000000 }) only [go_sem, simprocAttr, ↓dnA, Tryz.f77, rows_length, encT, h1, h2, nlt hkl, hkl, rows_get _ _ _ hkl, hbk, encB1, encBk, nn0]
      have hpl := nextBlock_len (t.blk k) (storeOf t k) v l
      refine CallTo.det (c_impl_NextBlock none none n0 (t.blk k) (storeOf t k) v l hbl (by omega) hl) fun _ => ?_
      generalize nextBlock (t.blk k) (storeOf t k) v l = p at hpl
      obtain ⟨nb, ok⟩ := p
      dsimp only at hpl ⊢
      cases ok with
      | false =>
        simp (config := { maxSteps := 4000000 }) only [go_sem, simprocAttr, ↓dnA, Tryz.f77, rows_length, encT, h1, h2, nlt hkl, hkl, rows_get _ _ _ hkl, hbk, encB1, encBk, encBkF, nn0]
        refine CallTo.det (c_impl_Tree_clone n1 n2 n3 t hx) fun _ => ?_
        simp (config := { maxSteps := 4000000 }) only [go_sem, simprocAttr, ↓dnA, Tryz.f77, rows_length, encT, encTF, h1, h2, encBkF]
      | true =>
        simp (config := { maxSteps := 4000000 }) only [go_sem, simprocAttr, ↓dnA, Tryz.f77, rows_length, encT, h1, h2, nlt hkl, hkl, rows_get _ _ _ hkl, hbk, encB1, encBk, encBkF, nn0]
        refine CallTo.det (c_impl_PutBlock none n1 n2 n3 t nb hx (by omega)) fun _ => ?_
        simp (config := { maxSteps := 4000000 }) only [go_sem, simprocAttr, ↓dnA, Tryz.f77, rows_length, encT, encTF, h1, h2, encBkF]

end Go.Proofs.YtmibclbinebnjaaGreat

/- Contracts: the reference's copies of trees, putting blocks. -/
set_option linter.unusedSimpArgs false
set_option linter.unusedVariables false
set_option maxRecDepth 20000
set_option maxHeartbeats 4000000
namespace Go.Proofs.YtmibclbinebnjaaGreat
open Go Go.RowKit

theorem putT_tsz (t : Tree) (b : Block) : tsz (putT t b) = tsz t + b.list.length + 2 := by
  unfold tsz putT
  simp only [lsum_snoc, List.length_append, List.length_singleton]
  omega
theorem putBlock_tsz (t : Tree) (b : Block) : tsz (putBlock t b).1 ≤ tsz t + b.list.length + 2 := by
  unfold putBlock
  split
  · split
    · exact Nat.le_of_eq (putT_tsz t b)
    · show tsz t ≤ _; omega
  · show tsz ⟨[], [], []⟩ ≤ _; simp [tsz, lsum]

theorem growTree_tsz (t : Tree) (n v : Int) (l : List Action) : tsz (growTree t n v l).1 ≤ tsz t + l.length + 2 := by
  unfold growTree
  split
  · split
    · split
      · have := putBlock_tsz t (nextBlock (t.blk n.toNat) (storeOf t n) v l).1
        have := nextBlock_len (t.blk n.toNat) (storeOf t n) v l
        omega
      · show tsz t ≤ _; omega
    · show tsz t ≤ _; omega
  · show tsz ⟨[], [], []⟩ ≤ _; simp [tsz, lsum]

theorem putBlock_ok {t : Tree} (ht : TreeOk t) (b : Block) : TreeOk (putBlock t b).1 := by
  unfold putBlock
  rw [if_pos (treeValid_true ht)]
  split
  · rename_i h; exact treeOk_of h
  · exact ht

theorem growTree_ok {t : Tree} (ht : TreeOk t) (n v : Int) (l : List Action) : TreeOk (growTree t n v l).1 := by
  unfold growTree
  rw [if_pos (treeValid_true ht)]
  split
  · split
    · exact putBlock_ok ht _
    · exact ht
  · exact ht

theorem c_spec_PutBlock (n1 n2 n3 n : Option Bool) (t : Tree) (b : Block) (hx : TreeS32 t) (hb : b.list.length < 2 ^ 32) :
    Det Tryz.prog 147 [.agg (encT n1 n2 n3 t), .agg (encBk n b)] (.tup [.agg (encTF (putBlock t b).1), .bool (putBlock t b).2]) := by
  refine fspec_det tab_ok Tryz.call147 Tryz.func147 rfl 39 Tryz.ntmps147 (of_decide_eq_true rfl) fun B => codeK_sound tab_ok _ _ _ ?_
  unfold putBlock
  simp (config := { maxSteps := 4000000 }) only [go_sem, simprocAttr, ↓dnA, Tryz.f147, rows_length, encT, encBk]
  refine CallTo.det (c_spec_BlockTreeValid n1 n2 n3 t hx.sz) fun _ => ?_
  cases h1 : treeValid t with
  | false => simp (config := { maxSteps := 4000000 }) only [go_sem, simprocAttr, ↓dnA, Tryz.f147, rows_length, encT, encTF, h1, rows_nil]
  | true =>
    have ht := treeOk_of h1
    have hlen := ht.len
    have hbl := ht.bef
    have c1 := all_rows encA AV.flat (fun _ => rfl) b.list
    have c2 := all_rows encA AV.one (fun _ => rfl) b.list
    have c3 := sz0_rows encA 4 (fun _ => rfl) b.list
    simp (config := { maxSteps := 4000000 }) only [go_sem, simprocAttr, ↓dnA, Tryz.f147, rows_length, encT, encBk, h1]
    refine CallTo.det (c_spec_l13Copy n1 n2 n3 t hx) fun _ => ?_
    have tk1 : (rows encB1 t.blocks).take t.blocks.length = rows encB1 t.blocks := by rw [List.take_of_length_le]; rw [rows_length]; omega
    have tk2 : (rows encI t.before).take t.before.length = rows encI t.before := by rw [List.take_of_length_le]; rw [rows_length]; omega
    simp (config := { maxSteps := 4000000 }) only [go_sem, simprocAttr, ↓dnA, Tryz.f147, rows_length, encT, encTF, encBk, h1, tk1]
    repeat refine And.intro (by first | omega | (simp; done) | (simp; omega) | assumption) ?_
    refine semL_draw tab_ok mixed_ rfl (ord := [(0, []), (1, []), (2, []), (3, []), (4, []), (5, [0, 1]), (6, [0, 1]), (7, []), (8, []), (9, [])]) (by dsimp only; decide +kernel) ?_
    simp (config := { maxSteps := 4000000 }) only [go_sem, simprocAttr, ↓dnA, Tryz.f147, rows_length, encT, encTF, encBk, h1]
    refine CallTo.det (c_spec_find n1 n2 n3 t b.before hx.sz) fun _ => ?_
    have e1 : rows encB1 t.blocks ++ [[AV.int IntKind.i64 b.before, AV.int IntKind.i64 b.height, AV.int IntKind.i64 b.view, AV.sl none (rows encA b.list), AV.int IntKind.i64 b.root, AV.int IntKind.i64 b.effects]] = rows encB1 (t.blocks ++ [b]) := by
      rw [← rows_snoc]; rfl
    have e2 : rows encI t.before ++ [[AV.int IntKind.i64 (findB t.blocks b.before)]] = rows encI (t.before ++ [findB t.blocks b.before]) := by
      rw [← rows_snoc]; rfl
    have l1 : (t.blocks ++ [b]).length = t.blocks.length + 1 := by simp
    have l2 : (t.before ++ [findB t.blocks b.before]).length = t.before.length + 1 := by simp
    have hu : TreeSz (putT t b) := ⟨hx.sz.base, by show (t.blocks ++ [b]).length < _; rw [l1]; omega, by show (t.before ++ [findB t.blocks b.before]).length < _; rw [l2]; omega, fun c hc => by
      rcases List.mem_append.1 hc with e | e
      · exact hx.sz.list c e
      · rw [List.mem_singleton.1 e]; omega⟩
    have hv := c_spec_BlockTreeValid none (some true) (some true) (putT t b) hu
    have hf : encTF (putT t b) = [.osl false 2 (rows encE t.base), .osl false 6 (rows encB1 (t.blocks ++ [b])), .osl false 1 (rows encI (t.before ++ [findB t.blocks b.before]))] := rfl
    simp (config := { maxSteps := 4000000 }) only [go_sem, simprocAttr, ↓dnA, Tryz.f147, rows_length, encT, encTF, encBk, h1, tk2, e1, e2, l1, l2]
    repeat refine And.intro (by first | omega | (simp; done) | (simp; omega) | assumption) ?_
    refine CallTo.det hv fun _ => ?_
    cases h2 : treeValid (putT t b) with
    | false =>
      simp (config := { maxSteps := 4000000 }) only [go_sem, simprocAttr, ↓dnA, Tryz.f147, rows_length, encT, encBk, h1, h2]
      refine CallTo.det (c_spec_l13Copy n1 n2 n3 t hx) fun _ => ?_
      simp (config := { maxSteps := 4000000 }) only [go_sem, simprocAttr, ↓dnA, Tryz.f147, rows_length, encT, encTF, h1, h2]
    | true =>
      simp (config := { maxSteps := 4000000 }) only [go_sem, simprocAttr, ↓dnA, Tryz.f147, rows_length, encT, encBk, h1, h2, hf, tk2, e1, e2, l1, l2]

theorem c_spec_GrowTree (n1 n2 n3 n0 : Option Bool) (t : Tree) (n v : Int) (l : List Action) (hx : TreeS32 t) (hl : l.length < 2 ^ 32) :
    Det Tryz.prog 75 [.agg (encT n1 n2 n3 t), .int .i64 n, .int .i64 v, .sl n0 (rows encA l)] (.tup [.agg (encTF (growTree t n v l).1), .bool (growTree t n v l).2]) := by
  refine fspec_det tab_ok Tryz.call75 Tryz.func75 rfl 48 Tryz.ntmps75 (of_decide_eq_true rfl) fun B => codeK_sound tab_ok _ _ _ ?_
  unfold growTree
  simp (config := { maxSteps := 4000000 }) only [go_sem, simprocAttr, ↓dnA, Tryz.f75, rows_length, encT]
  refine CallTo.det (c_spec_BlockTreeValid n1 n2 n3 t hx.sz) fun _ => ?_
  cases h1 : treeValid t with
  | false => simp (config := { maxSteps := 4000000 }) only [go_sem, simprocAttr, ↓dnA, Tryz.f75, rows_length, encT, encTF, h1, rows_nil]
  | true =>
    have ht := treeOk_of h1
    have hlen := ht.len
    have hw : IntKind.i64.wrap ((t.blocks.length : Int) - 1) = (t.blocks.length : Int) - 1 := wrap_small _ (by omega) (by omega)
    simp (config := { maxSteps := 4000000 }) only [go_sem, simprocAttr, ↓dnA, Tryz.f75, rows_length, encT, h1, hw]
    refine CallTo.det (c_l1In _ _ _) fun _ => ?_
    cases h2 : inB n 0 ((t.blocks.length : Int) - 1) with
    | false =>
      simp (config := { maxSteps := 4000000 }) only [go_sem, simprocAttr, ↓dnA, Tryz.f75, rows_length, encT, h1, h2, hw]
      refine CallTo.det (c_spec_l13Copy n1 n2 n3 t hx) fun _ => ?_
      simp (config := { maxSteps := 4000000 }) only [go_sem, simprocAttr, ↓dnA, Tryz.f75, rows_length, encT, encTF, h1, h2, hw]
    | true =>
      have hb := inB_iff.1 h2
      obtain ⟨k, hk⟩ : ∃ k : Nat, n = (k : Int) := ⟨n.toNat, by omega⟩
      subst hk
      have hkl : k < t.blocks.length := by omega
      have hbk := t.blk_get k hkl
      have hbl := hx.list _ (List.getElem_mem hkl)
      rw [hbk] at hbl
      have hso : (storeOf t (k : Int)).length ≤ 32 := by
        have := store_len (storeL_valid (afterV_ok ht (n := (k : Int)) (by omega)))
        unfold storeOf
        rw [h1, h2]
        exact this
      rw [Int.toNat_natCast]
      simp (config := { maxSteps := 4000000 }) only [go_sem, simprocAttr, ↓dnA, Tryz.f75, rows_length, encT, h1, h2, hw]
      refine semL_draw tab_ok mixed_ rfl (ord := [(0, []), (1, []), (2, []), (3, []), (4, []), (5, []), (6, []), (8, []), (9, []), (7, [0, 1, 2, 3, 4, 8, 9]), (10, []), (11, []), (12, []), (13, []), (14, [0, 1, 2, 3, 4, 5, 6, 8, 9, 11, 12, 13]), (15, [13]), (16, [])]) (by dsimp only; decide +kernel) ?_
      simp (config := { maxSteps := 4000000 }) only [go_sem, simprocAttr, ↓dnA, Tryz.f75, rows_length, encT, h1, h2, hw, nlt hkl, hkl, rows_get _ _ _ hkl, hbk, encB1, encBk, nn0]
      refine CallTo.det (c_spec_StoreOf n1 n2 n3 t k hx) fun _ => ?_
      simp (config := { maxSteps := 4000000 }) only [go_sem, simprocAttr, ↓dnA, Tryz.f75, rows_length, encT, h1, h2, hw, nlt hkl, hkl, rows_get _ _ _ hkl, hbk, encB1, encBk, nn0]
      have hpl := nextBlock_len (t.blk k) (storeOf t k) v l
      refine CallTo.det (c_spec_NextBlock none none n0 (t.blk k) (storeOf t k) v l hbl (by omega) hl) fun _ => ?_
      generalize nextBlock (t.blk k) (storeOf t k) v l = p at hpl
      obtain ⟨nb, ok⟩ := p
      dsimp only at hpl ⊢
      cases ok with
      | false =>
        simp (config := { maxSteps := 4000000 }) only [go_sem, simprocAttr, ↓dnA, Tryz.f75, rows_length, encT, h1, h2, hw, nlt hkl, hkl, rows_get _ _ _ hkl, hbk, encB1, encBk, encBkF, encBkO, nn0]
        refine CallTo.det (c_spec_l13Copy n1 n2 n3 t hx) fun _ => ?_
        simp (config := { maxSteps := 4000000 }) only [go_sem, simprocAttr, ↓dnA, Tryz.f75, rows_length, encT, encTF, h1, h2, hw, encBkF, encBkO]
      | true =>
        simp (config := { maxSteps := 4000000 }) only [go_sem, simprocAttr, ↓dnA, Tryz.f75, rows_length, encT, h1, h2, hw, nlt hkl, hkl, rows_get _ _ _ hkl, hbk, encB1, encBk, encBkF, encBkO, nn0]
        refine CallTo.det (c_spec_PutBlock n1 n2 n3 none t nb hx (by omega)) fun _ => ?_
        simp (config := { maxSteps := 4000000 }) only [go_sem, simprocAttr, ↓dnA, Tryz.f75, rows_length, encT, encTF, h1, h2, hw, encBkF, encBkO]

end Go.Proofs.YtmibclbinebnjaaGreat

/- Arguments of the laws, by their types. -/
set_option linter.unusedSimpArgs false
namespace Go.Proofs.YtmibclbinebnjaaGreat
open Go Go.ChangeShapes Go.WideShapes Go.ChangeAt Go.RowKit

theorem own_ : ownKnob Tryz.prog.godebug = none := by kernel_rfl
theorem laidOut_ : laidOutB Tryz.prog = true := by kernel_rfl

theorem ty_int {cs : List AV} (h : Ty tab 3 cs) : ∃ n, cs = [.int .i64 n] ∧ IntKind.i64.has n := h.int_inv tabAt_3 rfl
theorem ty_bool {cs : List AV} (h : Ty tab 4 cs) : ∃ b, cs = [.bool b] := h.bool_inv tabAt_4 rfl
theorem ty_intA {a : AV} (h : TyArg tab 3 a) : ∃ n, a = .int .i64 n := by
  obtain ⟨n, e, _⟩ := ty_int (h.one_inv tabAt_3 rfl)
  exact ⟨n, by simpa using e⟩

/-- The cells of one value read as the cells of a datum. -/
def Leqs (r c : List AV) : Prop := r.length = c.length ∧ ∀ (j : Nat) (_ : j < c.length), Leq (r.getD j .top) (c.getD j .top)
theorem Leqs.refl (c : List AV) : Leqs c c := ⟨rfl, fun _ _ => Leq.refl _⟩
theorem Leqs.of_eq {r c : List AV} (h : r = c) : Leqs r c := h ▸ Leqs.refl _
theorem Leqs.agg {r c : List AV} (h : Leqs r c) : Leq (.agg r) (.agg c) := Leq.agg h.1 h.2

/-- A slice of elements that read as data. -/
theorem ty_rows {α : Type} (e : α → List AV) (Q : α → Prop) {et : TypeId} {es : List (List AV)} (h : ∀ (j : Nat) (_ : j < es.length), Ty tab et (es.getD j [])) (hx : ∀ r, Ty tab et r → ∃ x, Q x ∧ Leqs r (e x)) :
    ∃ xs : List α, es.length = xs.length ∧ (∀ x, x ∈ xs → Q x) ∧ ∀ nn, Leq (.sl nn es) (.sl nn (rows e xs)) := by
  have key : ∃ xs : List α, es.length = xs.length ∧ (∀ x, x ∈ xs → Q x) ∧ ∀ (i : Nat) (hi : i < xs.length), Leqs (es.getD i []) (e (xs[i]'hi)) := by
    induction es with
    | nil => exact ⟨[], rfl, fun x hx => (by cases hx), fun i hi => absurd hi (by simp)⟩
    | cons r rs ih =>
      obtain ⟨x, hq, hx1⟩ := hx r (h 0 (by simp))
      obtain ⟨xs, h1, h2, h3⟩ := ih (fun j hj => h (j + 1) (by simpa using hj))
      refine ⟨x :: xs, by simp [h1], fun y hy => ?_, fun i hi => ?_⟩
      · rcases List.mem_cons.1 hy with rfl | hy
        · exact hq
        · exact h2 y hy
      · cases i with
        | zero => exact hx1
        | succ i => exact h3 i (by simpa using hi)
  obtain ⟨xs, h1, h2, h3⟩ := key
  refine ⟨xs, h1, h2, fun nn => Leq.sl (by rw [rows_length, h1]) (fun i hi => ?_) (fun i j hi hj => ?_)⟩
  · rw [rows_length] at hi
    rw [rows_get _ _ _ hi]
    exact (h3 i hi).1
  · rw [rows_length] at hi
    rw [rows_get _ _ _ hi] at hj ⊢
    exact (h3 i hi).2 j hj

/-- A slice, as one cell. -/
theorem ty_slice {α : Type} (e : α → List AV) (Q : α → Prop) {t et : TypeId} {ti : TI} {cs : List AV} (h : Ty tab t cs) (ht : tab t = some ti) (hk : ti.k = .slice et) (hx : ∀ r, Ty tab et r → ∃ x, Q x ∧ Leqs r (e x)) :
    ∃ (n : Option Bool) (xs : List α), xs.length ≤ 9223372036854775807 ∧ (∀ x, x ∈ xs → Q x) ∧ Leqs cs [.sl n (rows e xs)] ∧ Leqs cs [.sl none (rows e xs)] := by
  obtain ⟨nn, es, rfl, _, hl, he⟩ := h.slice_inv ht hk
  obtain ⟨xs, h1, h2, h3⟩ := ty_rows e Q he hx
  refine ⟨some nn, xs, by omega, h2, ⟨rfl, fun j hj => ?_⟩, ⟨rfl, fun j hj => ?_⟩⟩
  · have : j = 0 := by simpa using hj
    subst this; exact h3 _
  · have : j = 0 := by simpa using hj
    subst this; exact (h3 (some nn)).trans Leq.slN

theorem ty_bools {a : AV} (h : TyArg tab 48 a) : ∃ (n : Option Bool) (bs : List Bool), Leq a (.sl n (boolRows bs)) ∧ bs.length ≤ 9223372036854775807 := by
  obtain ⟨n, xs, h1, _, h2, _⟩ := ty_slice (fun b : Bool => [AV.bool b]) (fun _ => True) (h.one_inv tabAt_48 rfl) tabAt_48 rfl fun r hr => by
    obtain ⟨b, rfl⟩ := ty_bool hr
    exact ⟨b, trivial, Leqs.refl _⟩
  exact ⟨n, xs, h2.2 0 (by simp), h1⟩

theorem ty_voterC {cs : List AV} (h : Ty tab 187 cs) : ∃ v : Voter, cs = encV v := by
  obtain ⟨ps, rfl, hl, hp⟩ := h.struct_inv tabAt_187 rfl
  match ps, hl with
  | [p, q], _ =>
    obtain ⟨x, hx, _⟩ := ty_int (hp 0 (by decide))
    obtain ⟨y, hy, _⟩ := ty_int (hp 1 (by decide))
    have hx : p = _ := hx
    have hy : q = _ := hy
    subst hx; subst hy
    exact ⟨⟨x, y⟩, rfl⟩

theorem ty_voter {a : AV} (h : TyArg tab 187 a) : ∃ v : Voter, a = .agg (encV v) := by
  obtain ⟨cs, rfl, h2⟩ := h.agg_inv tabAt_187 rfl
  obtain ⟨v, rfl⟩ := ty_voterC h2
  exact ⟨v, rfl⟩

theorem ty_entry {cs : List AV} (h : Ty tab 183 cs) : ∃ e : Entry, cs = encE e := by
  obtain ⟨ps, rfl, hl, hp⟩ := h.struct_inv tabAt_183 rfl
  match ps, hl with
  | [p, q], _ =>
    obtain ⟨x, hx, _⟩ := ty_int (hp 0 (by decide))
    obtain ⟨y, hy, _⟩ := ty_int (hp 1 (by decide))
    have hx : p = _ := hx
    have hy : q = _ := hy
    subst hx; subst hy
    exact ⟨⟨x, y⟩, rfl⟩

theorem ty_action {cs : List AV} (h : Ty tab 158 cs) : ∃ e : Action, cs = encA e := by
  obtain ⟨ps, rfl, hl, hp⟩ := h.struct_inv tabAt_158 rfl
  match ps, hl with
  | [p, q, r, s], _ =>
    obtain ⟨x, hx, _⟩ := ty_int (hp 0 (by decide))
    obtain ⟨y, hy, _⟩ := ty_int (hp 1 (by decide))
    obtain ⟨z, hz, _⟩ := ty_int (hp 2 (by decide))
    obtain ⟨w, hw, _⟩ := ty_int (hp 3 (by decide))
    have hx : p = _ := hx
    have hy : q = _ := hy
    have hz : r = _ := hz
    have hw : s = _ := hw
    subst hx; subst hy; subst hz; subst hw
    exact ⟨⟨x, y, z, w⟩, rfl⟩

theorem Leqs.cons {a b : AV} {r c : List AV} (h : Leq a b) (h' : Leqs r c) : Leqs (a :: r) (b :: c) := by
  refine ⟨by simp [h'.1], fun j hj => ?_⟩
  cases j with
  | zero => exact h
  | succ j => exact h'.2 j (by simpa using hj)

theorem Leqs.one {r : List AV} {b : AV} (h : Leqs r [b]) : ∃ a, r = [a] ∧ Leq a b := by
  obtain ⟨h1, h2⟩ := h
  match r, h1 with
  | [a], _ => exact ⟨a, rfl, h2 0 (by simp)⟩

theorem ty_block {cs : List AV} (h : Ty tab 181 cs) : ∃ b : Block, b.list.length ≤ 9223372036854775807 ∧ Leqs cs (encB1 b) := by
  obtain ⟨ps, rfl, hl, hp⟩ := h.struct_inv tabAt_181 rfl
  match ps, hl with
  | [p1, p2, p3, p4, p5, p6], _ =>
    obtain ⟨x1, h1, _⟩ := ty_int (hp 0 (by decide))
    obtain ⟨x2, h2, _⟩ := ty_int (hp 1 (by decide))
    obtain ⟨x3, h3, _⟩ := ty_int (hp 2 (by decide))
    obtain ⟨_, x4, hl4, _, _, h4⟩ := ty_slice encA (fun _ => True) (hp 3 (by decide)) tabAt_89 rfl fun r hr => by
      obtain ⟨a, rfl⟩ := ty_action hr
      exact ⟨a, trivial, Leqs.refl _⟩
    obtain ⟨x5, h5, _⟩ := ty_int (hp 4 (by decide))
    obtain ⟨x6, h6, _⟩ := ty_int (hp 5 (by decide))
    have h1 : p1 = _ := h1
    have h2 : p2 = _ := h2
    have h3 : p3 = _ := h3
    have h5 : p5 = _ := h5
    have h6 : p6 = _ := h6
    obtain ⟨a4, e4, l4⟩ := h4.one
    have e4 : p4 = _ := e4
    subst h1; subst h2; subst h3; subst h5; subst h6; subst e4
    exact ⟨⟨x1, x2, x3, x4, x5, x6⟩, hl4, .cons (.refl _) (.cons (.refl _) (.cons (.refl _) (.cons l4 (.cons (.refl _) (.cons (.refl _) (.refl [])))))) ⟩

theorem ty_treeC {cs : List AV} (h : Ty tab 53 cs) : ∃ (n1 n2 n3 : Option Bool) (t : Tree), Leqs cs (encT n1 n2 n3 t) ∧ TreeLen t := by
  obtain ⟨ps, rfl, hl, hp⟩ := h.struct_inv tabAt_53 rfl
  match ps, hl with
  | [p1, p2, p3], _ =>
    obtain ⟨n1, x1, l1, _, h1, _⟩ := ty_slice encE (fun _ => True) (hp 0 (by decide)) tabAt_50 rfl fun r hr => by
      obtain ⟨a, rfl⟩ := ty_entry hr
      exact ⟨a, trivial, Leqs.refl _⟩
    obtain ⟨n2, x2, l2, q2, h2, _⟩ := ty_slice encB1 (fun b => b.list.length ≤ 9223372036854775807) (hp 1 (by decide)) tabAt_51 rfl fun r hr => ty_block hr
    obtain ⟨n3, x3, l3, _, h3, _⟩ := ty_slice encI (fun _ => True) (hp 2 (by decide)) tabAt_25 rfl fun r hr => by
      obtain ⟨a, rfl, _⟩ := ty_int hr
      exact ⟨a, trivial, Leqs.refl _⟩
    obtain ⟨a1, e1, g1⟩ := h1.one
    obtain ⟨a2, e2, g2⟩ := h2.one
    obtain ⟨a3, e3, g3⟩ := h3.one
    have e1 : p1 = _ := e1
    have e2 : p2 = _ := e2
    have e3 : p3 = _ := e3
    subst e1; subst e2; subst e3
    exact ⟨n1, n2, n3, ⟨x1, x2, x3⟩, .cons g1 (.cons g2 (.cons g3 (.refl []))), ⟨l1, l2, l3, q2⟩⟩

theorem ty_tree {a : AV} (h : TyArg tab 53 a) : ∃ (n1 n2 n3 : Option Bool) (t : Tree), Leq a (.agg (encT n1 n2 n3 t)) ∧ TreeLen t := by
  obtain ⟨cs, rfl, h2⟩ := h.agg_inv tabAt_53 rfl
  obtain ⟨n1, n2, n3, t, h3, h4⟩ := ty_treeC h2
  exact ⟨n1, n2, n3, t, h3.agg, h4⟩

end Go.Proofs.YtmibclbinebnjaaGreat

/- Arguments of the laws, by their types: worlds. -/
set_option linter.unusedSimpArgs false
namespace Go.Proofs.YtmibclbinebnjaaGreat
open Go Go.RowKit

theorem Leqs.append {r c r' c' : List AV} (h : Leqs r c) (h' : Leqs r' c') : Leqs (r ++ r') (c ++ c') := by
  refine ⟨by simp [h.1, h'.1], fun j hj => ?_⟩
  by_cases e : j < c.length
  · rw [getD_append_left _ _ _ _ (by rw [h.1]; exact e), getD_append_left _ _ _ _ e]
    exact h.2 j e
  · have hr := h.1
    rw [getD_append_right _ _ _ _ (by omega), getD_append_right _ _ _ _ (by omega), hr]
    exact h'.2 _ (by rw [List.length_append] at hj; omega)

theorem ty_worldC {cs : List AV} (h : Ty tab 67 cs) : ∃ (n1 n2 n3 n4 n5 : Option Bool) (w : Wld), Leqs cs (encW n1 n2 n3 n4 n5 w) ∧ WldLen w := by
  obtain ⟨ps, rfl, hl, hp⟩ := h.struct_inv tabAt_67 rfl
  match ps, hl with
  | [p1, p2, p3], _ =>
    obtain ⟨n1, n2, n3, t, ht, hl1⟩ := ty_treeC (hp 0 (by decide))
    obtain ⟨n4, x4, l4, _, h4, _⟩ := ty_slice encV (fun _ => True) (hp 1 (by decide)) tabAt_65 rfl fun r hr => by
      obtain ⟨a, rfl⟩ := ty_voterC hr
      exact ⟨a, trivial, Leqs.refl _⟩
    obtain ⟨n5, x5, l5, _, h5, _⟩ := ty_slice encI (fun _ => True) (hp 2 (by decide)) tabAt_25 rfl fun r hr => by
      obtain ⟨a, rfl, _⟩ := ty_int hr
      exact ⟨a, trivial, Leqs.refl _⟩
    have ht : Leqs p1 _ := ht
    have h4 : Leqs p2 _ := h4
    have h5 : Leqs p3 _ := h5
    have := ht.append (h4.append (h5.append (Leqs.refl [])))
    exact ⟨n1, n2, n3, n4, n5, ⟨t, x4, x5⟩, by simpa [encT, encW] using this, ⟨hl1, l4, l5⟩⟩

theorem ty_world {a : AV} (h : TyArg tab 67 a) : ∃ (n1 n2 n3 n4 n5 : Option Bool) (w : Wld), Leq a (.agg (encW n1 n2 n3 n4 n5 w)) ∧ WldLen w := by
  obtain ⟨cs, rfl, h2⟩ := h.agg_inv tabAt_67 rfl
  obtain ⟨n1, n2, n3, n4, n5, t, h3, h4⟩ := ty_worldC h2
  exact ⟨n1, n2, n3, n4, n5, t, h3.agg, h4⟩

end Go.Proofs.YtmibclbinebnjaaGreat

/- Arguments of the laws, by their types: slices of entries, of actions. -/
set_option linter.unusedSimpArgs false
namespace Go.Proofs.YtmibclbinebnjaaGreat
open Go Go.RowKit

theorem ty_entries {a : AV} (h : TyArg tab 50 a) : ∃ (n : Option Bool) (xs : List Entry), Leq a (.sl n (rows encE xs)) ∧ xs.length ≤ 9223372036854775807 := by
  obtain ⟨n, xs, h1, _, h2, _⟩ := ty_slice encE (fun _ => True) (h.one_inv tabAt_50 rfl) tabAt_50 rfl fun r hr => by
    obtain ⟨b, rfl⟩ := ty_entry hr
    exact ⟨b, trivial, Leqs.refl _⟩
  exact ⟨n, xs, h2.2 0 (by simp), h1⟩

theorem ty_actions {a : AV} (h : TyArg tab 89 a) : ∃ (n : Option Bool) (xs : List Action), Leq a (.sl n (rows encA xs)) ∧ xs.length ≤ 9223372036854775807 := by
  obtain ⟨n, xs, h1, _, h2, _⟩ := ty_slice encA (fun _ => True) (h.one_inv tabAt_89 rfl) tabAt_89 rfl fun r hr => by
    obtain ⟨b, rfl⟩ := ty_action hr
    exact ⟨b, trivial, Leqs.refl _⟩
  exact ⟨n, xs, h2.2 0 (by simp), h1⟩

end Go.Proofs.YtmibclbinebnjaaGreat

/- The closed facts that hold of the program alone. -/
namespace Go.Proofs.YtmibclbinebnjaaGreat
open Go Go.ChangeShapes Go.WideShapes Go.ChangeAt Go.RowKit

/-- The letters of the translation's header. -/
def headL : List Char := [.ofNat 104, .ofNat 97, .ofNat 114, .ofNat 110, .ofNat 101, .ofNat 115, .ofNat 115, .ofNat 32, .ofNat 101, .ofNat 53, .ofNat 101, .ofNat 101, .ofNat 53, .ofNat 50, .ofNat 48, .ofNat 48, .ofNat 52, .ofNat 55, .ofNat 102, .ofNat 56, .ofNat 101, .ofNat 50, .ofNat 52, .ofNat 100, .ofNat 51, .ofNat 101, .ofNat 97, .ofNat 53, .ofNat 99, .ofNat 50, .ofNat 98, .ofNat 97, .ofNat 53, .ofNat 48, .ofNat 56, .ofNat 50, .ofNat 53, .ofNat 100, .ofNat 101, .ofNat 97, .ofNat 102, .ofNat 48, .ofNat 53, .ofNat 52, .ofNat 98, .ofNat 97, .ofNat 52, .ofNat 97, .ofNat 53, .ofNat 101, .ofNat 57, .ofNat 55, .ofNat 56, .ofNat 51, .ofNat 48, .ofNat 48, .ofNat 57, .ofNat 50, .ofNat 50, .ofNat 56, .ofNat 56, .ofNat 101, .ofNat 52, .ofNat 54, .ofNat 51, .ofNat 48, .ofNat 102, .ofNat 101, .ofNat 52, .ofNat 52, .ofNat 49, .ofNat 51, .ofNat 32, .ofNat 99, .ofNat 117, .ofNat 116, .ofNat 32, .ofNat 97, .ofNat 116, .ofNat 32, .ofNat 108, .ofNat 111, .ofNat 111, .ofNat 112, .ofNat 46, .ofNat 101, .ofNat 120, .ofNat 97, .ofNat 109, .ofNat 112, .ofNat 108, .ofNat 101, .ofNat 47, .ofNat 98, .ofNat 108, .ofNat 111, .ofNat 99, .ofNat 107, .ofNat 101, .ofNat 120, .ofNat 101, .ofNat 99, .ofNat 117, .ofNat 116, .ofNat 111, .ofNat 114, .ofNat 47, .ofNat 108, .ofNat 97, .ofNat 119, .ofNat 115, .ofNat 46, .ofNat 70, .ofNat 110, .ofNat 87, .ofNat 111, .ofNat 114, .ofNat 108, .ofNat 100, .ofNat 86, .ofNat 97, .ofNat 108, .ofNat 105, .ofNat 100, .ofNat 32, .ofNat 108, .ofNat 111, .ofNat 111, .ofNat 112, .ofNat 46, .ofNat 101, .ofNat 120, .ofNat 97, .ofNat 109, .ofNat 112, .ofNat 108, .ofNat 101, .ofNat 47, .ofNat 98, .ofNat 108, .ofNat 111, .ofNat 99, .ofNat 107, .ofNat 101, .ofNat 120, .ofNat 101, .ofNat 99, .ofNat 117, .ofNat 116, .ofNat 111, .ofNat 114, .ofNat 47, .ofNat 108, .ofNat 97, .ofNat 119, .ofNat 115, .ofNat 46, .ofNat 70, .ofNat 110, .ofNat 67, .ofNat 101, .ofNat 114, .ofNat 116, .ofNat 66, .ofNat 108, .ofNat 111, .ofNat 99, .ofNat 107, .ofNat 32, .ofNat 108, .ofNat 111, .ofNat 111, .ofNat 112, .ofNat 46, .ofNat 101, .ofNat 120, .ofNat 97, .ofNat 109, .ofNat 112, .ofNat 108, .ofNat 101, .ofNat 47, .ofNat 98, .ofNat 108, .ofNat 111, .ofNat 99, .ofNat 107, .ofNat 101, .ofNat 120, .ofNat 101, .ofNat 99, .ofNat 117, .ofNat 116, .ofNat 111, .ofNat 114, .ofNat 47, .ofNat 108, .ofNat 97, .ofNat 119, .ofNat 115, .ofNat 46, .ofNat 70, .ofNat 110, .ofNat 67, .ofNat 101, .ofNat 114, .ofNat 116, .ofNat 105, .ofNat 102, .ofNat 105, .ofNat 101, .ofNat 100, .ofNat 66, .ofNat 108, .ofNat 111, .ofNat 99, .ofNat 107, .ofNat 115, .ofNat 32, .ofNat 108, .ofNat 111, .ofNat 111, .ofNat 112, .ofNat 46, .ofNat 101, .ofNat 120, .ofNat 97, .ofNat 109, .ofNat 112, .ofNat 108, .ofNat 101, .ofNat 47, .ofNat 98, .ofNat 108, .ofNat 111, .ofNat 99, .ofNat 107, .ofNat 101, .ofNat 120, .ofNat 101, .ofNat 99, .ofNat 117, .ofNat 116, .ofNat 111, .ofNat 114, .ofNat 47, .ofNat 108, .ofNat 97, .ofNat 119, .ofNat 115, .ofNat 46, .ofNat 70, .ofNat 110, .ofNat 69, .ofNat 120, .ofNat 97, .ofNat 99, .ofNat 116, .ofNat 67, .ofNat 111, .ofNat 109, .ofNat 109, .ofNat 105, .ofNat 116, .ofNat 116, .ofNat 101, .ofNat 100, .ofNat 84, .ofNat 111, .ofNat 32, .ofNat 108, .ofNat 111, .ofNat 111, .ofNat 112, .ofNat 46, .ofNat 101, .ofNat 120, .ofNat 97, .ofNat 109, .ofNat 112, .ofNat 108, .ofNat 101, .ofNat 47, .ofNat 98, .ofNat 108, .ofNat 111, .ofNat 99, .ofNat 107, .ofNat 101, .ofNat 120, .ofNat 101, .ofNat 99, .ofNat 117, .ofNat 116, .ofNat 111, .ofNat 114, .ofNat 47, .ofNat 108, .ofNat 97, .ofNat 119, .ofNat 115, .ofNat 46, .ofNat 70, .ofNat 110, .ofNat 87, .ofNat 111, .ofNat 114, .ofNat 108, .ofNat 100, .ofNat 67, .ofNat 101, .ofNat 114, .ofNat 116, .ofNat 115, .ofNat 32, .ofNat 108, .ofNat 111, .ofNat 111, .ofNat 112, .ofNat 46, .ofNat 101, .ofNat 120, .ofNat 97, .ofNat 109, .ofNat 112, .ofNat 108, .ofNat 101, .ofNat 47, .ofNat 98, .ofNat 108, .ofNat 111, .ofNat 99, .ofNat 107, .ofNat 101, .ofNat 120, .ofNat 101, .ofNat 99, .ofNat 117, .ofNat 116, .ofNat 111, .ofNat 114, .ofNat 47, .ofNat 108, .ofNat 97, .ofNat 119, .ofNat 115, .ofNat 46, .ofNat 70, .ofNat 110, .ofNat 69, .ofNat 120, .ofNat 97, .ofNat 99, .ofNat 116, .ofNat 87, .ofNat 111, .ofNat 114, .ofNat 108, .ofNat 100, .ofNat 67, .ofNat 101, .ofNat 114, .ofNat 116, .ofNat 115, .ofNat 32, .ofNat 108, .ofNat 111, .ofNat 111, .ofNat 112, .ofNat 46, .ofNat 101, .ofNat 120, .ofNat 97, .ofNat 109, .ofNat 112, .ofNat 108, .ofNat 101, .ofNat 47, .ofNat 98, .ofNat 108, .ofNat 111, .ofNat 99, .ofNat 107, .ofNat 101, .ofNat 120, .ofNat 101, .ofNat 99, .ofNat 117, .ofNat 116, .ofNat 111, .ofNat 114, .ofNat 47, .ofNat 108, .ofNat 97, .ofNat 119, .ofNat 115, .ofNat 46, .ofNat 70, .ofNat 110, .ofNat 69, .ofNat 120, .ofNat 97, .ofNat 99, .ofNat 116, .ofNat 67, .ofNat 101, .ofNat 114, .ofNat 116, .ofNat 105, .ofNat 102, .ofNat 105, .ofNat 101, .ofNat 100, .ofNat 66, .ofNat 108, .ofNat 111, .ofNat 99, .ofNat 107, .ofNat 115, .ofNat 32, .ofNat 108, .ofNat 111, .ofNat 111, .ofNat 112, .ofNat 46, .ofNat 101, .ofNat 120, .ofNat 97, .ofNat 109, .ofNat 112, .ofNat 108, .ofNat 101, .ofNat 47, .ofNat 98, .ofNat 108, .ofNat 111, .ofNat 99, .ofNat 107, .ofNat 101, .ofNat 120, .ofNat 101, .ofNat 99, .ofNat 117, .ofNat 116, .ofNat 111, .ofNat 114, .ofNat 47, .ofNat 108, .ofNat 97, .ofNat 119, .ofNat 115, .ofNat 46, .ofNat 70, .ofNat 110, .ofNat 69, .ofNat 120, .ofNat 97, .ofNat 99, .ofNat 116, .ofNat 87, .ofNat 111, .ofNat 114, .ofNat 108, .ofNat 100, .ofNat 79, .ofNat 102, .ofNat 32, .ofNat 108, .ofNat 111, .ofNat 111, .ofNat 112, .ofNat 46, .ofNat 101, .ofNat 120, .ofNat 97, .ofNat 109, .ofNat 112, .ofNat 108, .ofNat 101, .ofNat 47, .ofNat 98, .ofNat 108, .ofNat 111, .ofNat 99, .ofNat 107, .ofNat 101, .ofNat 120, .ofNat 101, .ofNat 99, .ofNat 117, .ofNat 116, .ofNat 111, .ofNat 114, .ofNat 47, .ofNat 108, .ofNat 97, .ofNat 119, .ofNat 115, .ofNat 46, .ofNat 70, .ofNat 110, .ofNat 69, .ofNat 120, .ofNat 97, .ofNat 99, .ofNat 116, .ofNat 67, .ofNat 111, .ofNat 109, .ofNat 109, .ofNat 105, .ofNat 116, .ofNat 115, .ofNat 65, .ofNat 103, .ofNat 114, .ofNat 101, .ofNat 101, .ofNat 32, .ofNat 108, .ofNat 111, .ofNat 111, .ofNat 112, .ofNat 46, .ofNat 101, .ofNat 120, .ofNat 97, .ofNat 109, .ofNat 112, .ofNat 108, .ofNat 101, .ofNat 47, .ofNat 98, .ofNat 108, .ofNat 111, .ofNat 99, .ofNat 107, .ofNat 101, .ofNat 120, .ofNat 101, .ofNat 99, .ofNat 117, .ofNat 116, .ofNat 111, .ofNat 114, .ofNat 47, .ofNat 108, .ofNat 97, .ofNat 119, .ofNat 115, .ofNat 46, .ofNat 70, .ofNat 110, .ofNat 69, .ofNat 120, .ofNat 97, .ofNat 99, .ofNat 116, .ofNat 67, .ofNat 111, .ofNat 109, .ofNat 109, .ofNat 105, .ofNat 116, .ofNat 72, .ofNat 101, .ofNat 97, .ofNat 100, .ofNat 115, .ofNat 32, .ofNat 108, .ofNat 111, .ofNat 111, .ofNat 112, .ofNat 46, .ofNat 101, .ofNat 120, .ofNat 97, .ofNat 109, .ofNat 112, .ofNat 108, .ofNat 101, .ofNat 47, .ofNat 98, .ofNat 108, .ofNat 111, .ofNat 99, .ofNat 107, .ofNat 101, .ofNat 120, .ofNat 101, .ofNat 99, .ofNat 117, .ofNat 116, .ofNat 111, .ofNat 114, .ofNat 47, .ofNat 108, .ofNat 97, .ofNat 119, .ofNat 115, .ofNat 46, .ofNat 70, .ofNat 110, .ofNat 69, .ofNat 120, .ofNat 97, .ofNat 99, .ofNat 116, .ofNat 87, .ofNat 111, .ofNat 114, .ofNat 108, .ofNat 100, .ofNat 72, .ofNat 101, .ofNat 97, .ofNat 100, .ofNat 32, .ofNat 108, .ofNat 111, .ofNat 111, .ofNat 112, .ofNat 46, .ofNat 101, .ofNat 120, .ofNat 97, .ofNat 109, .ofNat 112, .ofNat 108, .ofNat 101, .ofNat 47, .ofNat 98, .ofNat 108, .ofNat 111, .ofNat 99, .ofNat 107, .ofNat 101, .ofNat 120, .ofNat 101, .ofNat 99, .ofNat 117, .ofNat 116, .ofNat 111, .ofNat 114, .ofNat 47, .ofNat 108, .ofNat 97, .ofNat 119, .ofNat 115, .ofNat 46, .ofNat 70, .ofNat 110, .ofNat 69, .ofNat 120, .ofNat 97, .ofNat 99, .ofNat 116, .ofNat 87, .ofNat 111, .ofNat 114, .ofNat 108, .ofNat 100, .ofNat 65, .ofNat 99, .ofNat 116, .ofNat 105, .ofNat 111, .ofNat 110, .ofNat 115, .ofNat 32, .ofNat 108, .ofNat 111, .ofNat 111, .ofNat 112, .ofNat 46, .ofNat 101, .ofNat 120, .ofNat 97, .ofNat 109, .ofNat 112, .ofNat 108, .ofNat 101, .ofNat 47, .ofNat 98, .ofNat 108, .ofNat 111, .ofNat 99, .ofNat 107, .ofNat 101, .ofNat 120, .ofNat 101, .ofNat 99, .ofNat 117, .ofNat 116, .ofNat 111, .ofNat 114, .ofNat 47, .ofNat 108, .ofNat 97, .ofNat 119, .ofNat 115, .ofNat 46, .ofNat 70, .ofNat 110, .ofNat 69, .ofNat 120, .ofNat 97, .ofNat 99, .ofNat 116, .ofNat 87, .ofNat 111, .ofNat 114, .ofNat 108, .ofNat 100, .ofNat 86, .ofNat 111, .ofNat 116, .ofNat 101, .ofNat 32, .ofNat 108, .ofNat 111, .ofNat 111, .ofNat 112, .ofNat 46, .ofNat 101, .ofNat 120, .ofNat 97, .ofNat 109, .ofNat 112, .ofNat 108, .ofNat 101, .ofNat 47, .ofNat 98, .ofNat 108, .ofNat 111, .ofNat 99, .ofNat 107, .ofNat 101, .ofNat 120, .ofNat 101, .ofNat 99, .ofNat 117, .ofNat 116, .ofNat 111, .ofNat 114, .ofNat 47, .ofNat 108, .ofNat 97, .ofNat 119, .ofNat 115, .ofNat 46, .ofNat 70, .ofNat 110, .ofNat 69, .ofNat 120, .ofNat 97, .ofNat 99, .ofNat 116, .ofNat 71, .ofNat 114, .ofNat 111, .ofNat 119, .ofNat 84, .ofNat 114, .ofNat 101, .ofNat 101, .ofNat 32, .ofNat 108, .ofNat 111, .ofNat 111, .ofNat 112, .ofNat 46, .ofNat 101, .ofNat 120, .ofNat 97, .ofNat 109, .ofNat 112, .ofNat 108, .ofNat 101, .ofNat 47, .ofNat 98, .ofNat 108, .ofNat 111, .ofNat 99, .ofNat 107, .ofNat 101, .ofNat 120, .ofNat 101, .ofNat 99, .ofNat 117, .ofNat 116, .ofNat 111, .ofNat 114, .ofNat 47, .ofNat 108, .ofNat 97, .ofNat 119, .ofNat 115, .ofNat 46, .ofNat 70, .ofNat 110, .ofNat 69, .ofNat 120, .ofNat 97, .ofNat 99, .ofNat 116, .ofNat 87, .ofNat 111, .ofNat 114, .ofNat 108, .ofNat 100, .ofNat 82, .ofNat 117, .ofNat 110, .ofNat 32, .ofNat 108, .ofNat 111, .ofNat 111, .ofNat 112, .ofNat 46, .ofNat 101, .ofNat 120, .ofNat 97, .ofNat 109, .ofNat 112, .ofNat 108, .ofNat 101, .ofNat 47, .ofNat 98, .ofNat 108, .ofNat 111, .ofNat 99, .ofNat 107, .ofNat 101, .ofNat 120, .ofNat 101, .ofNat 99, .ofNat 117, .ofNat 116, .ofNat 111, .ofNat 114, .ofNat 47, .ofNat 108, .ofNat 97, .ofNat 119, .ofNat 115, .ofNat 46, .ofNat 70, .ofNat 110, .ofNat 69, .ofNat 120, .ofNat 97, .ofNat 99, .ofNat 116, .ofNat 87, .ofNat 111, .ofNat 114, .ofNat 108, .ofNat 100, .ofNat 83, .ofNat 116, .ofNat 111, .ofNat 114, .ofNat 101, .ofNat 32, .ofNat 108, .ofNat 111, .ofNat 111, .ofNat 112, .ofNat 46, .ofNat 101, .ofNat 120, .ofNat 97, .ofNat 109, .ofNat 112, .ofNat 108, .ofNat 101, .ofNat 47, .ofNat 98, .ofNat 108, .ofNat 111, .ofNat 99, .ofNat 107, .ofNat 101, .ofNat 120, .ofNat 101, .ofNat 99, .ofNat 117, .ofNat 116, .ofNat 111, .ofNat 114, .ofNat 47, .ofNat 108, .ofNat 97, .ofNat 119, .ofNat 115, .ofNat 46, .ofNat 70, .ofNat 110, .ofNat 69, .ofNat 120, .ofNat 97, .ofNat 99, .ofNat 116, .ofNat 87, .ofNat 111, .ofNat 114, .ofNat 108, .ofNat 100, .ofNat 71, .ofNat 114, .ofNat 111, .ofNat 119]
/-- The header itself. -/
def headS : String := "harness e5ee520047f8e24d3ea5c2ba50825deaf054ba4a5e97830092288e4630fe4413 cut at loop.example/blockexecutor/laws.FnWorldValid loop.example/blockexecutor/laws.FnCertBlock loop.example/blockexecutor/laws.FnCertifiedBlocks loop.example/blockexecutor/laws.FnExactCommittedTo loop.example/blockexecutor/laws.FnWorldCerts loop.example/blockexecutor/laws.FnExactWorldCerts loop.example/blockexecutor/laws.FnExactCertifiedBlocks loop.example/blockexecutor/laws.FnExactWorldOf loop.example/blockexecutor/laws.FnExactCommitsAgree loop.example/blockexecutor/laws.FnExactCommitHeads loop.example/blockexecutor/laws.FnExactWorldHead loop.example/blockexecutor/laws.FnExactWorldActions loop.example/blockexecutor/laws.FnExactWorldVote loop.example/blockexecutor/laws.FnExactGrowTree loop.example/blockexecutor/laws.FnExactWorldRun loop.example/blockexecutor/laws.FnExactWorldStore loop.example/blockexecutor/laws.FnExactWorldGrow"
set_option maxRecDepth 100000 in
theorem head_is : Tryz.pinned.checked.prog.initOrder = headS := by kernel_rfl
set_option maxRecDepth 100000 in
theorem head_bytes : headS.toByteArray = List.utf8Encode headL := by kernel_rfl
set_option maxRecDepth 100000 in
theorem list_bytes : (String.ofList headL).toByteArray = List.utf8Encode headL := by kernel_rfl
theorem head_eq : Tryz.pinned.checked.prog.initOrder = String.ofList headL := head_is.trans (String.toByteArray_inj.1 (head_bytes.trans list_bytes.symm))
theorem head_list : Tryz.pinned.checked.prog.initOrder.toList = headL := by rw [head_eq, String.toList_ofList]
set_option maxRecDepth 100000 in
theorem head_word : behindMainWord (wordsSigns headL) = "cut".toList :: (behindMainWord (wordsSigns headL)).tail := by kernel_rfl
theorem cut_strip (r : List (List Char)) : stripLifts liftWords ("cut".toList :: r) = ([], "cut".toList :: r) := by kernel_rfl
set_option maxRecDepth 100000 in
theorem c_headLifts : Tryz.pinned.checked.prog.headLifts = [] := by
  unfold Program.headLifts
  rw [head_list, head_word, cut_strip]
  kernel_rfl
set_option maxRecDepth 100000 in
theorem c_lays : Tryz.pinned.checked.prog.laysLater = false := by kernel_rfl
set_option maxRecDepth 100000 in
theorem c_bears : Tryz.pinned.checked.prog.bearsReflect = false := by kernel_rfl
set_option maxRecDepth 100000 in
theorem c_door : Tryz.pinned.checked.prog.doorFits [] = true := by kernel_rfl
theorem enter_cut {P : Program} {r : List (List Char)} (h : behindMainWord (wordsSigns P.initOrder.toList) = "cut".toList :: r) (h1 : P.laysLater = false) (h2 : P.bearsReflect = false) (h3 : P.doorFits [] = true) : P.mayEnter = true := by
  unfold Program.mayEnter
  rw [h]
  dsimp only
  rw [cut_strip, h1, h2]
  dsimp only
  rw [h3]
  kernel_rfl
theorem final_cut {P : Program} {r : List (List Char)} (h : behindMainWord (wordsSigns P.initOrder.toList) = "cut".toList :: r) (h1 : P.headLifts = []) : P.liftsFinal = false := by
  unfold Program.liftsFinal
  rw [h, h1]
  kernel_rfl
theorem make_cut {P : Program} {r : List (List Char)} (h : behindMainWord (wordsSigns P.initOrder.toList) = "cut".toList :: r) : P.make = some .cut := by
  unfold Program.make
  rw [h]
  kernel_rfl
theorem head_words : behindMainWord (wordsSigns Tryz.pinned.checked.prog.initOrder.toList) = "cut".toList :: (behindMainWord (wordsSigns headL)).tail := by rw [head_list]; exact head_word
theorem c_enter : Tryz.pinned.checked.prog.mayEnter = true := enter_cut head_words c_lays c_bears c_door
theorem c_final : Tryz.pinned.checked.prog.liftsFinal = false := final_cut head_words c_headLifts
theorem c_make : Tryz.pinned.checked.prog.make = some .cut := make_cut head_words

end Go.Proofs.YtmibclbinebnjaaGreat

