/- Shared texts R (part 2): W67, Ty1, Ty2, Ty3, Ty7 -/
import Derived.Test.YtmibclbinebnjaaGreatR1

set_option linter.unusedSimpArgs false
set_option linter.unusedVariables false

/- Contracts: copies, sizes, tests and marks of certificates, bools, worlds. -/
set_option linter.unusedSimpArgs false
set_option linter.unusedVariables false
set_option maxRecDepth 20000
set_option maxHeartbeats 4000000
namespace Go.Proofs.YtmibclbinebnjaaGreat
open Go Go.RowKit

theorem c_laws_toCertS (n1 : Option Bool) (xs : List Cert) (hx : xs.length < 2 ^ 32) :
    Det Tryz.prog 36 [.sl n1 (rows encC xs)] (.osl true 3 (rows encC xs)) := by
  refine fspec_det tab_ok Tryz.call36 Tryz.func36 rfl 23 Tryz.ntmps36 (of_decide_eq_true rfl) fun B => codeK_sound tab_ok _ _ _ ?_
  have hx62 : xs.length < 2 ^ 62 := by omega
  simp (config := { maxSteps := 4000000 }) only [go_sem, simprocAttr, ↓dnA, Tryz.f36, rows_length]
  repeat refine And.intro (by first | omega | (simp; done) | (simp; omega) | assumption) ?_
  refine semL_for tab_ok (fun i : Nat => ⟨23, [(0, .sl n1 (rows encC xs)), (3, .row 7 xs.length), (4, .int .i64 i)], [(7, .row true true 3 (rows encC (xs.take i ++ List.replicate (xs.length - i) (⟨0, 0, 0⟩ : Cert))))]⟩) (fun i => xs.length - i)
    (fun i => i ≤ xs.length) 0 [(7, 7)] (Weak.of (by rfl) ?_ ?_ (by rfl)) (by omega) ?_
  · simp (config := { maxSteps := 4000000 }) only [go_sem, simprocAttr, ↓dnA, Tryz.f36, frW, wk2, wk1, wkL, wkB, hpW, List.mem_cons, Prod.mk.injEq, exists_eq_left, exists_eq_right, exists_eq]
    simp [rows, encC, encBk]
  · simp (config := { maxSteps := 4000000 }) only [go_sem, simprocAttr, ↓dnA, Tryz.f36, frW, wk2, wk1, wkL, wkB, hpW, List.mem_cons, Prod.mk.injEq, exists_eq_left, exists_eq_right, exists_eq]
  · rintro i hi
    by_cases h : i < xs.length
    · have hm : i < (xs.take i ++ List.replicate (xs.length - i) (⟨0, 0, 0⟩ : Cert)).length := by simp; omega
      simp (config := { maxSteps := 4000000 }) only [go_sem, simprocAttr, ↓dnA, Tryz.f36, rows_length, rows_get _ _ _ h, encC, encBk, nlt h, nn0]
      refine CallTo.det (c_laws_toCert xs[i]) fun _ => ?_
      simp (config := { maxSteps := 4000000 }) only [go_sem, simprocAttr, ↓dnA, Tryz.f36, rows_length, rows_get _ _ _ h, rows_get _ _ _ hm, hm, encC, encBk, encBkO, nlt h, nn0, wsucc h hx62]
      repeat refine And.intro (by first | omega | (simp; done) | (simp; omega) | assumption) ?_
      refine ⟨i + 1, [(7, 7)], by omega, by dsimp only; omega, Weak.of (by rfl) ?_ ?_ (by rfl)⟩
      · simp (config := { maxSteps := 4000000 }) only [go_sem, simprocAttr, ↓dnA, Tryz.f36, frW, wk2, wk1, wkL, wkB, hpW, List.mem_cons, Prod.mk.injEq, exists_eq_left, exists_eq_right, exists_eq]
        first
          | done
          | (refine (congrArg (rows encC) (fill_step xs (⟨0, 0, 0⟩ : Cert) (⟨0, 0, 0⟩ : Cert) i h)).symm.trans ?_; rw [← rows_set, getD_at _ _ _ h]; rfl)
      · simp (config := { maxSteps := 4000000 }) only [go_sem, simprocAttr, ↓dnA, Tryz.f36, wsucc h hx62, frW, wk2, wk1, wkL, wkB, hpW, List.mem_cons, Prod.mk.injEq, exists_eq_left, exists_eq_right, exists_eq]
    · have : i = xs.length := by omega
      subst this
      simp (config := { maxSteps := 4000000 }) only [go_sem, simprocAttr, ↓dnA, Tryz.f36, rows_length, nlf h]
      simp


theorem certB (a b : Cert) : ((a.sum == b.sum) && ((a.view == b.view) && (a.signers == b.signers))) = decide (a = b) := by
  obtain ⟨a1, a2, a3⟩ := a
  obtain ⟨b1, b2, b3⟩ := b
  rw [Bool.eq_iff_iff]
  simp only [Bool.and_eq_true, beq_iff_eq, decide_eq_true_eq, Cert.mk.injEq]

theorem c_laws_eqCert (a b : Cert) : Det Tryz.prog 119 [.agg (encC a), .agg (encC b)] (.bool (decide (a = b))) := by
  refine fspec_det tab_ok Tryz.call119 Tryz.func119 rfl 20 Tryz.ntmps119 (of_decide_eq_true rfl) fun B => codeK_sound tab_ok _ _ _ ?_
  unfold encC
  rw [← certB]
  cases h1 : (a.sum == b.sum) with
  | false => simp (config := { maxSteps := 4000000 }) only [go_sem, simprocAttr, ↓dnA, Tryz.f119, bne, h1]
  | true =>
    cases h2 : (a.view == b.view) with
    | false => simp (config := { maxSteps := 4000000 }) only [go_sem, simprocAttr, ↓dnA, Tryz.f119, bne, h1, h2]
    | true =>
      cases h3 : (a.signers == b.signers) with
      | false => simp (config := { maxSteps := 4000000 }) only [go_sem, simprocAttr, ↓dnA, Tryz.f119, bne, h1, h2, h3]
      | true => simp (config := { maxSteps := 4000000 }) only [go_sem, simprocAttr, ↓dnA, Tryz.f119, bne, h1, h2, h3]

theorem c_laws_eqCertS (n1 n2 : Option Bool) (xs ys : List Cert) (hx : xs.length < 2 ^ 62) (hy : ys.length < 2 ^ 62)  :
    Det Tryz.prog 39 [.sl n1 (rows encC xs), .sl n2 (rows encC ys)] (.bool (decide (xs = ys))) := by
  refine fspec_det tab_ok Tryz.call39 Tryz.func39 rfl 27 Tryz.ntmps39 (of_decide_eq_true rfl) fun B => codeK_sound tab_ok _ _ _ ?_
  by_cases hl : xs.length = ys.length
  · have hd : (((xs.length : Int) != (ys.length : Int))) = false := by simp [hl]
    simp (config := { maxSteps := 4000000 }) only [go_sem, simprocAttr, ↓dnA, Tryz.f39, rows_length, hd]
    refine semL_for tab_ok (fun i : Nat => ⟨27, [(0, .sl n1 (rows encC xs)), (1, .sl n2 (rows encC ys)), (5, .int .i64 i)], []⟩) (fun i => xs.length - i)
      (fun i => i ≤ xs.length ∧ decide (xs.drop i = ys.drop i) = decide (xs = ys)) 0 [] (Weak.of (by rfl) trivial ?_ (by rfl)) ⟨by omega, rfl⟩ ?_
    · simp (config := { maxSteps := 4000000 }) only [go_sem, simprocAttr, ↓dnA, Tryz.f39, rows_length, frW, wk2, wk1, wkL, wkB, hpW, List.mem_cons, Prod.mk.injEq, exists_eq_left, exists_eq_right, exists_eq]
    · rintro i ⟨hi, hp⟩
      by_cases h : i < xs.length
      · have h2 : i < ys.length := by omega
        rw [eq_drop xs ys i hl h] at hp
        simp (config := { maxSteps := 4000000 }) only [go_sem, simprocAttr, ↓dnA, Tryz.f39, rows_length, nlt h]
        refine semL_draw tab_ok mixed_ rfl (ord := [(0, []), (1, []), (2, []), (3, []), (4, []), (5, []), (6, []), (7, []), (8, []), (9, [])]) (by dsimp only; decide +kernel) ?_
        simp (config := { maxSteps := 4000000 }) only [go_sem, simprocAttr, ↓dnA, Tryz.f39, rows_length, rows_get _ _ _ h, rows_get _ _ _ h2, encC, encBk, nn0, nlt h, nlt h2]
        refine CallTo.det (c_laws_eqCert xs[i] ys[i]) fun _ => ?_
        cases he : decide (xs[i] = ys[i]) with
        | false =>
          have he' : decide (xs[i] = ys[i]) = false := he
          rw [he', Bool.false_and] at hp
          simp (config := { maxSteps := 4000000 }) only [go_sem, simprocAttr, ↓dnA, Tryz.f39, rows_length, rows_get _ _ _ h, rows_get _ _ _ h2, encC, encBk, nn0, nlt h, nlt h2, he, ← hp]
        | true =>
          have he' : decide (xs[i] = ys[i]) = true := he
          rw [he', Bool.true_and] at hp
          simp (config := { maxSteps := 4000000 }) only [go_sem, simprocAttr, ↓dnA, Tryz.f39, rows_length, rows_get _ _ _ h, rows_get _ _ _ h2, encC, encBk, nn0, nlt h, nlt h2, he]
          refine ⟨i + 1, [], ⟨by omega, hp⟩, by dsimp only; omega, Weak.of (by rfl) trivial ?_ (by rfl)⟩
          simp (config := { maxSteps := 4000000 }) only [go_sem, simprocAttr, ↓dnA, Tryz.f39, wsucc h hx, frW, wk2, wk1, wkL, wkB, hpW, List.mem_cons, Prod.mk.injEq, exists_eq_left, exists_eq_right, exists_eq]
      · have : i = xs.length := by omega
        subst this
        rw [List.drop_length, List.drop_of_length_le (by omega)] at hp
        simp (config := { maxSteps := 4000000 }) only [go_sem, simprocAttr, ↓dnA, Tryz.f39, rows_length, nlf h, ← hp]
  · have hd : (((xs.length : Int) != (ys.length : Int))) = true := by simp; omega
    have hne : xs ≠ ys := fun e => hl (by rw [e])
    simp (config := { maxSteps := 4000000 }) only [go_sem, simprocAttr, ↓dnA, Tryz.f39, rows_length, hd, decide_eq_false hne]


theorem c_laws_szCertS (n1 : Option Bool) (xs : List Cert) (left : Int) (hx : xs.length ≤ 9223372036854775807) (hl : 0 ≤ left ∧ left ≤ 1048576) : Det Tryz.prog 33 [.sl n1 (rows encC xs), .int .i64 left] (.int .i64 (szI left xs.length)) := by
  refine fspec_det tab_ok Tryz.call33 Tryz.func33 rfl 12 Tryz.ntmps33 (of_decide_eq_true rfl) fun B => codeK_sound tab_ok _ _ _ ?_
  have hw : IntKind.i64.wrap (left - (xs.length : Int)) = left - xs.length := wrap_small _ (by omega) (by omega)
  by_cases h : left - (xs.length : Int) < 0
  · simp (config := { maxSteps := 4000000 }) only [go_sem, simprocAttr, ↓dnA, Tryz.f33, rows_length, hw, decide_eq_true h, szI, h]
  · simp (config := { maxSteps := 4000000 }) only [go_sem, simprocAttr, ↓dnA, Tryz.f33, rows_length, hw, decide_eq_false h, szI, h]

def mkC (_ : Cert) (k : Int) : Cert := ⟨k, k + 1, k + 1 + 1⟩
def stC (_ : Cert) : Nat := 3
def mkV (_ : Voter) (k : Int) : Voter := ⟨k, k + 1⟩
def stV (_ : Voter) : Nat := 2

theorem c_laws_markCertS (nn : Bool) (sz : Nat) (xs : List Cert) (k : Int) (hs : xs = [] ∨ sz = 3) (hx : xs.length < 2 ^ 62) (hk : 0 ≤ k ∧ k + stepS stC xs < 2 ^ 62) :
    FSpecM Tryz.prog 49 [.row 800 xs.length, .int .i64 k] [.osl nn sz (rows encC xs)] (fun r ls' => r = .int .i64 (k + stepS stC xs) ∧ ls' = [.osl nn sz (rows encC (markS mkC stC xs k))]) := by
  refine fspec_introM tab_ok Tryz.call49 Tryz.func49 rfl 34 Tryz.ntmps49 (of_decide_eq_true rfl) (of_decide_eq_true rfl) fun B => codeK_sound tab_ok _ _ _ ?_
  rcases hs with rfl | rfl
  · simp (config := { maxSteps := 4000000 }) only [go_sem, simprocAttr, ↓dnA, Tryz.f49]
    refine semL_for tab_ok (fun i : Nat => ⟨34, [(0, .row 800 0), (1, .int .i64 k), (5, .int .i64 0)], [(800, .row true nn sz (rows encC ([] : List Cert)))]⟩) (fun i => i) (fun _ => True) 0 [(800, 800)] (Weak.of (by rfl) ?_ ?_ (by rfl)) trivial ?_
    · simp (config := { maxSteps := 4000000 }) only [go_sem, simprocAttr, ↓dnA, Tryz.f49, frW, wk2, wk1, wkL, wkB, hpW, List.mem_cons, Prod.mk.injEq, exists_eq_left, exists_eq_right, exists_eq]
    · simp (config := { maxSteps := 4000000 }) only [go_sem, simprocAttr, ↓dnA, Tryz.f49, List.length_nil, nc0, frW, wk2, wk1, wkL, wkB, hpW, List.mem_cons, Prod.mk.injEq, exists_eq_left, exists_eq_right, exists_eq]
    · rintro i -
      simp (config := { maxSteps := 4000000 }) only [go_sem, simprocAttr, ↓dnA, Tryz.f49, List.length_nil, nc0, rows_length]
      simp [stepS, markS, rows]
  · simp (config := { maxSteps := 4000000 }) only [go_sem, simprocAttr, ↓dnA, Tryz.f49, rows_length]
    refine semL_for tab_ok (fun i : Nat => ⟨34, [(0, .row 800 xs.length), (1, .int .i64 (k + (stepS stC (xs.take i) : Int))), (5, .int .i64 i)], [(800, .row true nn 3 (rows encC (midS mkC stC xs k i)))]⟩) (fun i => xs.length - i)
      (fun i => i ≤ xs.length) 0 [(800, 800)] (Weak.of (by rfl) ?_ ?_ (by rfl)) (by omega) ?_
    · simp (config := { maxSteps := 4000000 }) only [go_sem, simprocAttr, ↓dnA, Tryz.f49, midS_zero, frW, wk2, wk1, wkL, wkB, hpW, List.mem_cons, Prod.mk.injEq, exists_eq_left, exists_eq_right, exists_eq]
    · simp (config := { maxSteps := 4000000 }) only [go_sem, simprocAttr, ↓dnA, Tryz.f49, List.take_zero, stepS, Int.add_zero, nc0, frW, wk2, wk1, wkL, wkB, hpW, List.mem_cons, Prod.mk.injEq, exists_eq_left, exists_eq_right, exists_eq]
    · rintro i hi
      by_cases h : i < xs.length
      · have hb := stepS_lt stC xs i h
        have hm : i < (rows encC (midS mkC stC xs k i)).length := by rw [rows_length, midS_length _ _ _ _ _ hi]; exact h
        have hst : stC xs[i] = 3 := rfl
        have hw1 : IntKind.i64.wrap ((k + (stepS stC (xs.take i) : Int)) + 1) = (k + (stepS stC (xs.take i) : Int)) + 1 := wrap_small _ (by omega) (by omega)
        have hw2 : IntKind.i64.wrap ((k + (stepS stC (xs.take i) : Int)) + 1 + 1) = (k + (stepS stC (xs.take i) : Int)) + 1 + 1 := wrap_small _ (by omega) (by omega)
        have hw3 : IntKind.i64.wrap ((k + (stepS stC (xs.take i) : Int)) + 1 + 1 + 1) = (k + (stepS stC (xs.take i) : Int)) + 1 + 1 + 1 := wrap_small _ (by omega) (by omega)
        have hK : k + (stepS stC (xs.take (i + 1)) : Int) = (k + (stepS stC (xs.take i) : Int)) + 1 + 1 + 1 := by rw [stepS_take_succ _ _ _ h, hst]; omega
        simp (config := { maxSteps := 4000000 }) only [go_sem, simprocAttr, ↓dnA, Tryz.f49, rows_length, midS_length _ _ _ _ _ hi, List.length_set, nlt h, h, nn0, midS_get _ _ _ _ _ _ h, encC, set_same _ _ _ hm, List.set_set, spliceL, hw1, hw2, hw3, wsucc h hx]
        refine ⟨i + 1, [(800, 800)], by omega, by dsimp only; omega, Weak.of (by rfl) ?_ ?_ (by rfl)⟩
        · simp (config := { maxSteps := 4000000 }) only [go_sem, simprocAttr, ↓dnA, Tryz.f49, frW, wk2, wk1, wkL, wkB, hpW, List.mem_cons, Prod.mk.injEq, exists_eq_left, exists_eq_right, exists_eq]
          exact (midS_set encC mkC stC xs k i h).symm
        · simp (config := { maxSteps := 4000000 }) only [go_sem, simprocAttr, ↓dnA, Tryz.f49, hK, wsucc h hx, frW, wk2, wk1, wkL, wkB, hpW, List.mem_cons, Prod.mk.injEq, exists_eq_left, exists_eq_right, exists_eq]
      · have hi' : i = xs.length := by omega
        subst hi'
        simp (config := { maxSteps := 4000000 }) only [go_sem, simprocAttr, ↓dnA, Tryz.f49, nlf h, rows_length, midS_len, List.take_length, markS_length]

theorem c_laws_heldCertS (n1 : Option Bool) (xs : List Cert) (k : Int) (hx : xs.length < 2 ^ 62) (hk : 0 ≤ k ∧ k + stepS stC xs < 2 ^ 62) :
    Det Tryz.prog 50 [.sl n1 (rows encC (markS mkC stC xs k)), .int .i64 k] (.int .i64 (k + stepS stC xs)) := by
  refine fspec_det tab_ok Tryz.call50 Tryz.func50 rfl 40 Tryz.ntmps50 (of_decide_eq_true rfl) fun B => codeK_sound tab_ok _ _ _ ?_
  simp (config := { maxSteps := 4000000 }) only [go_sem, simprocAttr, ↓dnA, Tryz.f50]
  refine semL_for tab_ok (fun i : Nat => ⟨40, [(0, .sl n1 (rows encC (markS mkC stC xs k))), (1, .int .i64 (k + (stepS stC (xs.take i) : Int))), (5, .int .i64 i)], []⟩) (fun i => xs.length - i)
    (fun i => i ≤ xs.length) 0 [] (Weak.of rfl trivial ?_ rfl) (by omega) ?_
  · simp (config := { maxSteps := 4000000 }) only [go_sem, simprocAttr, ↓dnA, Tryz.f50, List.take_zero, stepS, Int.add_zero, nc0, frW, wk2, wk1, wkL, wkB, hpW, List.mem_cons, Prod.mk.injEq, exists_eq_left, exists_eq_right, exists_eq]
  · rintro i hi
    by_cases h : i < xs.length
    · have hb := stepS_lt stC xs i h
      have hst : stC xs[i] = 3 := rfl
      have hw1 : IntKind.i64.wrap ((k + (stepS stC (xs.take i) : Int)) + 1) = (k + (stepS stC (xs.take i) : Int)) + 1 := wrap_small _ (by omega) (by omega)
      have hw2 : IntKind.i64.wrap ((k + (stepS stC (xs.take i) : Int)) + 1 + 1) = (k + (stepS stC (xs.take i) : Int)) + 1 + 1 := wrap_small _ (by omega) (by omega)
      have hw3 : IntKind.i64.wrap ((k + (stepS stC (xs.take i) : Int)) + 1 + 1 + 1) = (k + (stepS stC (xs.take i) : Int)) + 1 + 1 + 1 := wrap_small _ (by omega) (by omega)
      have hK : k + (stepS stC (xs.take (i + 1)) : Int) = (k + (stepS stC (xs.take i) : Int)) + 1 + 1 + 1 := by rw [stepS_take_succ _ _ _ h, hst]; omega
      simp (config := { maxSteps := 4000000 }) only [go_sem, simprocAttr, ↓dnA, Tryz.f50, rows_length, markS_length, nlt h, h, nn0, markS_rget _ _ _ _ _ _ h, encC, mkC, hw1, hw2, hw3, wsucc h hx]
      refine ⟨i + 1, [], by omega, by dsimp only; omega, Weak.of rfl trivial ?_ rfl⟩
      simp (config := { maxSteps := 4000000 }) only [go_sem, simprocAttr, ↓dnA, Tryz.f50, hK, wsucc h hx, frW, wk2, wk1, wkL, wkB, hpW, List.mem_cons, Prod.mk.injEq, exists_eq_left, exists_eq_right, exists_eq]
    · have hi' : i = xs.length := by omega
      subst hi'
      simp (config := { maxSteps := 4000000 }) only [go_sem, simprocAttr, ↓dnA, Tryz.f50, nlf h, rows_length, List.take_length, markS_length]


theorem c_laws_markVoterS (nn : Bool) (sz : Nat) (xs : List Voter) (k : Int) (hs : xs = [] ∨ sz = 2) (hx : xs.length < 2 ^ 62) (hk : 0 ≤ k ∧ k + stepS stV xs < 2 ^ 62) :
    FSpecM Tryz.prog 128 [.row 800 xs.length, .int .i64 k] [.osl nn sz (rows encV xs)] (fun r ls' => r = .int .i64 (k + stepS stV xs) ∧ ls' = [.osl nn sz (rows encV (markS mkV stV xs k))]) := by
  refine fspec_introM tab_ok Tryz.call128 Tryz.func128 rfl 27 Tryz.ntmps128 (of_decide_eq_true rfl) (of_decide_eq_true rfl) fun B => codeK_sound tab_ok _ _ _ ?_
  rcases hs with rfl | rfl
  · simp (config := { maxSteps := 4000000 }) only [go_sem, simprocAttr, ↓dnA, Tryz.f128]
    refine semL_for tab_ok (fun i : Nat => ⟨27, [(0, .row 800 0), (1, .int .i64 k), (5, .int .i64 0)], [(800, .row true nn sz (rows encV ([] : List Voter)))]⟩) (fun i => i) (fun _ => True) 0 [(800, 800)] (Weak.of (by rfl) ?_ ?_ (by rfl)) trivial ?_
    · simp (config := { maxSteps := 4000000 }) only [go_sem, simprocAttr, ↓dnA, Tryz.f128, frW, wk2, wk1, wkL, wkB, hpW, List.mem_cons, Prod.mk.injEq, exists_eq_left, exists_eq_right, exists_eq]
    · simp (config := { maxSteps := 4000000 }) only [go_sem, simprocAttr, ↓dnA, Tryz.f128, List.length_nil, nc0, frW, wk2, wk1, wkL, wkB, hpW, List.mem_cons, Prod.mk.injEq, exists_eq_left, exists_eq_right, exists_eq]
    · rintro i -
      simp (config := { maxSteps := 4000000 }) only [go_sem, simprocAttr, ↓dnA, Tryz.f128, List.length_nil, nc0, rows_length]
      simp [stepS, markS, rows]
  · simp (config := { maxSteps := 4000000 }) only [go_sem, simprocAttr, ↓dnA, Tryz.f128, rows_length]
    refine semL_for tab_ok (fun i : Nat => ⟨27, [(0, .row 800 xs.length), (1, .int .i64 (k + (stepS stV (xs.take i) : Int))), (5, .int .i64 i)], [(800, .row true nn 2 (rows encV (midS mkV stV xs k i)))]⟩) (fun i => xs.length - i)
      (fun i => i ≤ xs.length) 0 [(800, 800)] (Weak.of (by rfl) ?_ ?_ (by rfl)) (by omega) ?_
    · simp (config := { maxSteps := 4000000 }) only [go_sem, simprocAttr, ↓dnA, Tryz.f128, midS_zero, frW, wk2, wk1, wkL, wkB, hpW, List.mem_cons, Prod.mk.injEq, exists_eq_left, exists_eq_right, exists_eq]
    · simp (config := { maxSteps := 4000000 }) only [go_sem, simprocAttr, ↓dnA, Tryz.f128, List.take_zero, stepS, Int.add_zero, nc0, frW, wk2, wk1, wkL, wkB, hpW, List.mem_cons, Prod.mk.injEq, exists_eq_left, exists_eq_right, exists_eq]
    · rintro i hi
      by_cases h : i < xs.length
      · have hb := stepS_lt stV xs i h
        have hm : i < (rows encV (midS mkV stV xs k i)).length := by rw [rows_length, midS_length _ _ _ _ _ hi]; exact h
        have hst : stV xs[i] = 2 := rfl
        have hw1 : IntKind.i64.wrap ((k + (stepS stV (xs.take i) : Int)) + 1) = (k + (stepS stV (xs.take i) : Int)) + 1 := wrap_small _ (by omega) (by omega)
        have hw2 : IntKind.i64.wrap ((k + (stepS stV (xs.take i) : Int)) + 1 + 1) = (k + (stepS stV (xs.take i) : Int)) + 1 + 1 := wrap_small _ (by omega) (by omega)
        have hK : k + (stepS stV (xs.take (i + 1)) : Int) = (k + (stepS stV (xs.take i) : Int)) + 1 + 1 := by rw [stepS_take_succ _ _ _ h, hst]; omega
        simp (config := { maxSteps := 4000000 }) only [go_sem, simprocAttr, ↓dnA, Tryz.f128, rows_length, midS_length _ _ _ _ _ hi, List.length_set, nlt h, h, nn0, midS_get _ _ _ _ _ _ h, encV, set_same _ _ _ hm, List.set_set, spliceL, hw1, hw2, wsucc h hx]
        refine ⟨i + 1, [(800, 800)], by omega, by dsimp only; omega, Weak.of (by rfl) ?_ ?_ (by rfl)⟩
        · simp (config := { maxSteps := 4000000 }) only [go_sem, simprocAttr, ↓dnA, Tryz.f128, frW, wk2, wk1, wkL, wkB, hpW, List.mem_cons, Prod.mk.injEq, exists_eq_left, exists_eq_right, exists_eq]
          exact (midS_set encV mkV stV xs k i h).symm
        · simp (config := { maxSteps := 4000000 }) only [go_sem, simprocAttr, ↓dnA, Tryz.f128, hK, wsucc h hx, frW, wk2, wk1, wkL, wkB, hpW, List.mem_cons, Prod.mk.injEq, exists_eq_left, exists_eq_right, exists_eq]
      · have hi' : i = xs.length := by omega
        subst hi'
        simp (config := { maxSteps := 4000000 }) only [go_sem, simprocAttr, ↓dnA, Tryz.f128, nlf h, rows_length, midS_len, List.take_length, markS_length]

theorem c_laws_heldVoterS (n1 : Option Bool) (xs : List Voter) (k : Int) (hx : xs.length < 2 ^ 62) (hk : 0 ≤ k ∧ k + stepS stV xs < 2 ^ 62) :
    Det Tryz.prog 132 [.sl n1 (rows encV (markS mkV stV xs k)), .int .i64 k] (.int .i64 (k + stepS stV xs)) := by
  refine fspec_det tab_ok Tryz.call132 Tryz.func132 rfl 31 Tryz.ntmps132 (of_decide_eq_true rfl) fun B => codeK_sound tab_ok _ _ _ ?_
  simp (config := { maxSteps := 4000000 }) only [go_sem, simprocAttr, ↓dnA, Tryz.f132]
  refine semL_for tab_ok (fun i : Nat => ⟨31, [(0, .sl n1 (rows encV (markS mkV stV xs k))), (1, .int .i64 (k + (stepS stV (xs.take i) : Int))), (5, .int .i64 i)], []⟩) (fun i => xs.length - i)
    (fun i => i ≤ xs.length) 0 [] (Weak.of rfl trivial ?_ rfl) (by omega) ?_
  · simp (config := { maxSteps := 4000000 }) only [go_sem, simprocAttr, ↓dnA, Tryz.f132, List.take_zero, stepS, Int.add_zero, nc0, frW, wk2, wk1, wkL, wkB, hpW, List.mem_cons, Prod.mk.injEq, exists_eq_left, exists_eq_right, exists_eq]
  · rintro i hi
    by_cases h : i < xs.length
    · have hb := stepS_lt stV xs i h
      have hst : stV xs[i] = 2 := rfl
      have hw1 : IntKind.i64.wrap ((k + (stepS stV (xs.take i) : Int)) + 1) = (k + (stepS stV (xs.take i) : Int)) + 1 := wrap_small _ (by omega) (by omega)
      have hw2 : IntKind.i64.wrap ((k + (stepS stV (xs.take i) : Int)) + 1 + 1) = (k + (stepS stV (xs.take i) : Int)) + 1 + 1 := wrap_small _ (by omega) (by omega)
      have hK : k + (stepS stV (xs.take (i + 1)) : Int) = (k + (stepS stV (xs.take i) : Int)) + 1 + 1 := by rw [stepS_take_succ _ _ _ h, hst]; omega
      simp (config := { maxSteps := 4000000 }) only [go_sem, simprocAttr, ↓dnA, Tryz.f132, rows_length, markS_length, nlt h, h, nn0, markS_rget _ _ _ _ _ _ h, encV, mkV, hw1, hw2, wsucc h hx]
      refine ⟨i + 1, [], by omega, by dsimp only; omega, Weak.of rfl trivial ?_ rfl⟩
      simp (config := { maxSteps := 4000000 }) only [go_sem, simprocAttr, ↓dnA, Tryz.f132, hK, wsucc h hx, frW, wk2, wk1, wkL, wkB, hpW, List.mem_cons, Prod.mk.injEq, exists_eq_left, exists_eq_right, exists_eq]
    · have hi' : i = xs.length := by omega
      subst hi'
      simp (config := { maxSteps := 4000000 }) only [go_sem, simprocAttr, ↓dnA, Tryz.f132, nlf h, rows_length, List.take_length, markS_length]



def encBo (b : Bool) : List AV := [.bool b]
theorem boolRows_eq (l : List Bool) : boolRows l = rows encBo l := rfl
def mkBo (_ : Bool) (k : Int) : Bool := k.tmod 3 == 0
def stBo (_ : Bool) : Nat := 1

theorem c_laws_markBoolS (nn : Bool) (xs : List Bool) (k : Int) (hx : xs.length < 2 ^ 62) (hk : 0 ≤ k ∧ k + stepS stBo xs < 2 ^ 62) :
    FSpecM Tryz.prog 53 [.row 800 xs.length, .int .i64 k] [.osl nn 1 (rows encBo xs)] (fun r ls' => r = .int .i64 (k + stepS stBo xs) ∧ ls' = [.osl nn 1 (rows encBo (markS mkBo stBo xs k))]) := by
  refine fspec_introM tab_ok Tryz.call53 Tryz.func53 rfl 21 Tryz.ntmps53 (of_decide_eq_true rfl) (of_decide_eq_true rfl) fun B => codeK_sound tab_ok _ _ _ ?_
  simp (config := { maxSteps := 4000000 }) only [go_sem, simprocAttr, ↓dnA, Tryz.f53, rows_length]
  refine semL_for tab_ok (fun i : Nat => ⟨21, [(0, .row 800 xs.length), (1, .int .i64 (k + (stepS stBo (xs.take i) : Int))), (5, .int .i64 i)], [(800, .row true nn 1 (rows encBo (midS mkBo stBo xs k i)))]⟩) (fun i => xs.length - i)
    (fun i => i ≤ xs.length) 0 [(800, 800)] (Weak.of (by rfl) ?_ ?_ (by rfl)) (by omega) ?_
  · simp (config := { maxSteps := 4000000 }) only [go_sem, simprocAttr, ↓dnA, Tryz.f53, midS_zero, frW, wk2, wk1, wkL, wkB, hpW, List.mem_cons, Prod.mk.injEq, exists_eq_left, exists_eq_right, exists_eq]
  · simp (config := { maxSteps := 4000000 }) only [go_sem, simprocAttr, ↓dnA, Tryz.f53, List.take_zero, stepS, Int.add_zero, nc0, frW, wk2, wk1, wkL, wkB, hpW, List.mem_cons, Prod.mk.injEq, exists_eq_left, exists_eq_right, exists_eq]
  · rintro i hi
    by_cases h : i < xs.length
    · have hb := stepS_lt stBo xs i h
      have hm : i < (rows encBo (midS mkBo stBo xs k i)).length := by rw [rows_length, midS_length _ _ _ _ _ hi]; exact h
      have hst : stBo xs[i] = 1 := rfl
      have hw1 : IntKind.i64.wrap (k + (stepS stBo (xs.take i) : Int) + 1) = k + (stepS stBo (xs.take i) : Int) + 1 := wrap_small _ (by omega) (by omega)
      have hK : k + (stepS stBo (xs.take (i + 1)) : Int) = k + (stepS stBo (xs.take i) : Int) + 1 := by rw [stepS_take_succ _ _ _ h, hst]; omega
      have hs := midS_set encBo mkBo stBo xs k i h
      unfold mkBo encBo at hs
      simp (config := { maxSteps := 4000000 }) only [go_sem, simprocAttr, ↓dnA, Tryz.f53, rows_length, midS_length _ _ _ _ _ hi, List.length_set, nlt h, h, nn0, midS_get _ _ _ _ _ _ h, encBo, set_same _ _ _ hm, List.set_set, spliceL, hw1, wsucc h hx]
      refine ⟨i + 1, [(800, 800)], by omega, by dsimp only; omega, Weak.of (by rfl) ?_ ?_ (by rfl)⟩
      · simp (config := { maxSteps := 4000000 }) only [go_sem, simprocAttr, ↓dnA, Tryz.f53, frW, wk2, wk1, wkL, wkB, hpW, List.mem_cons, Prod.mk.injEq, exists_eq_left, exists_eq_right, exists_eq]
        exact (midS_set encBo mkBo stBo xs k i h).symm
      · simp (config := { maxSteps := 4000000 }) only [go_sem, simprocAttr, ↓dnA, Tryz.f53, hK, wsucc h hx, frW, wk2, wk1, wkL, wkB, hpW, List.mem_cons, Prod.mk.injEq, exists_eq_left, exists_eq_right, exists_eq]
    · have hi' : i = xs.length := by omega
      subst hi'
      simp (config := { maxSteps := 4000000 }) only [go_sem, simprocAttr, ↓dnA, Tryz.f53, nlf h, rows_length, midS_len, List.take_length, markS_length]

theorem c_laws_heldBoolS (n1 : Option Bool) (xs : List Bool) (k : Int) (hx : xs.length < 2 ^ 62) (hk : 0 ≤ k ∧ k + stepS stBo xs < 2 ^ 62) :
    Det Tryz.prog 54 [.sl n1 (rows encBo (markS mkBo stBo xs k)), .int .i64 k] (.int .i64 (k + stepS stBo xs)) := by
  refine fspec_det tab_ok Tryz.call54 Tryz.func54 rfl 23 Tryz.ntmps54 (of_decide_eq_true rfl) fun B => codeK_sound tab_ok _ _ _ ?_
  simp (config := { maxSteps := 4000000 }) only [go_sem, simprocAttr, ↓dnA, Tryz.f54]
  refine semL_for tab_ok (fun i : Nat => ⟨23, [(0, .sl n1 (rows encBo (markS mkBo stBo xs k))), (1, .int .i64 (k + (stepS stBo (xs.take i) : Int))), (5, .int .i64 i)], []⟩) (fun i => xs.length - i)
    (fun i => i ≤ xs.length) 0 [] (Weak.of rfl trivial ?_ rfl) (by omega) ?_
  · simp (config := { maxSteps := 4000000 }) only [go_sem, simprocAttr, ↓dnA, Tryz.f54, List.take_zero, stepS, Int.add_zero, nc0, frW, wk2, wk1, wkL, wkB, hpW, List.mem_cons, Prod.mk.injEq, exists_eq_left, exists_eq_right, exists_eq]
  · rintro i hi
    by_cases h : i < xs.length
    · have hb := stepS_lt stBo xs i h
      have hst : stBo xs[i] = 1 := rfl
      have hw1 : IntKind.i64.wrap (k + (stepS stBo (xs.take i) : Int) + 1) = k + (stepS stBo (xs.take i) : Int) + 1 := wrap_small _ (by omega) (by omega)
      have hK : k + (stepS stBo (xs.take (i + 1)) : Int) = k + (stepS stBo (xs.take i) : Int) + 1 := by rw [stepS_take_succ _ _ _ h, hst]; omega
      simp (config := { maxSteps := 4000000 }) only [go_sem, simprocAttr, ↓dnA, Tryz.f54, rows_length, markS_length, nlt h, h, nn0, markS_rget _ _ _ _ _ _ h, encBo, mkBo, hw1, wsucc h hx]
      refine ⟨i + 1, [], by omega, by dsimp only; omega, Weak.of rfl trivial ?_ rfl⟩
      simp (config := { maxSteps := 4000000 }) only [go_sem, simprocAttr, ↓dnA, Tryz.f54, hK, wsucc h hx, frW, wk2, wk1, wkL, wkB, hpW, List.mem_cons, Prod.mk.injEq, exists_eq_left, exists_eq_right, exists_eq]
    · have hi' : i = xs.length := by omega
      subst hi'
      simp (config := { maxSteps := 4000000 }) only [go_sem, simprocAttr, ↓dnA, Tryz.f54, nlf h, rows_length, List.take_length, markS_length]

def stW (w : Wld) : Nat := stT w.tree + stepS stV w.voters + stepS stI w.votes
def mkW (w : Wld) (k : Int) : Wld := ⟨mkT w.tree k, markS mkV stV w.voters (k + (stT w.tree : Int)), markS mkI stI w.votes (k + (stT w.tree : Int) + (stepS stV w.voters : Int))⟩

theorem c_laws_markWorld (n1 n2 n3 n4 n5 : Bool) (w : Wld) (k : Int) (hx : WldSz w) (hk : 0 ≤ k ∧ k + stW w < 2 ^ 62) :
    FSpecM Tryz.prog 48 [.agg [.row 800 w.tree.base.length, .row 801 w.tree.blocks.length, .row 802 w.tree.before.length, .row 803 w.voters.length, .row 804 w.votes.length], .int .i64 k] [.osl n1 2 (rows encE w.tree.base), .osl n2 6 (rows encB1 w.tree.blocks), .osl n3 1 (rows encI w.tree.before), .osl n4 2 (rows encV w.voters), .osl n5 1 (rows encI w.votes)]
      (fun r ls' => r = .int .i64 (k + stW w) ∧ ls' = [.osl n1 2 (rows encE (mkW w k).tree.base), .osl n2 6 (rows encB1 (mkW w k).tree.blocks), .osl n3 1 (rows encI (mkW w k).tree.before), .osl n4 2 (rows encV (mkW w k).voters), .osl n5 1 (rows encI (mkW w k).votes)]) := by
  refine fspec_introM tab_ok Tryz.call48 Tryz.func48 rfl 18 Tryz.ntmps48 (of_decide_eq_true rfl) (of_decide_eq_true rfl) fun B => codeK_sound tab_ok _ _ _ ?_
  unfold stW at hk ⊢
  have he : k + ((stT w.tree + stepS stV w.voters + stepS stI w.votes : Nat) : Int) = k + (stT w.tree : Int) + (stepS stV w.voters : Int) + (stepS stI w.votes : Int) := by omega
  have l1 : (mkT w.tree k).base.length = w.tree.base.length := markS_length ..
  have l2 : (mkT w.tree k).blocks.length = w.tree.blocks.length := markS_length ..
  have l3 : (mkT w.tree k).before.length = w.tree.before.length := markS_length ..
  simp (config := { maxSteps := 4000000 }) only [go_sem, simprocAttr, ↓dnA, Tryz.f48, List.nodup_cons, rows_length]
  refine CallMTo.of (c_laws_markBlockTree n1 n2 n3 w.tree k hx.tree ⟨hk.1, by omega⟩) ?_
  rintro r ls' ⟨rfl, rfl⟩
  simp (config := { maxSteps := 4000000 }) only [go_sem, simprocAttr, ↓dnA, Tryz.f48, List.nodup_cons, rows_length, l1, l2, l3]
  refine CallMTo.of (c_laws_markVoterS n4 2 w.voters _ (.inr rfl) hx.voters ⟨by omega, by omega⟩) ?_
  rintro r ls' ⟨rfl, rfl⟩
  simp (config := { maxSteps := 4000000 }) only [go_sem, simprocAttr, ↓dnA, Tryz.f48, List.nodup_cons, rows_length, l1, l2, l3]
  refine CallMTo.of (c_laws_markIntS n5 1 w.votes _ (.inr rfl) hx.votes ⟨by omega, by omega⟩) ?_
  rintro r ls' ⟨rfl, rfl⟩
  simp (config := { maxSteps := 4000000 }) only [go_sem, simprocAttr, ↓dnA, Tryz.f48, List.nodup_cons, rows_length, markS_length, mkW, he, l1, l2, l3]

theorem c_laws_heldWorld (n1 n2 n3 n4 n5 : Option Bool) (w : Wld) (k : Int) (hx : WldSz w) (hk : 0 ≤ k ∧ k + stW w < 2 ^ 62) :
    Det Tryz.prog 57 [.agg (encW n1 n2 n3 n4 n5 (mkW w k)), .int .i64 k] (.int .i64 (k + stW w)) := by
  refine fspec_det tab_ok Tryz.call57 Tryz.func57 rfl 24 Tryz.ntmps57 (of_decide_eq_true rfl) fun B => codeK_sound tab_ok _ _ _ ?_
  unfold stW at hk ⊢
  have he : k + ((stT w.tree + stepS stV w.voters + stepS stI w.votes : Nat) : Int) = k + (stT w.tree : Int) + (stepS stV w.voters : Int) + (stepS stI w.votes : Int) := by omega
  have d1 : decide (k + (stT w.tree : Int) < 0) = false := by simp; omega
  have d2 : decide (k + (stT w.tree : Int) + (stepS stV w.voters : Int) < 0) = false := by simp; omega
  have d3 : decide (k + (stT w.tree : Int) + (stepS stV w.voters : Int) + (stepS stI w.votes : Int) < 0) = false := by simp; omega
  unfold encW mkW
  simp (config := { maxSteps := 4000000 }) only [go_sem, simprocAttr, ↓dnA, Tryz.f57, List.nodup_cons]
  refine CallTo.det (c_laws_heldBlockTree n1 n2 n3 w.tree k hx.tree ⟨hk.1, by omega⟩) fun _ => ?_
  simp (config := { maxSteps := 4000000 }) only [go_sem, simprocAttr, ↓dnA, Tryz.f57, List.nodup_cons, d1]
  refine CallTo.det (c_laws_heldVoterS n4 w.voters _ hx.voters ⟨by omega, by omega⟩) fun _ => ?_
  simp (config := { maxSteps := 4000000 }) only [go_sem, simprocAttr, ↓dnA, Tryz.f57, List.nodup_cons, d1, d2]
  refine CallTo.det (c_laws_heldIntS n5 w.votes _ hx.votes ⟨by omega, by omega⟩) fun _ => ?_
  simp (config := { maxSteps := 4000000 }) only [go_sem, simprocAttr, ↓dnA, Tryz.f57, List.nodup_cons, d1, d2, d3, he]

theorem stW_le (w : Wld) : stW w ≤ 5 * wsz w := by
  have := stT_le w.tree
  unfold stW wsz
  rw [stepS_const stV 2 (fun _ => rfl), stepS_const stI 1 (fun _ => rfl)]
  omega
theorem wsz_sz {w : Wld} {m : Nat} (h : wsz w ≤ m) (hm : m < 2 ^ 62) : WldSz w :=
  ⟨tsz_sz (m := m) (by unfold wsz at h; omega) hm, by unfold wsz at h; omega, by unfold wsz at h; omega⟩
theorem stW_small {w : Wld} (h : WldS32 w) : stW w ≤ 5 * 1048576 := by
  have := stW_le w
  have := h.sum
  omega

end Go.Proofs.YtmibclbinebnjaaGreat

/- Arguments of the laws, by their types. -/
set_option linter.unusedSimpArgs false
namespace Go.Proofs.YtmibclbinebnjaaGreat
open Go Go.ChangeShapes Go.WideShapes Go.ChangeAt Go.RowKit

theorem own_ : ownKnob Tryz.prog.godebug = none := by kernel_rfl
theorem laidOut_ : laidOutB Tryz.prog = true := by kernel_rfl

theorem ty_int {cs : List AV} (h : Ty tab 3 cs) : ∃ n, cs = [.int .i64 n] ∧ IntKind.i64.has n := h.int_inv tabAt_3 rfl
theorem ty_bool {cs : List AV} (h : Ty tab 4 cs) : ∃ b, cs = [.bool b] := h.bool_inv tabAt_4 rfl
theorem ty_intA {a : AV} (h : TyArg tab 3 a) : ∃ n, a = .int .i64 n := by
  obtain ⟨n, e, _⟩ := ty_int (h.one_inv tabAt_3 rfl)
  exact ⟨n, by simpa using e⟩

/-- The cells of one value read as the cells of a datum. -/
def Leqs (r c : List AV) : Prop := r.length = c.length ∧ ∀ (j : Nat) (_ : j < c.length), Leq (r.getD j .top) (c.getD j .top)
theorem Leqs.refl (c : List AV) : Leqs c c := ⟨rfl, fun _ _ => Leq.refl _⟩
theorem Leqs.of_eq {r c : List AV} (h : r = c) : Leqs r c := h ▸ Leqs.refl _
theorem Leqs.agg {r c : List AV} (h : Leqs r c) : Leq (.agg r) (.agg c) := Leq.agg h.1 h.2

/-- A slice of elements that read as data. -/
theorem ty_rows {α : Type} (e : α → List AV) (Q : α → Prop) {et : TypeId} {es : List (List AV)} (h : ∀ (j : Nat) (_ : j < es.length), Ty tab et (es.getD j [])) (hx : ∀ r, Ty tab et r → ∃ x, Q x ∧ Leqs r (e x)) :
    ∃ xs : List α, es.length = xs.length ∧ (∀ x, x ∈ xs → Q x) ∧ ∀ nn, Leq (.sl nn es) (.sl nn (rows e xs)) := by
  have key : ∃ xs : List α, es.length = xs.length ∧ (∀ x, x ∈ xs → Q x) ∧ ∀ (i : Nat) (hi : i < xs.length), Leqs (es.getD i []) (e (xs[i]'hi)) := by
    induction es with
    | nil => exact ⟨[], rfl, fun x hx => (by cases hx), fun i hi => absurd hi (by simp)⟩
    | cons r rs ih =>
      obtain ⟨x, hq, hx1⟩ := hx r (h 0 (by simp))
      obtain ⟨xs, h1, h2, h3⟩ := ih (fun j hj => h (j + 1) (by simpa using hj))
      refine ⟨x :: xs, by simp [h1], fun y hy => ?_, fun i hi => ?_⟩
      · rcases List.mem_cons.1 hy with rfl | hy
        · exact hq
        · exact h2 y hy
      · cases i with
        | zero => exact hx1
        | succ i => exact h3 i (by simpa using hi)
  obtain ⟨xs, h1, h2, h3⟩ := key
  refine ⟨xs, h1, h2, fun nn => Leq.sl (by rw [rows_length, h1]) (fun i hi => ?_) (fun i j hi hj => ?_)⟩
  · rw [rows_length] at hi
    rw [rows_get _ _ _ hi]
    exact (h3 i hi).1
  · rw [rows_length] at hi
    rw [rows_get _ _ _ hi] at hj ⊢
    exact (h3 i hi).2 j hj

/-- A slice, as one cell. -/
theorem ty_slice {α : Type} (e : α → List AV) (Q : α → Prop) {t et : TypeId} {ti : TI} {cs : List AV} (h : Ty tab t cs) (ht : tab t = some ti) (hk : ti.k = .slice et) (hx : ∀ r, Ty tab et r → ∃ x, Q x ∧ Leqs r (e x)) :
    ∃ (n : Option Bool) (xs : List α), xs.length ≤ 9223372036854775807 ∧ (∀ x, x ∈ xs → Q x) ∧ Leqs cs [.sl n (rows e xs)] ∧ Leqs cs [.sl none (rows e xs)] := by
  obtain ⟨nn, es, rfl, _, hl, he⟩ := h.slice_inv ht hk
  obtain ⟨xs, h1, h2, h3⟩ := ty_rows e Q he hx
  refine ⟨some nn, xs, by omega, h2, ⟨rfl, fun j hj => ?_⟩, ⟨rfl, fun j hj => ?_⟩⟩
  · have : j = 0 := by simpa using hj
    subst this; exact h3 _
  · have : j = 0 := by simpa using hj
    subst this; exact (h3 (some nn)).trans Leq.slN

theorem ty_bools {a : AV} (h : TyArg tab 48 a) : ∃ (n : Option Bool) (bs : List Bool), Leq a (.sl n (boolRows bs)) ∧ bs.length ≤ 9223372036854775807 := by
  obtain ⟨n, xs, h1, _, h2, _⟩ := ty_slice (fun b : Bool => [AV.bool b]) (fun _ => True) (h.one_inv tabAt_48 rfl) tabAt_48 rfl fun r hr => by
    obtain ⟨b, rfl⟩ := ty_bool hr
    exact ⟨b, trivial, Leqs.refl _⟩
  exact ⟨n, xs, h2.2 0 (by simp), h1⟩

theorem ty_voterC {cs : List AV} (h : Ty tab 187 cs) : ∃ v : Voter, cs = encV v := by
  obtain ⟨ps, rfl, hl, hp⟩ := h.struct_inv tabAt_187 rfl
  match ps, hl with
  | [p, q], _ =>
    obtain ⟨x, hx, _⟩ := ty_int (hp 0 (by decide))
    obtain ⟨y, hy, _⟩ := ty_int (hp 1 (by decide))
    have hx : p = _ := hx
    have hy : q = _ := hy
    subst hx; subst hy
    exact ⟨⟨x, y⟩, rfl⟩

theorem ty_voter {a : AV} (h : TyArg tab 187 a) : ∃ v : Voter, a = .agg (encV v) := by
  obtain ⟨cs, rfl, h2⟩ := h.agg_inv tabAt_187 rfl
  obtain ⟨v, rfl⟩ := ty_voterC h2
  exact ⟨v, rfl⟩

theorem ty_entry {cs : List AV} (h : Ty tab 183 cs) : ∃ e : Entry, cs = encE e := by
  obtain ⟨ps, rfl, hl, hp⟩ := h.struct_inv tabAt_183 rfl
  match ps, hl with
  | [p, q], _ =>
    obtain ⟨x, hx, _⟩ := ty_int (hp 0 (by decide))
    obtain ⟨y, hy, _⟩ := ty_int (hp 1 (by decide))
    have hx : p = _ := hx
    have hy : q = _ := hy
    subst hx; subst hy
    exact ⟨⟨x, y⟩, rfl⟩

theorem ty_action {cs : List AV} (h : Ty tab 158 cs) : ∃ e : Action, cs = encA e := by
  obtain ⟨ps, rfl, hl, hp⟩ := h.struct_inv tabAt_158 rfl
  match ps, hl with
  | [p, q, r, s], _ =>
    obtain ⟨x, hx, _⟩ := ty_int (hp 0 (by decide))
    obtain ⟨y, hy, _⟩ := ty_int (hp 1 (by decide))
    obtain ⟨z, hz, _⟩ := ty_int (hp 2 (by decide))
    obtain ⟨w, hw, _⟩ := ty_int (hp 3 (by decide))
    have hx : p = _ := hx
    have hy : q = _ := hy
    have hz : r = _ := hz
    have hw : s = _ := hw
    subst hx; subst hy; subst hz; subst hw
    exact ⟨⟨x, y, z, w⟩, rfl⟩

theorem Leqs.cons {a b : AV} {r c : List AV} (h : Leq a b) (h' : Leqs r c) : Leqs (a :: r) (b :: c) := by
  refine ⟨by simp [h'.1], fun j hj => ?_⟩
  cases j with
  | zero => exact h
  | succ j => exact h'.2 j (by simpa using hj)

theorem Leqs.one {r : List AV} {b : AV} (h : Leqs r [b]) : ∃ a, r = [a] ∧ Leq a b := by
  obtain ⟨h1, h2⟩ := h
  match r, h1 with
  | [a], _ => exact ⟨a, rfl, h2 0 (by simp)⟩

theorem ty_block {cs : List AV} (h : Ty tab 181 cs) : ∃ b : Block, b.list.length ≤ 9223372036854775807 ∧ Leqs cs (encB1 b) := by
  obtain ⟨ps, rfl, hl, hp⟩ := h.struct_inv tabAt_181 rfl
  match ps, hl with
  | [p1, p2, p3, p4, p5, p6], _ =>
    obtain ⟨x1, h1, _⟩ := ty_int (hp 0 (by decide))
    obtain ⟨x2, h2, _⟩ := ty_int (hp 1 (by decide))
    obtain ⟨x3, h3, _⟩ := ty_int (hp 2 (by decide))
    obtain ⟨_, x4, hl4, _, _, h4⟩ := ty_slice encA (fun _ => True) (hp 3 (by decide)) tabAt_89 rfl fun r hr => by
      obtain ⟨a, rfl⟩ := ty_action hr
      exact ⟨a, trivial, Leqs.refl _⟩
    obtain ⟨x5, h5, _⟩ := ty_int (hp 4 (by decide))
    obtain ⟨x6, h6, _⟩ := ty_int (hp 5 (by decide))
    have h1 : p1 = _ := h1
    have h2 : p2 = _ := h2
    have h3 : p3 = _ := h3
    have h5 : p5 = _ := h5
    have h6 : p6 = _ := h6
    obtain ⟨a4, e4, l4⟩ := h4.one
    have e4 : p4 = _ := e4
    subst h1; subst h2; subst h3; subst h5; subst h6; subst e4
    exact ⟨⟨x1, x2, x3, x4, x5, x6⟩, hl4, .cons (.refl _) (.cons (.refl _) (.cons (.refl _) (.cons l4 (.cons (.refl _) (.cons (.refl _) (.refl [])))))) ⟩

theorem ty_treeC {cs : List AV} (h : Ty tab 53 cs) : ∃ (n1 n2 n3 : Option Bool) (t : Tree), Leqs cs (encT n1 n2 n3 t) ∧ TreeLen t := by
  obtain ⟨ps, rfl, hl, hp⟩ := h.struct_inv tabAt_53 rfl
  match ps, hl with
  | [p1, p2, p3], _ =>
    obtain ⟨n1, x1, l1, _, h1, _⟩ := ty_slice encE (fun _ => True) (hp 0 (by decide)) tabAt_50 rfl fun r hr => by
      obtain ⟨a, rfl⟩ := ty_entry hr
      exact ⟨a, trivial, Leqs.refl _⟩
    obtain ⟨n2, x2, l2, q2, h2, _⟩ := ty_slice encB1 (fun b => b.list.length ≤ 9223372036854775807) (hp 1 (by decide)) tabAt_51 rfl fun r hr => ty_block hr
    obtain ⟨n3, x3, l3, _, h3, _⟩ := ty_slice encI (fun _ => True) (hp 2 (by decide)) tabAt_25 rfl fun r hr => by
      obtain ⟨a, rfl, _⟩ := ty_int hr
      exact ⟨a, trivial, Leqs.refl _⟩
    obtain ⟨a1, e1, g1⟩ := h1.one
    obtain ⟨a2, e2, g2⟩ := h2.one
    obtain ⟨a3, e3, g3⟩ := h3.one
    have e1 : p1 = _ := e1
    have e2 : p2 = _ := e2
    have e3 : p3 = _ := e3
    subst e1; subst e2; subst e3
    exact ⟨n1, n2, n3, ⟨x1, x2, x3⟩, .cons g1 (.cons g2 (.cons g3 (.refl []))), ⟨l1, l2, l3, q2⟩⟩

theorem ty_tree {a : AV} (h : TyArg tab 53 a) : ∃ (n1 n2 n3 : Option Bool) (t : Tree), Leq a (.agg (encT n1 n2 n3 t)) ∧ TreeLen t := by
  obtain ⟨cs, rfl, h2⟩ := h.agg_inv tabAt_53 rfl
  obtain ⟨n1, n2, n3, t, h3, h4⟩ := ty_treeC h2
  exact ⟨n1, n2, n3, t, h3.agg, h4⟩

end Go.Proofs.YtmibclbinebnjaaGreat

/- Arguments of the laws, by their types: certificates. -/
set_option linter.unusedSimpArgs false
namespace Go.Proofs.YtmibclbinebnjaaGreat
open Go Go.RowKit

theorem ty_certC {cs : List AV} (h : Ty tab 128 cs) : ∃ c : Cert, cs = encC c := by
  obtain ⟨ps, rfl, hl, hp⟩ := h.struct_inv tabAt_128 rfl
  match ps, hl with
  | [p, q, r], _ =>
    obtain ⟨x, hx, _⟩ := ty_int (hp 0 (by decide))
    obtain ⟨y, hy, _⟩ := ty_int (hp 1 (by decide))
    obtain ⟨z, hz, _⟩ := ty_int (hp 2 (by decide))
    have hx : p = _ := hx
    have hy : q = _ := hy
    have hz : r = _ := hz
    subst hx; subst hy; subst hz
    exact ⟨⟨x, y, z⟩, rfl⟩

theorem ty_cert {a : AV} (h : TyArg tab 128 a) : ∃ v : Cert, a = .agg (encC v) := by
  obtain ⟨cs, rfl, h2⟩ := h.agg_inv tabAt_128 rfl
  obtain ⟨v, rfl⟩ := ty_certC h2
  exact ⟨v, rfl⟩

end Go.Proofs.YtmibclbinebnjaaGreat

/- Arguments of the laws, by their types: worlds. -/
set_option linter.unusedSimpArgs false
namespace Go.Proofs.YtmibclbinebnjaaGreat
open Go Go.RowKit

theorem Leqs.append {r c r' c' : List AV} (h : Leqs r c) (h' : Leqs r' c') : Leqs (r ++ r') (c ++ c') := by
  refine ⟨by simp [h.1, h'.1], fun j hj => ?_⟩
  by_cases e : j < c.length
  · rw [getD_append_left _ _ _ _ (by rw [h.1]; exact e), getD_append_left _ _ _ _ e]
    exact h.2 j e
  · have hr := h.1
    rw [getD_append_right _ _ _ _ (by omega), getD_append_right _ _ _ _ (by omega), hr]
    exact h'.2 _ (by rw [List.length_append] at hj; omega)

theorem ty_worldC {cs : List AV} (h : Ty tab 67 cs) : ∃ (n1 n2 n3 n4 n5 : Option Bool) (w : Wld), Leqs cs (encW n1 n2 n3 n4 n5 w) ∧ WldLen w := by
  obtain ⟨ps, rfl, hl, hp⟩ := h.struct_inv tabAt_67 rfl
  match ps, hl with
  | [p1, p2, p3], _ =>
    obtain ⟨n1, n2, n3, t, ht, hl1⟩ := ty_treeC (hp 0 (by decide))
    obtain ⟨n4, x4, l4, _, h4, _⟩ := ty_slice encV (fun _ => True) (hp 1 (by decide)) tabAt_65 rfl fun r hr => by
      obtain ⟨a, rfl⟩ := ty_voterC hr
      exact ⟨a, trivial, Leqs.refl _⟩
    obtain ⟨n5, x5, l5, _, h5, _⟩ := ty_slice encI (fun _ => True) (hp 2 (by decide)) tabAt_25 rfl fun r hr => by
      obtain ⟨a, rfl, _⟩ := ty_int hr
      exact ⟨a, trivial, Leqs.refl _⟩
    have ht : Leqs p1 _ := ht
    have h4 : Leqs p2 _ := h4
    have h5 : Leqs p3 _ := h5
    have := ht.append (h4.append (h5.append (Leqs.refl [])))
    exact ⟨n1, n2, n3, n4, n5, ⟨t, x4, x5⟩, by simpa [encT, encW] using this, ⟨hl1, l4, l5⟩⟩

theorem ty_world {a : AV} (h : TyArg tab 67 a) : ∃ (n1 n2 n3 n4 n5 : Option Bool) (w : Wld), Leq a (.agg (encW n1 n2 n3 n4 n5 w)) ∧ WldLen w := by
  obtain ⟨cs, rfl, h2⟩ := h.agg_inv tabAt_67 rfl
  obtain ⟨n1, n2, n3, n4, n5, t, h3, h4⟩ := ty_worldC h2
  exact ⟨n1, n2, n3, n4, n5, t, h3.agg, h4⟩

end Go.Proofs.YtmibclbinebnjaaGreat

/- Arguments of the laws, by their types: slices of certificates, of numbers. -/
set_option linter.unusedSimpArgs false
namespace Go.Proofs.YtmibclbinebnjaaGreat
open Go Go.RowKit

theorem ty_certs {a : AV} (h : TyArg tab 54 a) : ∃ (n : Option Bool) (xs : List Cert), Leq a (.sl n (rows encC xs)) ∧ xs.length ≤ 9223372036854775807 := by
  obtain ⟨n, xs, h1, _, h2, _⟩ := ty_slice encC (fun _ => True) (h.one_inv tabAt_54 rfl) tabAt_54 rfl fun r hr => by
    obtain ⟨b, rfl⟩ := ty_certC hr
    exact ⟨b, trivial, Leqs.refl _⟩
  exact ⟨n, xs, h2.2 0 (by simp), h1⟩

theorem ty_ints {a : AV} (h : TyArg tab 25 a) : ∃ (n : Option Bool) (xs : List Int), Leq a (.sl n (rows encI xs)) ∧ xs.length ≤ 9223372036854775807 := by
  obtain ⟨n, xs, h1, _, h2, _⟩ := ty_slice encI (fun _ => True) (h.one_inv tabAt_25 rfl) tabAt_25 rfl fun r hr => by
    obtain ⟨b, rfl, _⟩ := ty_int hr
    exact ⟨b, trivial, Leqs.refl _⟩
  exact ⟨n, xs, h2.2 0 (by simp), h1⟩

end Go.Proofs.YtmibclbinebnjaaGreat

