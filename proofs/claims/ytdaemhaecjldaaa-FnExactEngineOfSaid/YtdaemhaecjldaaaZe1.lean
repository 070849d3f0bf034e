/- EngineOf, the program's and the reference's (part 1): W33, W35, W42, W43, W44, W45, C9, Ty1, Ty4 -/
import Derived.Test.YtdaemhaecjldaaaRows
import Derived.ProofKit
import Derived.Test.YtdaemhaecjldaaaK5

/- Contracts: the laws' marks. -/
set_option linter.unusedSimpArgs false
set_option linter.unusedVariables false
set_option maxRecDepth 20000
set_option maxHeartbeats 4000000
namespace Go.Proofs.Ytdaemhaecjldaaa
open Go Go.RowKit

section
variable {α : Type} (e : α → List AV) (mk : α → Int → α) (st : α → Nat)

def stepS : List α → Nat
  | [] => 0
  | x :: r => st x + stepS r

/-- Elements that are marked one after the other, from k on. -/
def markS : List α → Int → List α
  | [], _ => []
  | x :: r, k => mk x k :: markS r (k + st x)

theorem markS_length : ∀ (xs : List α) (k : Int), (markS mk st xs k).length = xs.length
  | [], _ => rfl
  | x :: r, k => by simp [markS, markS_length r]

theorem stepS_take_succ : ∀ (xs : List α) (i : Nat) (h : i < xs.length), stepS st (xs.take (i + 1)) = stepS st (xs.take i) + st xs[i]
  | x :: r, 0, _ => by simp [stepS]
  | x :: r, i + 1, h => by
    have := stepS_take_succ r i (by simpa using h)
    simp only [List.take_succ_cons, stepS, List.getElem_cons_succ] at this ⊢
    omega

theorem stepS_le : ∀ (xs : List α) (i : Nat), stepS st (xs.take i) ≤ stepS st xs
  | [], _ => by simp [stepS]
  | x :: r, 0 => by simp [stepS]
  | x :: r, i + 1 => by
    have := stepS_le r i
    simp only [List.take_succ_cons, stepS]; omega

theorem stepS_lt (xs : List α) (i : Nat) (h : i < xs.length) : stepS st (xs.take i) + st xs[i] ≤ stepS st xs := by
  rw [← stepS_take_succ st xs i h]; exact stepS_le st xs (i + 1)

theorem markS_append : ∀ (xs ys : List α) (k : Int), markS mk st (xs ++ ys) k = markS mk st xs k ++ markS mk st ys (k + stepS st xs)
  | [], ys, k => by simp [markS, stepS]
  | x :: r, ys, k => by
    simp only [List.cons_append, markS, stepS, markS_append r ys]
    rw [show k + (st x : Int) + (stepS st r : Int) = k + ((st x + stepS st r : Nat) : Int) by omega]

theorem markS_take_succ (xs : List α) (i : Nat) (h : i < xs.length) (k : Int) : markS mk st (xs.take (i + 1)) k = markS mk st (xs.take i) k ++ [mk xs[i] (k + stepS st (xs.take i))] := by
  rw [take_snoc xs i h, markS_append]; rfl

theorem markS_get : ∀ (xs : List α) (i : Nat) (h : i < xs.length) (k : Int), (markS mk st xs k)[i]'(by rw [markS_length]; exact h) = mk xs[i] (k + stepS st (xs.take i))
  | x :: r, 0, _, k => by simp [markS, stepS]
  | x :: r, i + 1, h, k => by
    have := markS_get r i (by simpa using h) (k + st x)
    simp only [markS, List.getElem_cons_succ, List.take_succ_cons, stepS, this]
    rw [show k + (st x : Int) + (stepS st (r.take i) : Int) = k + ((st x + stepS st (r.take i) : Nat) : Int) by omega]

theorem markS_rget (xs : List α) (i : Nat) (k : Int) (h : i < xs.length) : (rows e (markS mk st xs k)).getD i [] = e (mk xs[i] (k + stepS st (xs.take i))) := by
  rw [rows_get _ _ _ (by rw [markS_length]; exact h), markS_get]

/-- The first i elements are marked. -/
def midS (xs : List α) (k : Int) (i : Nat) : List α := markS mk st (xs.take i) k ++ xs.drop i

theorem midS_zero (xs : List α) (k : Int) : midS mk st xs k 0 = xs := by simp [midS, markS]
theorem midS_len (xs : List α) (k : Int) : midS mk st xs k xs.length = markS mk st xs k := by simp [midS]
theorem midS_length (xs : List α) (k : Int) (i : Nat) (hi : i ≤ xs.length) : (midS mk st xs k i).length = xs.length := by
  simp [midS, markS_length]; omega
theorem midS_get (xs : List α) (k : Int) (i : Nat) (h : i < xs.length) : (rows e (midS mk st xs k i)).getD i [] = e xs[i] := by
  have hl : (markS mk st (xs.take i) k).length = i := by rw [markS_length, List.length_take]; omega
  have hl' : i < (midS mk st xs k i).length := by rw [midS_length _ _ _ _ _ (by omega)]; exact h
  rw [rows_get _ _ _ hl']
  congr 1
  have : (midS mk st xs k i)[i]? = some xs[i] := by
    unfold midS
    rw [List.getElem?_append_right (by omega), hl, Nat.sub_self]
    simp [h]
  exact Option.some.inj ((List.getElem?_eq_getElem hl').symm.trans this)
theorem midS_set (xs : List α) (k : Int) (i : Nat) (h : i < xs.length) : (rows e (midS mk st xs k i)).set i (e (mk xs[i] (k + stepS st (xs.take i)))) = rows e (midS mk st xs k (i + 1)) := by
  rw [rows_set]
  congr 1
  have hl : (markS mk st (xs.take i) k).length = i := by rw [markS_length, List.length_take]; omega
  unfold midS
  rw [List.set_append_right _ _ (by omega), hl, Nat.sub_self, drop_cons xs i h, List.set_cons_zero, markS_take_succ _ _ _ _ h, List.append_assoc]
  rfl
end

theorem set_same {α : Type} (l : List α) (i : Nat) (d : α) (h : i < l.length) (v : α) : (l.set i v).getD i d = v := by
  rw [set_getD _ _ _ _ _ h, if_pos rfl]

def mkE (_ : Entry) (k : Int) : Entry := ⟨k, k + 1⟩
def stE (_ : Entry) : Nat := 2
def mkA (_ : Action) (k : Int) : Action := ⟨k, k + 1, k + 1 + 1, k + 1 + 1 + 1⟩
def stA (_ : Action) : Nat := 4
def mkI (_ : Int) (k : Int) : Int := k
def stI (_ : Int) : Nat := 1

theorem c_laws_markEntryS (nn : Bool) (sz : Nat) (xs : List Entry) (k : Int) (hs : xs = [] ∨ sz = 2) (hx : xs.length < 2 ^ 62) (hk : 0 ≤ k ∧ k + stepS stE xs < 2 ^ 62) :
    FSpecM Try.prog 28 [.row 800 xs.length, .int .i64 k] [.osl nn sz (rows encE xs)] (fun r ls' => r = .int .i64 (k + stepS stE xs) ∧ ls' = [.osl nn sz (rows encE (markS mkE stE xs k))]) := by
  refine fspec_introM tab_ok Try.call28 Try.func28 rfl 27 Try.ntmps28 (of_decide_eq_true rfl) (of_decide_eq_true rfl) fun B => codeK_sound tab_ok _ _ _ ?_
  rcases hs with rfl | rfl
  · simp (config := { maxSteps := 4000000 }) only [go_sem, simprocAttr, ↓dnA, Try.f28]
    refine semL_for tab_ok (fun i : Nat => ⟨27, [(0, .row 800 0), (1, .int .i64 k), (5, .int .i64 0)], [(800, .row true nn sz (rows encE ([] : List Entry)))]⟩) (fun i => i) (fun _ => True) 0 [(800, 800)] (Weak.of (by rfl) ?_ ?_ (by rfl)) trivial ?_
    · simp (config := { maxSteps := 4000000 }) only [go_sem, simprocAttr, ↓dnA, Try.f28, frW, wk2, wk1, wkL, wkB, hpW, List.mem_cons, Prod.mk.injEq, exists_eq_left, exists_eq_right, exists_eq]
    · simp (config := { maxSteps := 4000000 }) only [go_sem, simprocAttr, ↓dnA, Try.f28, List.length_nil, nc0, frW, wk2, wk1, wkL, wkB, hpW, List.mem_cons, Prod.mk.injEq, exists_eq_left, exists_eq_right, exists_eq]
    · rintro i -
      simp (config := { maxSteps := 4000000 }) only [go_sem, simprocAttr, ↓dnA, Try.f28, List.length_nil, nc0, rows_length]
      simp [stepS, markS, rows]
  · simp (config := { maxSteps := 4000000 }) only [go_sem, simprocAttr, ↓dnA, Try.f28, rows_length]
    refine semL_for tab_ok (fun i : Nat => ⟨27, [(0, .row 800 xs.length), (1, .int .i64 (k + (stepS stE (xs.take i) : Int))), (5, .int .i64 i)], [(800, .row true nn 2 (rows encE (midS mkE stE xs k i)))]⟩) (fun i => xs.length - i)
      (fun i => i ≤ xs.length) 0 [(800, 800)] (Weak.of (by rfl) ?_ ?_ (by rfl)) (by omega) ?_
    · simp (config := { maxSteps := 4000000 }) only [go_sem, simprocAttr, ↓dnA, Try.f28, midS_zero, frW, wk2, wk1, wkL, wkB, hpW, List.mem_cons, Prod.mk.injEq, exists_eq_left, exists_eq_right, exists_eq]
    · simp (config := { maxSteps := 4000000 }) only [go_sem, simprocAttr, ↓dnA, Try.f28, List.take_zero, stepS, Int.add_zero, nc0, frW, wk2, wk1, wkL, wkB, hpW, List.mem_cons, Prod.mk.injEq, exists_eq_left, exists_eq_right, exists_eq]
    · rintro i hi
      by_cases h : i < xs.length
      · have hb := stepS_lt stE xs i h
        have hm : i < (rows encE (midS mkE stE xs k i)).length := by rw [rows_length, midS_length _ _ _ _ _ hi]; exact h
        have hst : stE xs[i] = 2 := rfl
        have hw1 : IntKind.i64.wrap ((k + (stepS stE (xs.take i) : Int)) + 1) = (k + (stepS stE (xs.take i) : Int)) + 1 := wrap_small _ (by omega) (by omega)
        have hw2 : IntKind.i64.wrap ((k + (stepS stE (xs.take i) : Int)) + 1 + 1) = (k + (stepS stE (xs.take i) : Int)) + 1 + 1 := wrap_small _ (by omega) (by omega)
        have hK : k + (stepS stE (xs.take (i + 1)) : Int) = (k + (stepS stE (xs.take i) : Int)) + 1 + 1 := by rw [stepS_take_succ _ _ _ h, hst]; omega
        simp (config := { maxSteps := 4000000 }) only [go_sem, simprocAttr, ↓dnA, Try.f28, rows_length, midS_length _ _ _ _ _ hi, List.length_set, nlt h, h, nn0, midS_get _ _ _ _ _ _ h, encE, set_same _ _ _ hm, List.set_set, spliceL, hw1, hw2, wsucc h hx]
        refine ⟨i + 1, [(800, 800)], by omega, by dsimp only; omega, Weak.of (by rfl) ?_ ?_ (by rfl)⟩
        · simp (config := { maxSteps := 4000000 }) only [go_sem, simprocAttr, ↓dnA, Try.f28, frW, wk2, wk1, wkL, wkB, hpW, List.mem_cons, Prod.mk.injEq, exists_eq_left, exists_eq_right, exists_eq]
          exact (midS_set encE mkE stE xs k i h).symm
        · simp (config := { maxSteps := 4000000 }) only [go_sem, simprocAttr, ↓dnA, Try.f28, hK, wsucc h hx, frW, wk2, wk1, wkL, wkB, hpW, List.mem_cons, Prod.mk.injEq, exists_eq_left, exists_eq_right, exists_eq]
      · have hi' : i = xs.length := by omega
        subst hi'
        simp (config := { maxSteps := 4000000 }) only [go_sem, simprocAttr, ↓dnA, Try.f28, nlf h, rows_length, midS_len, List.take_length, markS_length]

theorem c_laws_heldEntryS (n1 : Option Bool) (xs : List Entry) (k : Int) (hx : xs.length < 2 ^ 62) (hk : 0 ≤ k ∧ k + stepS stE xs < 2 ^ 62) :
    Det Try.prog 90 [.sl n1 (rows encE (markS mkE stE xs k)), .int .i64 k] (.int .i64 (k + stepS stE xs)) := by
  refine fspec_det tab_ok Try.call90 Try.func90 rfl 31 Try.ntmps90 (of_decide_eq_true rfl) fun B => codeK_sound tab_ok _ _ _ ?_
  simp (config := { maxSteps := 4000000 }) only [go_sem, simprocAttr, ↓dnA, Try.f90]
  refine semL_for tab_ok (fun i : Nat => ⟨31, [(0, .sl n1 (rows encE (markS mkE stE xs k))), (1, .int .i64 (k + (stepS stE (xs.take i) : Int))), (5, .int .i64 i)], []⟩) (fun i => xs.length - i)
    (fun i => i ≤ xs.length) 0 [] (Weak.of rfl trivial ?_ rfl) (by omega) ?_
  · simp (config := { maxSteps := 4000000 }) only [go_sem, simprocAttr, ↓dnA, Try.f90, List.take_zero, stepS, Int.add_zero, nc0, frW, wk2, wk1, wkL, wkB, hpW, List.mem_cons, Prod.mk.injEq, exists_eq_left, exists_eq_right, exists_eq]
  · rintro i hi
    by_cases h : i < xs.length
    · have hb := stepS_lt stE xs i h
      have hst : stE xs[i] = 2 := rfl
      have hw1 : IntKind.i64.wrap ((k + (stepS stE (xs.take i) : Int)) + 1) = (k + (stepS stE (xs.take i) : Int)) + 1 := wrap_small _ (by omega) (by omega)
      have hw2 : IntKind.i64.wrap ((k + (stepS stE (xs.take i) : Int)) + 1 + 1) = (k + (stepS stE (xs.take i) : Int)) + 1 + 1 := wrap_small _ (by omega) (by omega)
      have hK : k + (stepS stE (xs.take (i + 1)) : Int) = (k + (stepS stE (xs.take i) : Int)) + 1 + 1 := by rw [stepS_take_succ _ _ _ h, hst]; omega
      simp (config := { maxSteps := 4000000 }) only [go_sem, simprocAttr, ↓dnA, Try.f90, rows_length, markS_length, nlt h, h, nn0, markS_rget _ _ _ _ _ _ h, encE, mkE, hw1, hw2, wsucc h hx]
      refine ⟨i + 1, [], by omega, by dsimp only; omega, Weak.of rfl trivial ?_ rfl⟩
      simp (config := { maxSteps := 4000000 }) only [go_sem, simprocAttr, ↓dnA, Try.f90, hK, wsucc h hx, frW, wk2, wk1, wkL, wkB, hpW, List.mem_cons, Prod.mk.injEq, exists_eq_left, exists_eq_right, exists_eq]
    · have hi' : i = xs.length := by omega
      subst hi'
      simp (config := { maxSteps := 4000000 }) only [go_sem, simprocAttr, ↓dnA, Try.f90, nlf h, rows_length, List.take_length, markS_length]


theorem c_laws_markActionS (nn : Bool) (sz : Nat) (xs : List Action) (k : Int) (hs : xs = [] ∨ sz = 4) (hx : xs.length < 2 ^ 62) (hk : 0 ≤ k ∧ k + stepS stA xs < 2 ^ 62) :
    FSpecM Try.prog 29 [.row 800 xs.length, .int .i64 k] [.osl nn sz (rows encA xs)] (fun r ls' => r = .int .i64 (k + stepS stA xs) ∧ ls' = [.osl nn sz (rows encA (markS mkA stA xs k))]) := by
  refine fspec_introM tab_ok Try.call29 Try.func29 rfl 41 Try.ntmps29 (of_decide_eq_true rfl) (of_decide_eq_true rfl) fun B => codeK_sound tab_ok _ _ _ ?_
  rcases hs with rfl | rfl
  · simp (config := { maxSteps := 4000000 }) only [go_sem, simprocAttr, ↓dnA, Try.f29]
    refine semL_for tab_ok (fun i : Nat => ⟨41, [(0, .row 800 0), (1, .int .i64 k), (5, .int .i64 0)], [(800, .row true nn sz (rows encA ([] : List Action)))]⟩) (fun i => i) (fun _ => True) 0 [(800, 800)] (Weak.of (by rfl) ?_ ?_ (by rfl)) trivial ?_
    · simp (config := { maxSteps := 4000000 }) only [go_sem, simprocAttr, ↓dnA, Try.f29, frW, wk2, wk1, wkL, wkB, hpW, List.mem_cons, Prod.mk.injEq, exists_eq_left, exists_eq_right, exists_eq]
    · simp (config := { maxSteps := 4000000 }) only [go_sem, simprocAttr, ↓dnA, Try.f29, List.length_nil, nc0, frW, wk2, wk1, wkL, wkB, hpW, List.mem_cons, Prod.mk.injEq, exists_eq_left, exists_eq_right, exists_eq]
    · rintro i -
      simp (config := { maxSteps := 4000000 }) only [go_sem, simprocAttr, ↓dnA, Try.f29, List.length_nil, nc0, rows_length]
      simp [stepS, markS, rows]
  · simp (config := { maxSteps := 4000000 }) only [go_sem, simprocAttr, ↓dnA, Try.f29, rows_length]
    refine semL_for tab_ok (fun i : Nat => ⟨41, [(0, .row 800 xs.length), (1, .int .i64 (k + (stepS stA (xs.take i) : Int))), (5, .int .i64 i)], [(800, .row true nn 4 (rows encA (midS mkA stA xs k i)))]⟩) (fun i => xs.length - i)
      (fun i => i ≤ xs.length) 0 [(800, 800)] (Weak.of (by rfl) ?_ ?_ (by rfl)) (by omega) ?_
    · simp (config := { maxSteps := 4000000 }) only [go_sem, simprocAttr, ↓dnA, Try.f29, midS_zero, frW, wk2, wk1, wkL, wkB, hpW, List.mem_cons, Prod.mk.injEq, exists_eq_left, exists_eq_right, exists_eq]
    · simp (config := { maxSteps := 4000000 }) only [go_sem, simprocAttr, ↓dnA, Try.f29, List.take_zero, stepS, Int.add_zero, nc0, frW, wk2, wk1, wkL, wkB, hpW, List.mem_cons, Prod.mk.injEq, exists_eq_left, exists_eq_right, exists_eq]
    · rintro i hi
      by_cases h : i < xs.length
      · have hb := stepS_lt stA xs i h
        have hm : i < (rows encA (midS mkA stA xs k i)).length := by rw [rows_length, midS_length _ _ _ _ _ hi]; exact h
        have hst : stA xs[i] = 4 := rfl
        have hw1 : IntKind.i64.wrap ((k + (stepS stA (xs.take i) : Int)) + 1) = (k + (stepS stA (xs.take i) : Int)) + 1 := wrap_small _ (by omega) (by omega)
        have hw2 : IntKind.i64.wrap ((k + (stepS stA (xs.take i) : Int)) + 1 + 1) = (k + (stepS stA (xs.take i) : Int)) + 1 + 1 := wrap_small _ (by omega) (by omega)
        have hw3 : IntKind.i64.wrap ((k + (stepS stA (xs.take i) : Int)) + 1 + 1 + 1) = (k + (stepS stA (xs.take i) : Int)) + 1 + 1 + 1 := wrap_small _ (by omega) (by omega)
        have hw4 : IntKind.i64.wrap ((k + (stepS stA (xs.take i) : Int)) + 1 + 1 + 1 + 1) = (k + (stepS stA (xs.take i) : Int)) + 1 + 1 + 1 + 1 := wrap_small _ (by omega) (by omega)
        have hK : k + (stepS stA (xs.take (i + 1)) : Int) = (k + (stepS stA (xs.take i) : Int)) + 1 + 1 + 1 + 1 := by rw [stepS_take_succ _ _ _ h, hst]; omega
        simp (config := { maxSteps := 4000000 }) only [go_sem, simprocAttr, ↓dnA, Try.f29, rows_length, midS_length _ _ _ _ _ hi, List.length_set, nlt h, h, nn0, midS_get _ _ _ _ _ _ h, encA, set_same _ _ _ hm, List.set_set, spliceL, hw1, hw2, hw3, hw4, wsucc h hx]
        refine ⟨i + 1, [(800, 800)], by omega, by dsimp only; omega, Weak.of (by rfl) ?_ ?_ (by rfl)⟩
        · simp (config := { maxSteps := 4000000 }) only [go_sem, simprocAttr, ↓dnA, Try.f29, frW, wk2, wk1, wkL, wkB, hpW, List.mem_cons, Prod.mk.injEq, exists_eq_left, exists_eq_right, exists_eq]
          exact (midS_set encA mkA stA xs k i h).symm
        · simp (config := { maxSteps := 4000000 }) only [go_sem, simprocAttr, ↓dnA, Try.f29, hK, wsucc h hx, frW, wk2, wk1, wkL, wkB, hpW, List.mem_cons, Prod.mk.injEq, exists_eq_left, exists_eq_right, exists_eq]
      · have hi' : i = xs.length := by omega
        subst hi'
        simp (config := { maxSteps := 4000000 }) only [go_sem, simprocAttr, ↓dnA, Try.f29, nlf h, rows_length, midS_len, List.take_length, markS_length]

theorem c_laws_heldActionS (n1 : Option Bool) (xs : List Action) (k : Int) (hx : xs.length < 2 ^ 62) (hk : 0 ≤ k ∧ k + stepS stA xs < 2 ^ 62) :
    Det Try.prog 91 [.sl n1 (rows encA (markS mkA stA xs k)), .int .i64 k] (.int .i64 (k + stepS stA xs)) := by
  refine fspec_det tab_ok Try.call91 Try.func91 rfl 49 Try.ntmps91 (of_decide_eq_true rfl) fun B => codeK_sound tab_ok _ _ _ ?_
  simp (config := { maxSteps := 4000000 }) only [go_sem, simprocAttr, ↓dnA, Try.f91]
  refine semL_for tab_ok (fun i : Nat => ⟨49, [(0, .sl n1 (rows encA (markS mkA stA xs k))), (1, .int .i64 (k + (stepS stA (xs.take i) : Int))), (5, .int .i64 i)], []⟩) (fun i => xs.length - i)
    (fun i => i ≤ xs.length) 0 [] (Weak.of rfl trivial ?_ rfl) (by omega) ?_
  · simp (config := { maxSteps := 4000000 }) only [go_sem, simprocAttr, ↓dnA, Try.f91, List.take_zero, stepS, Int.add_zero, nc0, frW, wk2, wk1, wkL, wkB, hpW, List.mem_cons, Prod.mk.injEq, exists_eq_left, exists_eq_right, exists_eq]
  · rintro i hi
    by_cases h : i < xs.length
    · have hb := stepS_lt stA xs i h
      have hst : stA xs[i] = 4 := rfl
      have hw1 : IntKind.i64.wrap ((k + (stepS stA (xs.take i) : Int)) + 1) = (k + (stepS stA (xs.take i) : Int)) + 1 := wrap_small _ (by omega) (by omega)
      have hw2 : IntKind.i64.wrap ((k + (stepS stA (xs.take i) : Int)) + 1 + 1) = (k + (stepS stA (xs.take i) : Int)) + 1 + 1 := wrap_small _ (by omega) (by omega)
      have hw3 : IntKind.i64.wrap ((k + (stepS stA (xs.take i) : Int)) + 1 + 1 + 1) = (k + (stepS stA (xs.take i) : Int)) + 1 + 1 + 1 := wrap_small _ (by omega) (by omega)
      have hw4 : IntKind.i64.wrap ((k + (stepS stA (xs.take i) : Int)) + 1 + 1 + 1 + 1) = (k + (stepS stA (xs.take i) : Int)) + 1 + 1 + 1 + 1 := wrap_small _ (by omega) (by omega)
      have hK : k + (stepS stA (xs.take (i + 1)) : Int) = (k + (stepS stA (xs.take i) : Int)) + 1 + 1 + 1 + 1 := by rw [stepS_take_succ _ _ _ h, hst]; omega
      simp (config := { maxSteps := 4000000 }) only [go_sem, simprocAttr, ↓dnA, Try.f91, rows_length, markS_length, nlt h, h, nn0, markS_rget _ _ _ _ _ _ h, encA, mkA, hw1, hw2, hw3, hw4, wsucc h hx]
      refine ⟨i + 1, [], by omega, by dsimp only; omega, Weak.of rfl trivial ?_ rfl⟩
      simp (config := { maxSteps := 4000000 }) only [go_sem, simprocAttr, ↓dnA, Try.f91, hK, wsucc h hx, frW, wk2, wk1, wkL, wkB, hpW, List.mem_cons, Prod.mk.injEq, exists_eq_left, exists_eq_right, exists_eq]
    · have hi' : i = xs.length := by omega
      subst hi'
      simp (config := { maxSteps := 4000000 }) only [go_sem, simprocAttr, ↓dnA, Try.f91, nlf h, rows_length, List.take_length, markS_length]


theorem c_laws_markIntS (nn : Bool) (sz : Nat) (xs : List Int) (k : Int) (hs : xs = [] ∨ sz = 1) (hx : xs.length < 2 ^ 62) (hk : 0 ≤ k ∧ k + stepS stI xs < 2 ^ 62) :
    FSpecM Try.prog 62 [.row 800 xs.length, .int .i64 k] [.osl nn sz (rows encI xs)] (fun r ls' => r = .int .i64 (k + stepS stI xs) ∧ ls' = [.osl nn sz (rows encI (markS mkI stI xs k))]) := by
  refine fspec_introM tab_ok Try.call62 Try.func62 rfl 19 Try.ntmps62 (of_decide_eq_true rfl) (of_decide_eq_true rfl) fun B => codeK_sound tab_ok _ _ _ ?_
  rcases hs with rfl | rfl
  · simp (config := { maxSteps := 4000000 }) only [go_sem, simprocAttr, ↓dnA, Try.f62]
    refine semL_for tab_ok (fun i : Nat => ⟨19, [(0, .row 800 0), (1, .int .i64 k), (5, .int .i64 0)], [(800, .row true nn sz (rows encI ([] : List Int)))]⟩) (fun i => i) (fun _ => True) 0 [(800, 800)] (Weak.of (by rfl) ?_ ?_ (by rfl)) trivial ?_
    · simp (config := { maxSteps := 4000000 }) only [go_sem, simprocAttr, ↓dnA, Try.f62, frW, wk2, wk1, wkL, wkB, hpW, List.mem_cons, Prod.mk.injEq, exists_eq_left, exists_eq_right, exists_eq]
    · simp (config := { maxSteps := 4000000 }) only [go_sem, simprocAttr, ↓dnA, Try.f62, List.length_nil, nc0, frW, wk2, wk1, wkL, wkB, hpW, List.mem_cons, Prod.mk.injEq, exists_eq_left, exists_eq_right, exists_eq]
    · rintro i -
      simp (config := { maxSteps := 4000000 }) only [go_sem, simprocAttr, ↓dnA, Try.f62, List.length_nil, nc0, rows_length]
      simp [stepS, markS, rows]
  · simp (config := { maxSteps := 4000000 }) only [go_sem, simprocAttr, ↓dnA, Try.f62, rows_length]
    refine semL_for tab_ok (fun i : Nat => ⟨19, [(0, .row 800 xs.length), (1, .int .i64 (k + (stepS stI (xs.take i) : Int))), (5, .int .i64 i)], [(800, .row true nn 1 (rows encI (midS mkI stI xs k i)))]⟩) (fun i => xs.length - i)
      (fun i => i ≤ xs.length) 0 [(800, 800)] (Weak.of (by rfl) ?_ ?_ (by rfl)) (by omega) ?_
    · simp (config := { maxSteps := 4000000 }) only [go_sem, simprocAttr, ↓dnA, Try.f62, midS_zero, frW, wk2, wk1, wkL, wkB, hpW, List.mem_cons, Prod.mk.injEq, exists_eq_left, exists_eq_right, exists_eq]
    · simp (config := { maxSteps := 4000000 }) only [go_sem, simprocAttr, ↓dnA, Try.f62, List.take_zero, stepS, Int.add_zero, nc0, frW, wk2, wk1, wkL, wkB, hpW, List.mem_cons, Prod.mk.injEq, exists_eq_left, exists_eq_right, exists_eq]
    · rintro i hi
      by_cases h : i < xs.length
      · have hb := stepS_lt stI xs i h
        have hm : i < (rows encI (midS mkI stI xs k i)).length := by rw [rows_length, midS_length _ _ _ _ _ hi]; exact h
        have hst : stI xs[i] = 1 := rfl
        have hw1 : IntKind.i64.wrap ((k + (stepS stI (xs.take i) : Int)) + 1) = (k + (stepS stI (xs.take i) : Int)) + 1 := wrap_small _ (by omega) (by omega)
        have hK : k + (stepS stI (xs.take (i + 1)) : Int) = (k + (stepS stI (xs.take i) : Int)) + 1 := by rw [stepS_take_succ _ _ _ h, hst]; omega
        simp (config := { maxSteps := 4000000 }) only [go_sem, simprocAttr, ↓dnA, Try.f62, rows_length, midS_length _ _ _ _ _ hi, List.length_set, nlt h, h, nn0, midS_get _ _ _ _ _ _ h, encI, set_same _ _ _ hm, List.set_set, spliceL, hw1, wsucc h hx]
        refine ⟨i + 1, [(800, 800)], by omega, by dsimp only; omega, Weak.of (by rfl) ?_ ?_ (by rfl)⟩
        · simp (config := { maxSteps := 4000000 }) only [go_sem, simprocAttr, ↓dnA, Try.f62, frW, wk2, wk1, wkL, wkB, hpW, List.mem_cons, Prod.mk.injEq, exists_eq_left, exists_eq_right, exists_eq]
          exact (midS_set encI mkI stI xs k i h).symm
        · simp (config := { maxSteps := 4000000 }) only [go_sem, simprocAttr, ↓dnA, Try.f62, hK, wsucc h hx, frW, wk2, wk1, wkL, wkB, hpW, List.mem_cons, Prod.mk.injEq, exists_eq_left, exists_eq_right, exists_eq]
      · have hi' : i = xs.length := by omega
        subst hi'
        simp (config := { maxSteps := 4000000 }) only [go_sem, simprocAttr, ↓dnA, Try.f62, nlf h, rows_length, midS_len, List.take_length, markS_length]

theorem c_laws_heldIntS (n1 : Option Bool) (xs : List Int) (k : Int) (hx : xs.length < 2 ^ 62) (hk : 0 ≤ k ∧ k + stepS stI xs < 2 ^ 62) :
    Det Try.prog 63 [.sl n1 (rows encI (markS mkI stI xs k)), .int .i64 k] (.int .i64 (k + stepS stI xs)) := by
  refine fspec_det tab_ok Try.call63 Try.func63 rfl 21 Try.ntmps63 (of_decide_eq_true rfl) fun B => codeK_sound tab_ok _ _ _ ?_
  simp (config := { maxSteps := 4000000 }) only [go_sem, simprocAttr, ↓dnA, Try.f63]
  refine semL_for tab_ok (fun i : Nat => ⟨21, [(0, .sl n1 (rows encI (markS mkI stI xs k))), (1, .int .i64 (k + (stepS stI (xs.take i) : Int))), (5, .int .i64 i)], []⟩) (fun i => xs.length - i)
    (fun i => i ≤ xs.length) 0 [] (Weak.of rfl trivial ?_ rfl) (by omega) ?_
  · simp (config := { maxSteps := 4000000 }) only [go_sem, simprocAttr, ↓dnA, Try.f63, List.take_zero, stepS, Int.add_zero, nc0, frW, wk2, wk1, wkL, wkB, hpW, List.mem_cons, Prod.mk.injEq, exists_eq_left, exists_eq_right, exists_eq]
  · rintro i hi
    by_cases h : i < xs.length
    · have hb := stepS_lt stI xs i h
      have hst : stI xs[i] = 1 := rfl
      have hw1 : IntKind.i64.wrap ((k + (stepS stI (xs.take i) : Int)) + 1) = (k + (stepS stI (xs.take i) : Int)) + 1 := wrap_small _ (by omega) (by omega)
      have hK : k + (stepS stI (xs.take (i + 1)) : Int) = (k + (stepS stI (xs.take i) : Int)) + 1 := by rw [stepS_take_succ _ _ _ h, hst]; omega
      simp (config := { maxSteps := 4000000 }) only [go_sem, simprocAttr, ↓dnA, Try.f63, rows_length, markS_length, nlt h, h, nn0, markS_rget _ _ _ _ _ _ h, encI, mkI, hw1, wsucc h hx]
      refine ⟨i + 1, [], by omega, by dsimp only; omega, Weak.of rfl trivial ?_ rfl⟩
      simp (config := { maxSteps := 4000000 }) only [go_sem, simprocAttr, ↓dnA, Try.f63, hK, wsucc h hx, frW, wk2, wk1, wkL, wkB, hpW, List.mem_cons, Prod.mk.injEq, exists_eq_left, exists_eq_right, exists_eq]
    · have hi' : i = xs.length := by omega
      subst hi'
      simp (config := { maxSteps := 4000000 }) only [go_sem, simprocAttr, ↓dnA, Try.f63, nlf h, rows_length, List.take_length, markS_length]


end Go.Proofs.Ytdaemhaecjldaaa

/- Contracts: the laws' marks of blocks and trees. -/
set_option linter.unusedSimpArgs false
set_option linter.unusedVariables false
set_option maxRecDepth 20000
set_option maxHeartbeats 4000000
namespace Go.Proofs.Ytdaemhaecjldaaa
open Go Go.RowKit

theorem stepS_const {α : Type} (st : α → Nat) (c : Nat) (h : ∀ x, st x = c) : ∀ xs : List α, stepS st xs = c * xs.length
  | [] => by simp [stepS]
  | x :: r => by rw [stepS, stepS_const st c h r, h x, List.length_cons, Nat.mul_add, Nat.mul_one, Nat.add_comm]

theorem sz_of {α : Type} (e : α → List AV) (xs : List α) (n sz : Nat) (he : ∀ x, (e x).length = n) (h : ∀ r ∈ rows e xs, r.length = sz) : xs = [] ∨ sz = n := by
  cases xs with
  | nil => exact .inl rfl
  | cons x r => exact .inr ((h (e x) (by simp [rows])).symm.trans (he x))

def mkB (b : Block) (k : Int) : Block :=
  ⟨k, k + 1, k + 1 + 1, markS mkA stA b.list (k + 1 + 1 + 1), k + 1 + 1 + 1 + (stepS stA b.list : Int), k + 1 + 1 + 1 + (stepS stA b.list : Int) + 1⟩
def stB (b : Block) : Nat := 5 + stepS stA b.list

theorem c_laws_markBlockS (nn : Bool) (xs : List Block) (k : Int) (hx : xs.length < 2 ^ 62) (hk : 0 ≤ k ∧ k + stepS stB xs < 2 ^ 62) :
    FSpecM Try.prog 126 [.row 800 xs.length, .int .i64 k] [.osl nn 6 (rows encB1 xs)] (fun r ls' => r = .int .i64 (k + stepS stB xs) ∧ ls' = [.osl nn 6 (rows encB1 (markS mkB stB xs k))]) := by
  refine fspec_introM tab_ok Try.call126 Try.func126 rfl 55 Try.ntmps126 (of_decide_eq_true rfl) (of_decide_eq_true rfl) fun B => codeK_sound tab_ok _ _ _ ?_
  simp (config := { maxSteps := 4000000 }) only [go_sem, simprocAttr, ↓dnA, Try.f126, rows_length]
  refine semL_for tab_ok (fun i : Nat => ⟨55, [(0, .row 800 xs.length), (1, .int .i64 (k + (stepS stB (xs.take i) : Int))), (5, .int .i64 i)], [(800, .row true nn 6 (rows encB1 (midS mkB stB xs k i)))]⟩) (fun i => xs.length - i)
    (fun i => i ≤ xs.length) 0 [(800, 800)] (Weak.of (by rfl) ?_ ?_ (by rfl)) (by omega) ?_
  · simp (config := { maxSteps := 4000000 }) only [go_sem, simprocAttr, ↓dnA, Try.f126, midS_zero, frW, wk2, wk1, wkL, wkB, hpW, List.mem_cons, Prod.mk.injEq, exists_eq_left, exists_eq_right, exists_eq]
  · simp (config := { maxSteps := 4000000 }) only [go_sem, simprocAttr, ↓dnA, Try.f126, List.take_zero, stepS, Int.add_zero, nc0, frW, wk2, wk1, wkL, wkB, hpW, List.mem_cons, Prod.mk.injEq, exists_eq_left, exists_eq_right, exists_eq]
  · rintro i hi
    by_cases h : i < xs.length
    · have hb := stepS_lt stB xs i h
      have hm : i < (rows encB1 (midS mkB stB xs k i)).length := by rw [rows_length, midS_length _ _ _ _ _ hi]; exact h
      have hst : stB xs[i] = 5 + stepS stA xs[i].list := rfl
      have hl4 := stepS_const stA 4 (fun _ => rfl) xs[i].list
      have hK : k + (stepS stB (xs.take (i + 1)) : Int) = k + (stepS stB (xs.take i) : Int) + 1 + 1 + 1 + (stepS stA xs[i].list : Int) + 1 + 1 := by rw [stepS_take_succ _ _ _ h, hst]; omega
      have hs := midS_set encB1 mkB stB xs k i h
      unfold mkB at hs
      generalize hKe : k + (stepS stB (xs.take i) : Int) = K at *
      have hw1 : IntKind.i64.wrap (K + 1) = K + 1 := wrap_small _ (by omega) (by omega)
      have hw2 : IntKind.i64.wrap (K + 1 + 1) = K + 1 + 1 := wrap_small _ (by omega) (by omega)
      have hw3 : IntKind.i64.wrap (K + 1 + 1 + 1) = K + 1 + 1 + 1 := wrap_small _ (by omega) (by omega)
      have hw4 : IntKind.i64.wrap (K + 1 + 1 + 1 + (stepS stA xs[i].list : Int) + 1) = K + 1 + 1 + 1 + (stepS stA xs[i].list : Int) + 1 := wrap_small _ (by omega) (by omega)
      have hw5 : IntKind.i64.wrap (K + 1 + 1 + 1 + (stepS stA xs[i].list : Int) + 1 + 1) = K + 1 + 1 + 1 + (stepS stA xs[i].list : Int) + 1 + 1 := wrap_small _ (by omega) (by omega)
      simp (config := { maxSteps := 4000000 }) only [go_sem, simprocAttr, ↓dnA, Try.f126, rows_length, midS_length _ _ _ _ _ hi, List.length_set, nlt h, h, nn0, midS_get _ _ _ _ _ _ h, encB1, encBk, set_same _ _ _ hm, List.set_set, spliceL, hw1, hw2, hw3]
      intro sz2 hz2 hl2
      refine CallMTo.of (c_laws_markActionS false sz2 xs[i].list (K + 1 + 1 + 1) (sz_of encA xs[i].list 4 sz2 (fun _ => rfl) hl2) (by omega) (by omega)) ?_
      rintro r ls' ⟨rfl, rfl⟩ es2' he
      simp only [List.cons.injEq, AV.osl.injEq, and_true, true_and] at he
      subst he
      have hs' : (rows encB1 (midS mkB stB xs k i)).set i [.int .i64 K, .int .i64 (K + 1), .int .i64 (K + 1 + 1), .sl none (rows encA (markS mkA stA xs[i].list (K + 1 + 1 + 1))), .int .i64 (K + 1 + 1 + 1 + (stepS stA xs[i].list : Int)), .int .i64 (K + 1 + 1 + 1 + (stepS stA xs[i].list : Int) + 1)] = rows encB1 (midS mkB stB xs k (i + 1)) := hs
      simp (config := { maxSteps := 4000000 }) only [go_sem, simprocAttr, ↓dnA, Try.f126, rows_length, midS_length _ _ _ _ _ hi, List.length_set, nlt h, h, nn0, midS_get _ _ _ _ _ _ h, encB1, encBk, set_same _ _ _ hm, List.set_set, spliceL, hw4, hw5, wsucc h hx]
      refine ⟨i + 1, [(800, 800)], by omega, by dsimp only; omega, Weak.of (by rfl) ?_ ?_ (by rfl)⟩
      · simp (config := { maxSteps := 4000000 }) only [go_sem, simprocAttr, ↓dnA, Try.f126, frW, wk2, wk1, wkL, wkB, hpW, List.mem_cons, Prod.mk.injEq, exists_eq_left, exists_eq_right, exists_eq]
        exact hs'.symm
      · simp (config := { maxSteps := 4000000 }) only [go_sem, simprocAttr, ↓dnA, Try.f126, hK, wsucc h hx, frW, wk2, wk1, wkL, wkB, hpW, List.mem_cons, Prod.mk.injEq, exists_eq_left, exists_eq_right, exists_eq]
    · have hi' : i = xs.length := by omega
      subst hi'
      simp (config := { maxSteps := 4000000 }) only [go_sem, simprocAttr, ↓dnA, Try.f126, nlf h, rows_length, midS_len, List.take_length, markS_length]

def stT (t : Tree) : Nat := stepS stE t.base + stepS stB t.blocks + stepS stI t.before
def mkT (t : Tree) (k : Int) : Tree :=
  ⟨markS mkE stE t.base k, markS mkB stB t.blocks (k + (stepS stE t.base : Int)), markS mkI stI t.before (k + (stepS stE t.base : Int) + (stepS stB t.blocks : Int))⟩

theorem c_laws_markBlockTree (n1 n2 n3 : Bool) (t : Tree) (k : Int) (hx : TreeSz t) (hk : 0 ≤ k ∧ k + stT t < 2 ^ 62) :
    FSpecM Try.prog 61 [.agg [.row 800 t.base.length, .row 801 t.blocks.length, .row 802 t.before.length], .int .i64 k] [.osl n1 2 (rows encE t.base), .osl n2 6 (rows encB1 t.blocks), .osl n3 1 (rows encI t.before)]
      (fun r ls' => r = .int .i64 (k + stT t) ∧ ls' = [.osl n1 2 (rows encE (mkT t k).base), .osl n2 6 (rows encB1 (mkT t k).blocks), .osl n3 1 (rows encI (mkT t k).before)]) := by
  refine fspec_introM tab_ok Try.call61 Try.func61 rfl 18 Try.ntmps61 (of_decide_eq_true rfl) (of_decide_eq_true rfl) fun B => codeK_sound tab_ok _ _ _ ?_
  unfold stT at hk ⊢
  have he : k + ((stepS stE t.base + stepS stB t.blocks + stepS stI t.before : Nat) : Int) = k + (stepS stE t.base : Int) + (stepS stB t.blocks : Int) + (stepS stI t.before : Int) := by omega
  simp (config := { maxSteps := 4000000 }) only [go_sem, simprocAttr, ↓dnA, Try.f61, List.nodup_cons, rows_length]
  refine CallMTo.of (c_laws_markEntryS n1 2 t.base k (.inr rfl) hx.base ⟨hk.1, by omega⟩) ?_
  rintro r ls' ⟨rfl, rfl⟩
  simp (config := { maxSteps := 4000000 }) only [go_sem, simprocAttr, ↓dnA, Try.f61, List.nodup_cons, rows_length]
  refine CallMTo.of (c_laws_markBlockS n2 t.blocks _ hx.blocks ⟨by omega, by omega⟩) ?_
  rintro r ls' ⟨rfl, rfl⟩
  simp (config := { maxSteps := 4000000 }) only [go_sem, simprocAttr, ↓dnA, Try.f61, List.nodup_cons, rows_length]
  refine CallMTo.of (c_laws_markIntS n3 1 t.before _ (.inr rfl) hx.before ⟨by omega, by omega⟩) ?_
  rintro r ls' ⟨rfl, rfl⟩
  simp (config := { maxSteps := 4000000 }) only [go_sem, simprocAttr, ↓dnA, Try.f61, List.nodup_cons, rows_length, markS_length, mkT, he]

theorem c_laws_markBlock (nn : Bool) (b : Block) (k : Int) (hx : b.list.length < 2 ^ 62) (hk : 0 ≤ k ∧ k + stepS stA b.list < 2 ^ 62) :
    FSpecM Try.prog 56 [.agg [.int .i64 b.before, .int .i64 b.height, .int .i64 b.view, .row 800 b.list.length, .int .i64 b.root, .int .i64 b.effects], .int .i64 k] [.osl nn 4 (rows encA b.list)]
      (fun r ls' => r = .int .i64 (k + stepS stA b.list) ∧ ls' = [.osl nn 4 (rows encA (markS mkA stA b.list k))]) := by
  refine fspec_introM tab_ok Try.call56 Try.func56 rfl 10 Try.ntmps56 (of_decide_eq_true rfl) (of_decide_eq_true rfl) fun B => codeK_sound tab_ok _ _ _ ?_
  simp (config := { maxSteps := 4000000 }) only [go_sem, simprocAttr, ↓dnA, Try.f56, List.nodup_cons, rows_length]
  refine CallMTo.of (c_laws_markActionS nn 4 b.list k (.inr rfl) hx hk) ?_
  rintro r ls' ⟨rfl, rfl⟩
  simp (config := { maxSteps := 4000000 }) only [go_sem, simprocAttr, ↓dnA, Try.f56, List.nodup_cons, rows_length, markS_length]

theorem c_laws_heldBlock (n : Option Bool) (b : Block) (k : Int) (hx : b.list.length < 2 ^ 62) (hk : 0 ≤ k ∧ k + stepS stA b.list < 2 ^ 62) :
    Det Try.prog 57 [.agg (encBk n { b with list := markS mkA stA b.list k }), .int .i64 k] (.int .i64 (k + stepS stA b.list)) := by
  refine fspec_det tab_ok Try.call57 Try.func57 rfl 12 Try.ntmps57 (of_decide_eq_true rfl) fun B => codeK_sound tab_ok _ _ _ ?_
  have d1 : decide (k + (stepS stA b.list : Int) < 0) = false := by simp; omega
  unfold encBk
  simp (config := { maxSteps := 4000000 }) only [go_sem, simprocAttr, ↓dnA, Try.f57, List.nodup_cons]
  refine CallTo.det (c_laws_heldActionS n b.list k hx hk) fun _ => ?_
  simp (config := { maxSteps := 4000000 }) only [go_sem, simprocAttr, ↓dnA, Try.f57, List.nodup_cons, d1]

end Go.Proofs.Ytdaemhaecjldaaa

/- Contracts: engines, and their copies. -/
set_option linter.unusedSimpArgs false
set_option linter.unusedVariables false
set_option maxRecDepth 20000
set_option maxHeartbeats 4000000
namespace Go.Proofs.Ytdaemhaecjldaaa
open Go Go.RowKit

theorem semL_nilVA {P : Program} {B : Base} {c : Code} {s : AState} {Kx : Exit → AState → Prop} (vid j id sz : Nat) (own : Bool) {cs : List AV} (h0 : s.blk vid = .var cs) (hj : j < cs.length) (h1 : cs.getD j .top = .sl (some false) []) (h2 : s.blk id = .none) (h3 : nF id) (h4 : 0 < sz)
    (h : @SemL P B c { s with hp := (vid, .var (cs.set j (.row id 0))) :: (id, .row own false sz []) :: s.hp } ⟨Kx⟩) : @SemL P B c s ⟨Kx⟩ := @semL_nilV _ _ _ _ ⟨Kx⟩ vid j id sz own _ h0 hj h1 h2 h3 h4 h

structure Version where
  key : Int
  by_ : Int
  value : Int
deriving DecidableEq, Inhabited
def encR (v : Version) : List AV := [.int .i64 v.key, .int .i64 v.by_, .int .i64 v.value]

structure Effect where
  done : Bool
  reads : List Entry
  writes : List Entry
deriving DecidableEq, Inhabited
def encF (n1 n2 : Option Bool) (e : Effect) : List AV := [.bool e.done, .sl n1 (rows encE e.reads), .sl n2 (rows encE e.writes)]

structure Slot where
  stage : Int
  tries : Int
  fr : List Int
  res : Effect
deriving DecidableEq, Inhabited
def encS (n1 n2 n3 : Option Bool) (s : Slot) : List AV := [.int .i64 s.stage, .int .i64 s.tries, .sl n1 (rows encI s.fr), .bool s.res.done, .sl n2 (rows encE s.res.reads), .sl n3 (rows encE s.res.writes)]
def encS1 (s : Slot) : List AV := encS none none none s

structure Engine where
  base : List Entry
  list : List Action
  versions : List Version
  slots : List Slot
deriving DecidableEq, Inhabited
def encG (n1 n2 n3 n4 : Option Bool) (e : Engine) : List AV := [.sl n1 (rows encE e.base), .sl n2 (rows encA e.list), .sl n3 (rows encR e.versions), .sl n4 (rows encS1 e.slots)]
def encGO (e : Engine) : List AV := [.osl true 2 (rows encE e.base), .osl true 4 (rows encA e.list), .osl true 3 (rows encR e.versions), .osl true 6 (rows encS1 e.slots)]
def encGF (e : Engine) : List AV := [.osl false 2 (rows encE e.base), .osl false 4 (rows encA e.list), .osl false 3 (rows encR e.versions), .osl false 6 (rows encS1 e.slots)]

/-- The sizes of a slot's lists. -/
structure SlotSz (n : Nat) (s : Slot) : Prop where
  fr : s.fr.length < n
  reads : s.res.reads.length < n
  writes : s.res.writes.length < n
structure EngSz (n : Nat) (e : Engine) : Prop where
  base : e.base.length < n
  list : e.list.length < n
  versions : e.versions.length < n
  slots : e.slots.length < n
  each : ∀ s, s ∈ e.slots → SlotSz n s

section
variable {α : Type} (e : α → List AV)
theorem all_rows (p : AV → Bool) (h : ∀ x, (e x).all p = true) (xs : List α) : ((rows e xs).all fun r => r.all p) = true := by
  rw [List.all_eq_true]
  intro r hr
  obtain ⟨x, _, rfl⟩ := List.mem_map.1 hr
  exact h x
theorem sz0_rows (n : Nat) (h : ∀ x, (e x).length = n) (xs : List α) : xs.length = 0 ∨ ((rows e xs).getD 0 []).length = n := by
  cases xs with
  | nil => exact .inl rfl
  | cons x r => exact .inr (h x)
end

theorem c_impl_cloneEntries (n1 : Option Bool) (xs : List Entry) (hx : xs.length < 2 ^ 32) : Det Try.prog 110 [.sl n1 (rows encE xs)] (.osl false 2 (rows encE xs)) := by
  refine fspec_det tab_ok Try.call110 Try.func110 rfl 5 Try.ntmps110 (of_decide_eq_true rfl) fun B => codeK_sound tab_ok _ _ _ ?_
  have h1 := all_rows encE AV.flat (fun _ => rfl) xs
  have h2 := all_rows encE AV.one (fun _ => rfl) xs
  have h3 := sz0_rows encE 2 (fun _ => rfl) xs
  simp (config := { maxSteps := 4000000 }) only [go_sem, simprocAttr, ↓dnA, Try.f110, rows_length]
  repeat refine And.intro (by first | omega | (simp; done) | (simp; omega) | assumption) ?_
  omega

theorem c_impl_Effect_clone (n1 n2 : Option Bool) (e : Effect) (h1 : e.reads.length < 2 ^ 32) (h2 : e.writes.length < 2 ^ 32) : Det Try.prog 149 [.agg (encF n1 n2 e)] (.agg [.bool e.done, .osl false 2 (rows encE e.reads), .osl false 2 (rows encE e.writes)]) := by
  refine fspec_det tab_ok Try.call149 Try.func149 rfl 12 Try.ntmps149 (of_decide_eq_true rfl) fun B => codeK_sound tab_ok _ _ _ ?_
  simp (config := { maxSteps := 4000000 }) only [go_sem, simprocAttr, ↓dnA, Try.f149, rows_length, encF]
  refine semL_draw tab_ok mixed_ rfl (ord := [(0, []), (1, []), (2, []), (3, []), (5, []), (6, []), (4, [0, 1, 5, 6]), (7, [0, 1]), (8, []), (9, [])]) (by dsimp only; decide +kernel) ?_
  simp (config := { maxSteps := 4000000 }) only [go_sem, simprocAttr, ↓dnA, Try.f149, rows_length, encF]
  refine CallTo.det (c_impl_cloneEntries n1 e.reads h1) fun _ => ?_
  simp (config := { maxSteps := 4000000 }) only [go_sem, simprocAttr, ↓dnA, Try.f149, rows_length, encF]
  refine CallTo.det (c_impl_cloneEntries n2 e.writes h2) fun _ => ?_
  simp (config := { maxSteps := 4000000 }) only [go_sem, simprocAttr, ↓dnA, Try.f149, rows_length, encF]

theorem c_impl_Engine_clone (n1 n2 n3 n4 : Option Bool) (e : Engine) (hx : EngSz (2 ^ 32) e) : Det Try.prog 83 [.agg (encG n1 n2 n3 n4 e)] (.agg (encGF e)) := by
  refine fspec_det tab_ok Try.call83 Try.func83 rfl 41 Try.ntmps83 (of_decide_eq_true rfl) fun B => codeK_sound tab_ok _ _ _ ?_
  have a1 := all_rows encA AV.flat (fun _ => rfl) e.list
  have a2 := all_rows encA AV.one (fun _ => rfl) e.list
  have a3 := sz0_rows encA 4 (fun _ => rfl) e.list
  have r1 := all_rows encR AV.flat (fun _ => rfl) e.versions
  have r2 := all_rows encR AV.one (fun _ => rfl) e.versions
  have r3 := sz0_rows encR 3 (fun _ => rfl) e.versions
  have q1 := hx.list
  have q2 := hx.versions
  have q3 := hx.slots
  simp (config := { maxSteps := 4000000 }) only [go_sem, simprocAttr, ↓dnA, Try.f83, rows_length, encG]
  refine semL_draw tab_ok mixed_ rfl (ord := [(0, []), (1, []), (3, []), (4, []), (6, []), (7, []), (2, [3, 4, 6, 7]), (5, [6, 7]), (8, []), (9, []), (10, [0, 1, 3, 4, 6, 7, 9]), (11, [])]) (by dsimp only; decide +kernel) ?_
  simp (config := { maxSteps := 4000000 }) only [go_sem, simprocAttr, ↓dnA, Try.f83, rows_length, encG]
  refine CallTo.det (c_impl_cloneEntries n1 e.base hx.base) fun _ => ?_
  simp (config := { maxSteps := 4000000 }) only [go_sem, simprocAttr, ↓dnA, Try.f83, rows_length, encG]
  repeat refine And.intro (by first | omega | (simp; done) | (simp; omega) | assumption) ?_
  refine semL_nilVA 3 3 600 6 true (by rfl) (by simp) (by rfl) (by rfl) (by decide) (by decide) ?_
  refine semL_for tab_ok (fun i : Nat => ⟨41, [(2, .loc 2 0), (3, .loc 3 0), (17, .sl n4 (rows encS1 e.slots)), (18, .int .i64 e.slots.length), (19, .int .i64 i)],
      [(2, .var [.sl (some false) [], .sl (some false) [], .sl (some false) [], .sl (some false) []]), (3, .var [.row 9000 e.base.length, .row 11 e.list.length, .row 14 e.versions.length, .row 600 i]),
        (14, .row true false 3 (rows encR e.versions)), (11, .row true false 4 (rows encA e.list)), (9000, .row true false 2 (rows encE e.base)), (600, .row true false 6 (rows encS1 (e.slots.take i)))]⟩) (fun i => e.slots.length - i)
    (fun i => i ≤ e.slots.length) 0 [(2, 2), (3, 3), (14, 14), (11, 11), (9000, 9000), (600, 600)] (Weak.of (by rfl) ?_ ?_ (by rfl)) (by omega) ?_
  · simp (config := { maxSteps := 4000000 }) only [go_sem, simprocAttr, ↓dnA, Try.f83, rows_length, frW, wk2, wk1, wkL, wkB, hpW, List.mem_cons, Prod.mk.injEq, exists_eq_left, exists_eq_right, exists_eq]
    try rfl
  · simp (config := { maxSteps := 4000000 }) only [go_sem, simprocAttr, ↓dnA, Try.f83, rows_length, frW, wk2, wk1, wkL, wkB, hpW, List.mem_cons, Prod.mk.injEq, exists_eq_left, exists_eq_right, exists_eq]
  · rintro i hi
    by_cases h : i < e.slots.length
    · have hs := hx.each _ (List.getElem_mem h)
      have hs1 := hs.fr
      have i1 := all_rows encI AV.flat (fun _ => rfl) e.slots[i].fr
      have i2 := all_rows encI AV.one (fun _ => rfl) e.slots[i].fr
      have i3 := sz0_rows encI 1 (fun _ => rfl) e.slots[i].fr
      have htk : (rows encS1 (e.slots.take i)).take i = rows encS1 (e.slots.take i) := by
        rw [List.take_of_length_le]; rw [rows_length, List.length_take]; omega
      have hl : min i e.slots.length = i := by omega
      have hw : IntKind.i64.wrap ((i : Int) + 1) = ((i + 1 : Nat) : Int) := wsucc h (by omega)
      simp (config := { maxSteps := 4000000 }) only [go_sem, simprocAttr, ↓dnA, Try.f83, rows_length, nlt h, rows_get _ _ _ h, encS1, encS, nn0]
      refine semL_draw tab_ok mixed_ rfl (ord := [(0, []), (1, []), (2, []), (3, []), (4, []), (5, []), (6, []), (7, []), (9, []), (10, []), (8, [0, 1, 2, 3, 4, 5, 9, 10]), (11, [0, 1, 2, 3, 4, 5]), (12, []), (13, [0, 1]), (14, []), (15, []), (16, [])]) (by dsimp only; decide +kernel) ?_
      simp (config := { maxSteps := 4000000 }) only [go_sem, simprocAttr, ↓dnA, Try.f83, rows_length, List.length_take, hl, htk]
      repeat refine And.intro (by first | omega | (simp; done) | (simp; omega) | assumption) ?_
      refine CallTo.det (c_impl_Effect_clone none none e.slots[i].res hs.reads hs.writes) fun _ => ?_
      simp (config := { maxSteps := 4000000 }) only [go_sem, simprocAttr, ↓dnA, Try.f83, rows_length, List.length_take, hl, htk, hw]
      repeat refine And.intro (by first | omega | (simp; done) | (simp; omega) | assumption) ?_
      refine ⟨i + 1, [(2, 2), (3, 3), (14, 14), (11, 11), (9000, 9000), (37, 600)], by omega, by dsimp only; omega, Weak.of (by rfl) ?_ ?_ (by rfl)⟩
      · simp (config := { maxSteps := 4000000 }) only [go_sem, simprocAttr, ↓dnA, Try.f83, rows_length, frW, wk2, wk1, wkL, wkB, hpW, List.mem_cons, Prod.mk.injEq, exists_eq_left, exists_eq_right, exists_eq]
        rw [take_snoc _ _ h, ← rows_snoc]
        rfl
      · simp (config := { maxSteps := 4000000 }) only [go_sem, simprocAttr, ↓dnA, Try.f83, rows_length, frW, wk2, wk1, wkL, wkB, hpW, List.mem_cons, Prod.mk.injEq, exists_eq_left, exists_eq_right, exists_eq]
    · have hi' : i = e.slots.length := by omega
      subst hi'
      simp (config := { maxSteps := 4000000 }) only [go_sem, simprocAttr, ↓dnA, Try.f83, rows_length, nlf h, encGF, List.take_length]

def slot0 : Slot := ⟨0, 0, [], ⟨false, [], []⟩⟩
/-- The engine in which nothing has been tried. -/
def engineOf (s : List Entry) (l : List Action) : Engine := if storeValid s && actionsValid l then ⟨s, l, [], List.replicate l.length slot0⟩ else ⟨[], [], [], []⟩

theorem slot0_rows (n : Nat) : List.replicate n (encS1 slot0) = rows encS1 (List.replicate n slot0) := rows_replicate _ _ _

theorem c_impl_EngineOf (n1 n2 : Option Bool) (s : List Entry) (l : List Action) (hs : s.length < 2 ^ 32) (hl : l.length < 2 ^ 32) : Det Try.prog 24 [.sl n1 (rows encE s), .sl n2 (rows encA l)] (.agg (encGF (engineOf s l))) := by
  refine fspec_det tab_ok Try.call24 Try.func24 rfl 21 Try.ntmps24 (of_decide_eq_true rfl) fun B => codeK_sound tab_ok _ _ _ ?_
  unfold engineOf
  simp (config := { maxSteps := 4000000 }) only [go_sem, simprocAttr, ↓dnA, Try.f24, rows_length]
  refine CallTo.det (c_impl_StoreValid n1 s (by omega)) fun _ => ?_
  cases h1 : storeValid s with
  | false => simp (config := { maxSteps := 4000000 }) only [go_sem, simprocAttr, ↓dnA, Try.f24, rows_length, h1, encGF, rows_nil]
  | true =>
    simp (config := { maxSteps := 4000000 }) only [go_sem, simprocAttr, ↓dnA, Try.f24, rows_length, h1]
    refine CallTo.det (c_impl_ActionsValid n2 l (by omega)) fun _ => ?_
    cases h2 : actionsValid l with
    | false => simp (config := { maxSteps := 4000000 }) only [go_sem, simprocAttr, ↓dnA, Try.f24, rows_length, h1, h2, encGF, rows_nil]
    | true =>
      have h10 : l.length ≤ 10 := by
        unfold actionsValid at h2
        rw [Bool.and_eq_true] at h2
        exact of_decide_eq_true h2.1
      have hb : (0 ≤ (l.length : Int) ∧ (l.length : Int) ≤ 9223372036854775807) := by omega
      have hz : List.replicate l.length ([.int .i64 0, .int .i64 0, .sl none [], .bool false, .sl none [], .sl none []] : List AV) = rows encS1 (List.replicate l.length slot0) := slot0_rows _
      simp (config := { maxSteps := 4000000 }) only [go_sem, simprocAttr, ↓dnA, Try.f24, rows_length, h1, h2, hz]
      repeat refine And.intro (by first | omega | (simp; done) | (simp; omega) | assumption) ?_
      have hsz : EngSz (2 ^ 32) ⟨s, l, [], List.replicate l.length slot0⟩ := ⟨hs, hl, by simp, by simp; omega, fun x hx => by rw [List.eq_of_mem_replicate hx]; exact ⟨by decide, by decide, by decide⟩⟩
      refine CallTo.det (c_impl_Engine_clone n1 n2 (some false) (some true) ⟨s, l, [], List.replicate l.length slot0⟩ hsz) fun _ => ?_
      simp (config := { maxSteps := 4000000 }) only [go_sem, simprocAttr, ↓dnA, Try.f24, rows_length, encGF, h1, h2]

theorem c_spec_EngineOf (n1 n2 : Option Bool) (s : List Entry) (l : List Action) (hs : s.length < 2 ^ 32) (hl : l.length < 2 ^ 32) : Det Try.prog 21 [.sl n1 (rows encE s), .sl n2 (rows encA l)] (.agg (encGF (engineOf s l))) := by
  refine fspec_det tab_ok Try.call21 Try.func21 rfl 24 Try.ntmps21 (of_decide_eq_true rfl) fun B => codeK_sound tab_ok _ _ _ ?_
  unfold engineOf
  simp (config := { maxSteps := 4000000 }) only [go_sem, simprocAttr, ↓dnA, Try.f21, rows_length]
  refine CallTo.det (c_spec_StoreValid n1 s (by omega)) fun _ => ?_
  cases h1 : storeValid s with
  | false => simp (config := { maxSteps := 4000000 }) only [go_sem, simprocAttr, ↓dnA, Try.f21, rows_length, h1, encGF, rows_nil]
  | true =>
    simp (config := { maxSteps := 4000000 }) only [go_sem, simprocAttr, ↓dnA, Try.f21, rows_length, h1]
    refine CallTo.det (c_spec_ActionsValid n2 l (by omega)) fun _ => ?_
    cases h2 : actionsValid l with
    | false => simp (config := { maxSteps := 4000000 }) only [go_sem, simprocAttr, ↓dnA, Try.f21, rows_length, h1, h2, encGF, rows_nil]
    | true =>
      have h10 : l.length ≤ 10 := by
        unfold actionsValid at h2
        rw [Bool.and_eq_true] at h2
        exact of_decide_eq_true h2.1
      have hz : List.replicate l.length ([.int .i64 0, .int .i64 0, .sl none [], .bool false, .sl none [], .sl none []] : List AV) = rows encS1 (List.replicate l.length slot0) := slot0_rows _
      have e1 := all_rows encE AV.flat (fun _ => rfl) s
      have e2 := all_rows encE AV.one (fun _ => rfl) s
      have e3 := sz0_rows encE 2 (fun _ => rfl) s
      have a1 := all_rows encA AV.flat (fun _ => rfl) l
      have a2 := all_rows encA AV.one (fun _ => rfl) l
      have a3 := sz0_rows encA 4 (fun _ => rfl) l
      simp (config := { maxSteps := 4000000 }) only [go_sem, simprocAttr, ↓dnA, Try.f21, rows_length, h1, h2]
      refine semL_draw tab_ok mixed_ rfl (ord := [(1, []), (4, []), (6, []), (7, [8]), (0, [1, 4, 6, 7, 8]), (2, [4, 6, 7, 8]), (3, [1, 4, 6, 7, 8]), (5, [6, 7, 8]), (8, [1, 4]), (9, []), (10, [])]) (by dsimp only; decide +kernel) ?_
      simp (config := { maxSteps := 4000000 }) only [go_sem, simprocAttr, ↓dnA, Try.f21, rows_length, h1, h2, hz, encGF, rows_nil]
      repeat refine And.intro (by first | omega | (simp; done) | (simp; omega) | assumption) ?_
      simp


end Go.Proofs.Ytdaemhaecjldaaa

/- Contracts: the laws' tests of engines. -/
set_option linter.unusedSimpArgs false
set_option linter.unusedVariables false
set_option maxRecDepth 20000
set_option maxHeartbeats 4000000
namespace Go.Proofs.Ytdaemhaecjldaaa
open Go Go.RowKit

theorem verB (a b : Version) : ((a.key == b.key) && ((a.by_ == b.by_) && (a.value == b.value))) = decide (a = b) := by
  obtain ⟨a1, a2, a3⟩ := a
  obtain ⟨b1, b2, b3⟩ := b
  rw [Bool.eq_iff_iff]
  simp only [Bool.and_eq_true, beq_iff_eq, decide_eq_true_eq, Version.mk.injEq]

theorem c_laws_eqVersion (a b : Version) : Det Try.prog 150 [.agg (encR a), .agg (encR b)] (.bool (decide (a = b))) := by
  refine fspec_det tab_ok Try.call150 Try.func150 rfl 20 Try.ntmps150 (of_decide_eq_true rfl) fun B => codeK_sound tab_ok _ _ _ ?_
  unfold encR
  rw [← verB]
  cases h1 : (a.key == b.key) with
  | false => simp (config := { maxSteps := 4000000 }) only [go_sem, simprocAttr, ↓dnA, Try.f150, bne, h1]
  | true =>
    cases h2 : (a.by_ == b.by_) with
    | false => simp (config := { maxSteps := 4000000 }) only [go_sem, simprocAttr, ↓dnA, Try.f150, bne, h1, h2]
    | true =>
      cases h3 : (a.value == b.value) with
      | false => simp (config := { maxSteps := 4000000 }) only [go_sem, simprocAttr, ↓dnA, Try.f150, bne, h1, h2, h3]
      | true => simp (config := { maxSteps := 4000000 }) only [go_sem, simprocAttr, ↓dnA, Try.f150, bne, h1, h2, h3]

theorem c_laws_eqVersionS (n1 n2 : Option Bool) (xs ys : List Version) (hx : xs.length < 2 ^ 62) (hy : ys.length < 2 ^ 62)  :
    Det Try.prog 84 [.sl n1 (rows encR xs), .sl n2 (rows encR ys)] (.bool (decide (xs = ys))) := by
  refine fspec_det tab_ok Try.call84 Try.func84 rfl 27 Try.ntmps84 (of_decide_eq_true rfl) fun B => codeK_sound tab_ok _ _ _ ?_
  by_cases hl : xs.length = ys.length
  · have hd : (((xs.length : Int) != (ys.length : Int))) = false := by simp [hl]
    simp (config := { maxSteps := 4000000 }) only [go_sem, simprocAttr, ↓dnA, Try.f84, rows_length, hd]
    refine semL_for tab_ok (fun i : Nat => ⟨27, [(0, .sl n1 (rows encR xs)), (1, .sl n2 (rows encR ys)), (5, .int .i64 i)], []⟩) (fun i => xs.length - i)
      (fun i => i ≤ xs.length ∧ decide (xs.drop i = ys.drop i) = decide (xs = ys)) 0 [] (Weak.of (by rfl) trivial ?_ (by rfl)) ⟨by omega, rfl⟩ ?_
    · simp (config := { maxSteps := 4000000 }) only [go_sem, simprocAttr, ↓dnA, Try.f84, rows_length, frW, wk2, wk1, wkL, wkB, hpW, List.mem_cons, Prod.mk.injEq, exists_eq_left, exists_eq_right, exists_eq]
    · rintro i ⟨hi, hp⟩
      by_cases h : i < xs.length
      · have h2 : i < ys.length := by omega
        rw [eq_drop xs ys i hl h] at hp
        simp (config := { maxSteps := 4000000 }) only [go_sem, simprocAttr, ↓dnA, Try.f84, rows_length, nlt h]
        refine semL_draw tab_ok mixed_ rfl (ord := [(0, []), (1, []), (2, []), (3, []), (4, []), (5, []), (6, []), (7, []), (8, []), (9, [])]) (by dsimp only; decide +kernel) ?_
        simp (config := { maxSteps := 4000000 }) only [go_sem, simprocAttr, ↓dnA, Try.f84, rows_length, rows_get _ _ _ h, rows_get _ _ _ h2, encR, encBk, nn0, nlt h, nlt h2]
        refine CallTo.det (c_laws_eqVersion xs[i] ys[i]) fun _ => ?_
        cases he : decide (xs[i] = ys[i]) with
        | false =>
          have he' : decide (xs[i] = ys[i]) = false := he
          rw [he', Bool.false_and] at hp
          simp (config := { maxSteps := 4000000 }) only [go_sem, simprocAttr, ↓dnA, Try.f84, rows_length, rows_get _ _ _ h, rows_get _ _ _ h2, encR, encBk, nn0, nlt h, nlt h2, he, ← hp]
        | true =>
          have he' : decide (xs[i] = ys[i]) = true := he
          rw [he', Bool.true_and] at hp
          simp (config := { maxSteps := 4000000 }) only [go_sem, simprocAttr, ↓dnA, Try.f84, rows_length, rows_get _ _ _ h, rows_get _ _ _ h2, encR, encBk, nn0, nlt h, nlt h2, he]
          refine ⟨i + 1, [], ⟨by omega, hp⟩, by dsimp only; omega, Weak.of (by rfl) trivial ?_ (by rfl)⟩
          simp (config := { maxSteps := 4000000 }) only [go_sem, simprocAttr, ↓dnA, Try.f84, wsucc h hx, frW, wk2, wk1, wkL, wkB, hpW, List.mem_cons, Prod.mk.injEq, exists_eq_left, exists_eq_right, exists_eq]
      · have : i = xs.length := by omega
        subst this
        rw [List.drop_length, List.drop_of_length_le (by omega)] at hp
        simp (config := { maxSteps := 4000000 }) only [go_sem, simprocAttr, ↓dnA, Try.f84, rows_length, nlf h, ← hp]
  · have hd : (((xs.length : Int) != (ys.length : Int))) = true := by simp; omega
    have hne : xs ≠ ys := fun e => hl (by rw [e])
    simp (config := { maxSteps := 4000000 }) only [go_sem, simprocAttr, ↓dnA, Try.f84, rows_length, hd, decide_eq_false hne]


theorem effB (a b : Effect) : ((a.done == b.done) && (decide (a.reads = b.reads) && decide (a.writes = b.writes))) = decide (a = b) := by
  obtain ⟨a1, a2, a3⟩ := a
  obtain ⟨b1, b2, b3⟩ := b
  rw [Bool.eq_iff_iff]
  simp only [Bool.and_eq_true, beq_iff_eq, decide_eq_true_eq, Effect.mk.injEq]

theorem c_laws_eqEffect (n1 n2 m1 m2 : Option Bool) (a b : Effect) (h1 : a.reads.length < 2 ^ 62) (h2 : a.writes.length < 2 ^ 62) (h3 : b.reads.length < 2 ^ 62) (h4 : b.writes.length < 2 ^ 62) :
    Det Try.prog 183 [.agg (encF n1 n2 a), .agg (encF m1 m2 b)] (.bool (decide (a = b))) := by
  refine fspec_det tab_ok Try.call183 Try.func183 rfl 22 Try.ntmps183 (of_decide_eq_true rfl) fun B => codeK_sound tab_ok _ _ _ ?_
  unfold encF
  rw [← effB]
  cases g1 : (a.done == b.done) with
  | false => simp (config := { maxSteps := 4000000 }) only [go_sem, simprocAttr, ↓dnA, Try.f183, bne, g1]
  | true =>
    simp (config := { maxSteps := 4000000 }) only [go_sem, simprocAttr, ↓dnA, Try.f183, bne, g1]
    refine CallTo.det (c_laws_eqEntryS _ _ a.reads b.reads h1 h3) fun _ => ?_
    cases g2 : decide (a.reads = b.reads) with
    | false => simp (config := { maxSteps := 4000000 }) only [go_sem, simprocAttr, ↓dnA, Try.f183, bne, g1, g2]
    | true =>
      simp (config := { maxSteps := 4000000 }) only [go_sem, simprocAttr, ↓dnA, Try.f183, bne, g1, g2]
      refine CallTo.det (c_laws_eqEntryS _ _ a.writes b.writes h2 h4) fun _ => ?_
      cases g3 : decide (a.writes = b.writes) with
      | false => simp (config := { maxSteps := 4000000 }) only [go_sem, simprocAttr, ↓dnA, Try.f183, bne, g1, g2, g3]
      | true => simp (config := { maxSteps := 4000000 }) only [go_sem, simprocAttr, ↓dnA, Try.f183, bne, g1, g2, g3]

theorem sltB (a b : Slot) : ((a.stage == b.stage) && ((a.tries == b.tries) && (decide (a.fr = b.fr) && decide (a.res = b.res)))) = decide (a = b) := by
  obtain ⟨a1, a2, a3, a4⟩ := a
  obtain ⟨b1, b2, b3, b4⟩ := b
  rw [Bool.eq_iff_iff]
  simp only [Bool.and_eq_true, beq_iff_eq, decide_eq_true_eq, Slot.mk.injEq]

theorem c_laws_eqSlot (n1 n2 n3 m1 m2 m3 : Option Bool) (a b : Slot) (ha : SlotSz (2 ^ 62) a) (hb : SlotSz (2 ^ 62) b) :
    Det Try.prog 151 [.agg (encS n1 n2 n3 a), .agg (encS m1 m2 m3 b)] (.bool (decide (a = b))) := by
  refine fspec_det tab_ok Try.call151 Try.func151 rfl 27 Try.ntmps151 (of_decide_eq_true rfl) fun B => codeK_sound tab_ok _ _ _ ?_
  unfold encS
  rw [← sltB]
  cases g1 : (a.stage == b.stage) with
  | false => simp (config := { maxSteps := 4000000 }) only [go_sem, simprocAttr, ↓dnA, Try.f151, bne, g1]
  | true =>
    cases g2 : (a.tries == b.tries) with
    | false => simp (config := { maxSteps := 4000000 }) only [go_sem, simprocAttr, ↓dnA, Try.f151, bne, g1, g2]
    | true =>
      simp (config := { maxSteps := 4000000 }) only [go_sem, simprocAttr, ↓dnA, Try.f151, bne, g1, g2]
      refine CallTo.det (c_laws_eqIntS _ _ a.fr b.fr ha.fr hb.fr) fun _ => ?_
      cases g3 : decide (a.fr = b.fr) with
      | false => simp (config := { maxSteps := 4000000 }) only [go_sem, simprocAttr, ↓dnA, Try.f151, bne, g1, g2, g3]
      | true =>
        simp (config := { maxSteps := 4000000 }) only [go_sem, simprocAttr, ↓dnA, Try.f151, bne, g1, g2, g3]
        refine CallTo.det (c_laws_eqEffect n2 n3 m2 m3 a.res b.res ha.reads ha.writes hb.reads hb.writes) fun _ => ?_
        cases g4 : decide (a.res = b.res) with
        | false => simp (config := { maxSteps := 4000000 }) only [go_sem, simprocAttr, ↓dnA, Try.f151, bne, g1, g2, g3, g4]
        | true => simp (config := { maxSteps := 4000000 }) only [go_sem, simprocAttr, ↓dnA, Try.f151, bne, g1, g2, g3, g4]

theorem c_laws_eqSlotS (n1 n2 : Option Bool) (xs ys : List Slot) (hx : xs.length < 2 ^ 62) (hy : ys.length < 2 ^ 62) (hlx : ∀ b, b ∈ xs → SlotSz (2 ^ 62) b) (hly : ∀ b, b ∈ ys → SlotSz (2 ^ 62) b) :
    Det Try.prog 85 [.sl n1 (rows encS1 xs), .sl n2 (rows encS1 ys)] (.bool (decide (xs = ys))) := by
  refine fspec_det tab_ok Try.call85 Try.func85 rfl 27 Try.ntmps85 (of_decide_eq_true rfl) fun B => codeK_sound tab_ok _ _ _ ?_
  by_cases hl : xs.length = ys.length
  · have hd : (((xs.length : Int) != (ys.length : Int))) = false := by simp [hl]
    simp (config := { maxSteps := 4000000 }) only [go_sem, simprocAttr, ↓dnA, Try.f85, encS, rows_length, hd]
    refine semL_for tab_ok (fun i : Nat => ⟨27, [(0, .sl n1 (rows encS1 xs)), (1, .sl n2 (rows encS1 ys)), (5, .int .i64 i)], []⟩) (fun i => xs.length - i)
      (fun i => i ≤ xs.length ∧ decide (xs.drop i = ys.drop i) = decide (xs = ys)) 0 [] (Weak.of (by rfl) trivial ?_ (by rfl)) ⟨by omega, rfl⟩ ?_
    · simp (config := { maxSteps := 4000000 }) only [go_sem, simprocAttr, ↓dnA, Try.f85, encS, rows_length, frW, wk2, wk1, wkL, wkB, hpW, List.mem_cons, Prod.mk.injEq, exists_eq_left, exists_eq_right, exists_eq]
    · rintro i ⟨hi, hp⟩
      by_cases h : i < xs.length
      · have h2 : i < ys.length := by omega
        rw [eq_drop xs ys i hl h] at hp
        simp (config := { maxSteps := 4000000 }) only [go_sem, simprocAttr, ↓dnA, Try.f85, encS, rows_length, nlt h]
        refine semL_draw tab_ok mixed_ rfl (ord := [(0, []), (1, []), (2, []), (3, []), (4, []), (5, []), (6, []), (7, []), (8, []), (9, [])]) (by dsimp only; decide +kernel) ?_
        simp (config := { maxSteps := 4000000 }) only [go_sem, simprocAttr, ↓dnA, Try.f85, encS, rows_length, rows_get _ _ _ h, rows_get _ _ _ h2, encS1, encBk, nn0, nlt h, nlt h2]
        refine CallTo.det (c_laws_eqSlot none none none none none none xs[i] ys[i] (hlx _ (List.getElem_mem h)) (hly _ (List.getElem_mem h2))) fun _ => ?_
        cases he : decide (xs[i] = ys[i]) with
        | false =>
          have he' : decide (xs[i] = ys[i]) = false := he
          rw [he', Bool.false_and] at hp
          simp (config := { maxSteps := 4000000 }) only [go_sem, simprocAttr, ↓dnA, Try.f85, encS, rows_length, rows_get _ _ _ h, rows_get _ _ _ h2, encS1, encBk, nn0, nlt h, nlt h2, he, ← hp]
        | true =>
          have he' : decide (xs[i] = ys[i]) = true := he
          rw [he', Bool.true_and] at hp
          simp (config := { maxSteps := 4000000 }) only [go_sem, simprocAttr, ↓dnA, Try.f85, encS, rows_length, rows_get _ _ _ h, rows_get _ _ _ h2, encS1, encBk, nn0, nlt h, nlt h2, he]
          refine ⟨i + 1, [], ⟨by omega, hp⟩, by dsimp only; omega, Weak.of (by rfl) trivial ?_ (by rfl)⟩
          simp (config := { maxSteps := 4000000 }) only [go_sem, simprocAttr, ↓dnA, Try.f85, encS, wsucc h hx, frW, wk2, wk1, wkL, wkB, hpW, List.mem_cons, Prod.mk.injEq, exists_eq_left, exists_eq_right, exists_eq]
      · have : i = xs.length := by omega
        subst this
        rw [List.drop_length, List.drop_of_length_le (by omega)] at hp
        simp (config := { maxSteps := 4000000 }) only [go_sem, simprocAttr, ↓dnA, Try.f85, encS, rows_length, nlf h, ← hp]
  · have hd : (((xs.length : Int) != (ys.length : Int))) = true := by simp; omega
    have hne : xs ≠ ys := fun e => hl (by rw [e])
    simp (config := { maxSteps := 4000000 }) only [go_sem, simprocAttr, ↓dnA, Try.f85, encS, rows_length, hd, decide_eq_false hne]


theorem c_laws_eqEngine (n1 n2 n3 n4 m1 m2 m3 m4 : Option Bool) (t u : Engine) (hx : EngSz (2 ^ 62) t) (hy : EngSz (2 ^ 62) u) : Det Try.prog 25 [.agg (encG n1 n2 n3 n4 t), .agg (encG m1 m2 m3 m4 u)] (.bool (decide (t = u))) := by
  refine fspec_det tab_ok Try.call25 Try.func25 rfl 29 Try.ntmps25 (of_decide_eq_true rfl) fun B => codeK_sound tab_ok _ _ _ ?_
  unfold encG
  have he : decide (t = u) = (decide (t.base = u.base) && (decide (t.list = u.list) && (decide (t.versions = u.versions) && decide (t.slots = u.slots)))) := by
    obtain ⟨a, b, c, d⟩ := t
    obtain ⟨e, f, g, h⟩ := u
    rw [Bool.eq_iff_iff]
    simp only [Bool.and_eq_true, decide_eq_true_eq, Engine.mk.injEq]
  rw [he]
  simp (config := { maxSteps := 4000000 }) only [go_sem, simprocAttr, ↓dnA, Try.f25]
  refine CallTo.det (c_laws_eqEntryS _ _ _ _ hx.base hy.base) fun _ => ?_
  cases h1 : decide (t.base = u.base) with
  | false => simp (config := { maxSteps := 4000000 }) only [go_sem, simprocAttr, ↓dnA, Try.f25, h1]
  | true =>
    simp (config := { maxSteps := 4000000 }) only [go_sem, simprocAttr, ↓dnA, Try.f25, h1]
    refine CallTo.det (c_laws_eqActionS _ _ _ _ hx.list hy.list) fun _ => ?_
    cases h2 : decide (t.list = u.list) with
    | false => simp (config := { maxSteps := 4000000 }) only [go_sem, simprocAttr, ↓dnA, Try.f25, h1, h2]
    | true =>
      simp (config := { maxSteps := 4000000 }) only [go_sem, simprocAttr, ↓dnA, Try.f25, h1, h2]
      refine CallTo.det (c_laws_eqVersionS _ _ _ _ hx.versions hy.versions) fun _ => ?_
      cases h3 : decide (t.versions = u.versions) with
      | false => simp (config := { maxSteps := 4000000 }) only [go_sem, simprocAttr, ↓dnA, Try.f25, h1, h2, h3]
      | true =>
        simp (config := { maxSteps := 4000000 }) only [go_sem, simprocAttr, ↓dnA, Try.f25, h1, h2, h3]
        refine CallTo.det (c_laws_eqSlotS _ _ _ _ hx.slots hy.slots hx.each hy.each) fun _ => ?_
        cases h4 : decide (t.slots = u.slots) with
        | false => simp (config := { maxSteps := 4000000 }) only [go_sem, simprocAttr, ↓dnA, Try.f25, h1, h2, h3, h4]
        | true => simp (config := { maxSteps := 4000000 }) only [go_sem, simprocAttr, ↓dnA, Try.f25, h1, h2, h3, h4]

end Go.Proofs.Ytdaemhaecjldaaa

/- Contracts: the laws' marks of engines. -/
set_option linter.unusedSimpArgs false
set_option linter.unusedVariables false
set_option maxRecDepth 20000
set_option maxHeartbeats 4000000
namespace Go.Proofs.Ytdaemhaecjldaaa
open Go Go.RowKit

def mkR (_ : Version) (k : Int) : Version := ⟨k, k + 1, k + 1 + 1⟩
def stR (_ : Version) : Nat := 3

theorem c_laws_markVersionS (nn : Bool) (sz : Nat) (xs : List Version) (k : Int) (hs : xs = [] ∨ sz = 3) (hx : xs.length < 2 ^ 62) (hk : 0 ≤ k ∧ k + stepS stR xs < 2 ^ 62) :
    FSpecM Try.prog 88 [.row 800 xs.length, .int .i64 k] [.osl nn sz (rows encR xs)] (fun r ls' => r = .int .i64 (k + stepS stR xs) ∧ ls' = [.osl nn sz (rows encR (markS mkR stR xs k))]) := by
  refine fspec_introM tab_ok Try.call88 Try.func88 rfl 34 Try.ntmps88 (of_decide_eq_true rfl) (of_decide_eq_true rfl) fun B => codeK_sound tab_ok _ _ _ ?_
  rcases hs with rfl | rfl
  · simp (config := { maxSteps := 4000000 }) only [go_sem, simprocAttr, ↓dnA, Try.f88]
    refine semL_for tab_ok (fun i : Nat => ⟨34, [(0, .row 800 0), (1, .int .i64 k), (5, .int .i64 0)], [(800, .row true nn sz (rows encR ([] : List Version)))]⟩) (fun i => i) (fun _ => True) 0 [(800, 800)] (Weak.of (by rfl) ?_ ?_ (by rfl)) trivial ?_
    · simp (config := { maxSteps := 4000000 }) only [go_sem, simprocAttr, ↓dnA, Try.f88, frW, wk2, wk1, wkL, wkB, hpW, List.mem_cons, Prod.mk.injEq, exists_eq_left, exists_eq_right, exists_eq]
    · simp (config := { maxSteps := 4000000 }) only [go_sem, simprocAttr, ↓dnA, Try.f88, List.length_nil, nc0, frW, wk2, wk1, wkL, wkB, hpW, List.mem_cons, Prod.mk.injEq, exists_eq_left, exists_eq_right, exists_eq]
    · rintro i -
      simp (config := { maxSteps := 4000000 }) only [go_sem, simprocAttr, ↓dnA, Try.f88, List.length_nil, nc0, rows_length]
      simp [stepS, markS, rows]
  · simp (config := { maxSteps := 4000000 }) only [go_sem, simprocAttr, ↓dnA, Try.f88, rows_length]
    refine semL_for tab_ok (fun i : Nat => ⟨34, [(0, .row 800 xs.length), (1, .int .i64 (k + (stepS stR (xs.take i) : Int))), (5, .int .i64 i)], [(800, .row true nn 3 (rows encR (midS mkR stR xs k i)))]⟩) (fun i => xs.length - i)
      (fun i => i ≤ xs.length) 0 [(800, 800)] (Weak.of (by rfl) ?_ ?_ (by rfl)) (by omega) ?_
    · simp (config := { maxSteps := 4000000 }) only [go_sem, simprocAttr, ↓dnA, Try.f88, midS_zero, frW, wk2, wk1, wkL, wkB, hpW, List.mem_cons, Prod.mk.injEq, exists_eq_left, exists_eq_right, exists_eq]
    · simp (config := { maxSteps := 4000000 }) only [go_sem, simprocAttr, ↓dnA, Try.f88, List.take_zero, stepS, Int.add_zero, nc0, frW, wk2, wk1, wkL, wkB, hpW, List.mem_cons, Prod.mk.injEq, exists_eq_left, exists_eq_right, exists_eq]
    · rintro i hi
      by_cases h : i < xs.length
      · have hb := stepS_lt stR xs i h
        have hm : i < (rows encR (midS mkR stR xs k i)).length := by rw [rows_length, midS_length _ _ _ _ _ hi]; exact h
        have hst : stR xs[i] = 3 := rfl
        have hw1 : IntKind.i64.wrap ((k + (stepS stR (xs.take i) : Int)) + 1) = (k + (stepS stR (xs.take i) : Int)) + 1 := wrap_small _ (by omega) (by omega)
        have hw2 : IntKind.i64.wrap ((k + (stepS stR (xs.take i) : Int)) + 1 + 1) = (k + (stepS stR (xs.take i) : Int)) + 1 + 1 := wrap_small _ (by omega) (by omega)
        have hw3 : IntKind.i64.wrap ((k + (stepS stR (xs.take i) : Int)) + 1 + 1 + 1) = (k + (stepS stR (xs.take i) : Int)) + 1 + 1 + 1 := wrap_small _ (by omega) (by omega)
        have hK : k + (stepS stR (xs.take (i + 1)) : Int) = (k + (stepS stR (xs.take i) : Int)) + 1 + 1 + 1 := by rw [stepS_take_succ _ _ _ h, hst]; omega
        simp (config := { maxSteps := 4000000 }) only [go_sem, simprocAttr, ↓dnA, Try.f88, rows_length, midS_length _ _ _ _ _ hi, List.length_set, nlt h, h, nn0, midS_get _ _ _ _ _ _ h, encR, set_same _ _ _ hm, List.set_set, spliceL, hw1, hw2, hw3, wsucc h hx]
        refine ⟨i + 1, [(800, 800)], by omega, by dsimp only; omega, Weak.of (by rfl) ?_ ?_ (by rfl)⟩
        · simp (config := { maxSteps := 4000000 }) only [go_sem, simprocAttr, ↓dnA, Try.f88, frW, wk2, wk1, wkL, wkB, hpW, List.mem_cons, Prod.mk.injEq, exists_eq_left, exists_eq_right, exists_eq]
          exact (midS_set encR mkR stR xs k i h).symm
        · simp (config := { maxSteps := 4000000 }) only [go_sem, simprocAttr, ↓dnA, Try.f88, hK, wsucc h hx, frW, wk2, wk1, wkL, wkB, hpW, List.mem_cons, Prod.mk.injEq, exists_eq_left, exists_eq_right, exists_eq]
      · have hi' : i = xs.length := by omega
        subst hi'
        simp (config := { maxSteps := 4000000 }) only [go_sem, simprocAttr, ↓dnA, Try.f88, nlf h, rows_length, midS_len, List.take_length, markS_length]

theorem c_laws_heldVersionS (n1 : Option Bool) (xs : List Version) (k : Int) (hx : xs.length < 2 ^ 62) (hk : 0 ≤ k ∧ k + stepS stR xs < 2 ^ 62) :
    Det Try.prog 92 [.sl n1 (rows encR (markS mkR stR xs k)), .int .i64 k] (.int .i64 (k + stepS stR xs)) := by
  refine fspec_det tab_ok Try.call92 Try.func92 rfl 40 Try.ntmps92 (of_decide_eq_true rfl) fun B => codeK_sound tab_ok _ _ _ ?_
  simp (config := { maxSteps := 4000000 }) only [go_sem, simprocAttr, ↓dnA, Try.f92]
  refine semL_for tab_ok (fun i : Nat => ⟨40, [(0, .sl n1 (rows encR (markS mkR stR xs k))), (1, .int .i64 (k + (stepS stR (xs.take i) : Int))), (5, .int .i64 i)], []⟩) (fun i => xs.length - i)
    (fun i => i ≤ xs.length) 0 [] (Weak.of rfl trivial ?_ rfl) (by omega) ?_
  · simp (config := { maxSteps := 4000000 }) only [go_sem, simprocAttr, ↓dnA, Try.f92, List.take_zero, stepS, Int.add_zero, nc0, frW, wk2, wk1, wkL, wkB, hpW, List.mem_cons, Prod.mk.injEq, exists_eq_left, exists_eq_right, exists_eq]
  · rintro i hi
    by_cases h : i < xs.length
    · have hb := stepS_lt stR xs i h
      have hst : stR xs[i] = 3 := rfl
      have hw1 : IntKind.i64.wrap ((k + (stepS stR (xs.take i) : Int)) + 1) = (k + (stepS stR (xs.take i) : Int)) + 1 := wrap_small _ (by omega) (by omega)
      have hw2 : IntKind.i64.wrap ((k + (stepS stR (xs.take i) : Int)) + 1 + 1) = (k + (stepS stR (xs.take i) : Int)) + 1 + 1 := wrap_small _ (by omega) (by omega)
      have hw3 : IntKind.i64.wrap ((k + (stepS stR (xs.take i) : Int)) + 1 + 1 + 1) = (k + (stepS stR (xs.take i) : Int)) + 1 + 1 + 1 := wrap_small _ (by omega) (by omega)
      have hK : k + (stepS stR (xs.take (i + 1)) : Int) = (k + (stepS stR (xs.take i) : Int)) + 1 + 1 + 1 := by rw [stepS_take_succ _ _ _ h, hst]; omega
      simp (config := { maxSteps := 4000000 }) only [go_sem, simprocAttr, ↓dnA, Try.f92, rows_length, markS_length, nlt h, h, nn0, markS_rget _ _ _ _ _ _ h, encR, mkR, hw1, hw2, hw3, wsucc h hx]
      refine ⟨i + 1, [], by omega, by dsimp only; omega, Weak.of rfl trivial ?_ rfl⟩
      simp (config := { maxSteps := 4000000 }) only [go_sem, simprocAttr, ↓dnA, Try.f92, hK, wsucc h hx, frW, wk2, wk1, wkL, wkB, hpW, List.mem_cons, Prod.mk.injEq, exists_eq_left, exists_eq_right, exists_eq]
    · have hi' : i = xs.length := by omega
      subst hi'
      simp (config := { maxSteps := 4000000 }) only [go_sem, simprocAttr, ↓dnA, Try.f92, nlf h, rows_length, List.take_length, markS_length]



/-- A slot's marks. -/
def mkS (s : Slot) (k : Int) : Slot :=
  ⟨k, k + 1, markS mkI stI s.fr (k + 1 + 1), ⟨(k + 1 + 1 + (stepS stI s.fr : Int)).tmod 3 == 0, markS mkE stE s.res.reads (k + 1 + 1 + (stepS stI s.fr : Int) + 1),
    markS mkE stE s.res.writes (k + 1 + 1 + (stepS stI s.fr : Int) + 1 + (stepS stE s.res.reads : Int))⟩⟩
def stS (s : Slot) : Nat := 3 + stepS stI s.fr + stepS stE s.res.reads + stepS stE s.res.writes

theorem c_laws_markSlotS (nn : Bool) (xs : List Slot) (k : Int) (hx : xs.length < 2 ^ 62) (hk : 0 ≤ k ∧ k + stepS stS xs < 2 ^ 62) :
    FSpecM Try.prog 89 [.row 800 xs.length, .int .i64 k] [.osl nn 6 (rows encS1 xs)] (fun r ls' => r = .int .i64 (k + stepS stS xs) ∧ ls' = [.osl nn 6 (rows encS1 (markS mkS stS xs k))]) := by
  refine fspec_introM tab_ok Try.call89 Try.func89 rfl 60 Try.ntmps89 (of_decide_eq_true rfl) (of_decide_eq_true rfl) fun B => codeK_sound tab_ok _ _ _ ?_
  simp (config := { maxSteps := 4000000 }) only [go_sem, simprocAttr, ↓dnA, Try.f89, rows_length]
  refine semL_for tab_ok (fun i : Nat => ⟨60, [(0, .row 800 xs.length), (1, .int .i64 (k + (stepS stS (xs.take i) : Int))), (5, .int .i64 i)], [(800, .row true nn 6 (rows encS1 (midS mkS stS xs k i)))]⟩) (fun i => xs.length - i)
    (fun i => i ≤ xs.length) 0 [(800, 800)] (Weak.of (by rfl) ?_ ?_ (by rfl)) (by omega) ?_
  · simp (config := { maxSteps := 4000000 }) only [go_sem, simprocAttr, ↓dnA, Try.f89, midS_zero, frW, wk2, wk1, wkL, wkB, hpW, List.mem_cons, Prod.mk.injEq, exists_eq_left, exists_eq_right, exists_eq]
  · simp (config := { maxSteps := 4000000 }) only [go_sem, simprocAttr, ↓dnA, Try.f89, List.take_zero, stepS, Int.add_zero, nc0, frW, wk2, wk1, wkL, wkB, hpW, List.mem_cons, Prod.mk.injEq, exists_eq_left, exists_eq_right, exists_eq]
  · rintro i hi
    by_cases h : i < xs.length
    · have hb := stepS_lt stS xs i h
      have hm : i < (rows encS1 (midS mkS stS xs k i)).length := by rw [rows_length, midS_length _ _ _ _ _ hi]; exact h
      have hst : stS xs[i] = 3 + stepS stI xs[i].fr + stepS stE xs[i].res.reads + stepS stE xs[i].res.writes := rfl
      have hl1 := stepS_const stI 1 (fun _ => rfl) xs[i].fr
      have hl2 := stepS_const stE 2 (fun _ => rfl) xs[i].res.reads
      have hl3 := stepS_const stE 2 (fun _ => rfl) xs[i].res.writes
      have hK : k + (stepS stS (xs.take (i + 1)) : Int) = k + (stepS stS (xs.take i) : Int) + 1 + 1 + (stepS stI xs[i].fr : Int) + 1 + (stepS stE xs[i].res.reads : Int) + (stepS stE xs[i].res.writes : Int) := by rw [stepS_take_succ _ _ _ h, hst]; omega
      have hs := midS_set encS1 mkS stS xs k i h
      unfold mkS at hs
      generalize hKe : k + (stepS stS (xs.take i) : Int) = K at *
      have hw1 : IntKind.i64.wrap (K + 1) = K + 1 := wrap_small _ (by omega) (by omega)
      have hw2 : IntKind.i64.wrap (K + 1 + 1) = K + 1 + 1 := wrap_small _ (by omega) (by omega)
      have hw3 : IntKind.i64.wrap (K + 1 + 1 + (stepS stI xs[i].fr : Int) + 1) = K + 1 + 1 + (stepS stI xs[i].fr : Int) + 1 := wrap_small _ (by omega) (by omega)
      simp (config := { maxSteps := 4000000 }) only [go_sem, simprocAttr, ↓dnA, Try.f89, rows_length, midS_length _ _ _ _ _ hi, List.length_set, nlt h, h, nn0, midS_get _ _ _ _ _ _ h, encS1, encS, set_same _ _ _ hm, List.set_set, spliceL, hw1, hw2]
      intro sz2 hz2 hl2'
      refine CallMTo.of (c_laws_markIntS false sz2 xs[i].fr (K + 1 + 1) (sz_of encI xs[i].fr 1 sz2 (fun _ => rfl) hl2') (by omega) (by omega)) ?_
      rintro r ls' ⟨rfl, rfl⟩ es2' he
      simp only [List.cons.injEq, AV.osl.injEq, and_true, true_and] at he
      subst he
      simp (config := { maxSteps := 4000000 }) only [go_sem, simprocAttr, ↓dnA, Try.f89, rows_length, midS_length _ _ _ _ _ hi, List.length_set, nlt h, h, nn0, midS_get _ _ _ _ _ _ h, encS1, encS, set_same _ _ _ hm, List.set_set, spliceL, hw3]
      repeat refine And.intro (by first | omega | (simp; done) | (simp; omega) | assumption) ?_
      intro sz2 hz2 hl2'
      refine CallMTo.of (c_laws_markEntryS false sz2 xs[i].res.reads _ (sz_of encE xs[i].res.reads 2 sz2 (fun _ => rfl) hl2') (by omega) (by omega)) ?_
      rintro r ls' ⟨rfl, rfl⟩ es2' he
      simp only [List.cons.injEq, AV.osl.injEq, and_true, true_and] at he
      subst he
      simp (config := { maxSteps := 4000000 }) only [go_sem, simprocAttr, ↓dnA, Try.f89, rows_length, midS_length _ _ _ _ _ hi, List.length_set, nlt h, h, nn0, midS_get _ _ _ _ _ _ h, encS1, encS, set_same _ _ _ hm, List.set_set, spliceL]
      repeat refine And.intro (by first | omega | (simp; done) | (simp; omega) | assumption) ?_
      intro sz2 hz2 hl2'
      refine CallMTo.of (c_laws_markEntryS false sz2 xs[i].res.writes _ (sz_of encE xs[i].res.writes 2 sz2 (fun _ => rfl) hl2') (by omega) (by omega)) ?_
      rintro r ls' ⟨rfl, rfl⟩ es2' he
      simp only [List.cons.injEq, AV.osl.injEq, and_true, true_and] at he
      subst he
      simp (config := { maxSteps := 4000000 }) only [go_sem, simprocAttr, ↓dnA, Try.f89, rows_length, midS_length _ _ _ _ _ hi, List.length_set, nlt h, h, nn0, midS_get _ _ _ _ _ _ h, encS1, encS, set_same _ _ _ hm, List.set_set, spliceL, wsucc h hx]
      refine ⟨i + 1, [(800, 800)], by omega, by dsimp only; omega, Weak.of (by rfl) ?_ ?_ (by rfl)⟩
      · simp (config := { maxSteps := 4000000 }) only [go_sem, simprocAttr, ↓dnA, Try.f89, frW, wk2, wk1, wkL, wkB, hpW, List.mem_cons, Prod.mk.injEq, exists_eq_left, exists_eq_right, exists_eq]
        exact hs.symm
      · simp (config := { maxSteps := 4000000 }) only [go_sem, simprocAttr, ↓dnA, Try.f89, hK, wsucc h hx, frW, wk2, wk1, wkL, wkB, hpW, List.mem_cons, Prod.mk.injEq, exists_eq_left, exists_eq_right, exists_eq]
    · have hi' : i = xs.length := by omega
      subst hi'
      simp (config := { maxSteps := 4000000 }) only [go_sem, simprocAttr, ↓dnA, Try.f89, nlf h, rows_length, midS_len, List.take_length, markS_length]

theorem c_laws_heldSlotS (n1 : Option Bool) (xs : List Slot) (k : Int) (hx : xs.length < 2 ^ 62) (hk : 0 ≤ k ∧ k + stepS stS xs < 2 ^ 62) :
    Det Try.prog 93 [.sl n1 (rows encS1 (markS mkS stS xs k)), .int .i64 k] (.int .i64 (k + stepS stS xs)) := by
  refine fspec_det tab_ok Try.call93 Try.func93 rfl 72 Try.ntmps93 (of_decide_eq_true rfl) fun B => codeK_sound tab_ok _ _ _ ?_
  simp (config := { maxSteps := 4000000 }) only [go_sem, simprocAttr, ↓dnA, Try.f93]
  refine semL_for tab_ok (fun i : Nat => ⟨72, [(0, .sl n1 (rows encS1 (markS mkS stS xs k))), (1, .int .i64 (k + (stepS stS (xs.take i) : Int))), (5, .int .i64 i)], []⟩) (fun i => xs.length - i)
    (fun i => i ≤ xs.length) 0 [] (Weak.of rfl trivial ?_ rfl) (by omega) ?_
  · simp (config := { maxSteps := 4000000 }) only [go_sem, simprocAttr, ↓dnA, Try.f93, List.take_zero, stepS, Int.add_zero, nc0, frW, wk2, wk1, wkL, wkB, hpW, List.mem_cons, Prod.mk.injEq, exists_eq_left, exists_eq_right, exists_eq]
  · rintro i hi
    by_cases h : i < xs.length
    · have hb := stepS_lt stS xs i h
      have hst : stS xs[i] = 3 + stepS stI xs[i].fr + stepS stE xs[i].res.reads + stepS stE xs[i].res.writes := rfl
      have hl1 := stepS_const stI 1 (fun _ => rfl) xs[i].fr
      have hl2 := stepS_const stE 2 (fun _ => rfl) xs[i].res.reads
      have hl3 := stepS_const stE 2 (fun _ => rfl) xs[i].res.writes
      have hK : k + (stepS stS (xs.take (i + 1)) : Int) = k + (stepS stS (xs.take i) : Int) + 1 + 1 + (stepS stI xs[i].fr : Int) + 1 + (stepS stE xs[i].res.reads : Int) + (stepS stE xs[i].res.writes : Int) := by rw [stepS_take_succ _ _ _ h, hst]; omega
      have hg := markS_rget encS1 mkS stS xs i k h
      generalize hKe : k + (stepS stS (xs.take i) : Int) = K at *
      have hw1 : IntKind.i64.wrap (K + 1) = K + 1 := wrap_small _ (by omega) (by omega)
      have hw2 : IntKind.i64.wrap (K + 1 + 1) = K + 1 + 1 := wrap_small _ (by omega) (by omega)
      have hw3 : IntKind.i64.wrap (K + 1 + 1 + (stepS stI xs[i].fr : Int) + 1) = K + 1 + 1 + (stepS stI xs[i].fr : Int) + 1 := wrap_small _ (by omega) (by omega)
      have d1 : decide (K + 1 + 1 + (stepS stI xs[i].fr : Int) < 0) = false := by simp; omega
      have d2 : decide (K + 1 + 1 + (stepS stI xs[i].fr : Int) + 1 + (stepS stE xs[i].res.reads : Int) < 0) = false := by simp; omega
      have d3 : decide (K + 1 + 1 + (stepS stI xs[i].fr : Int) + 1 + (stepS stE xs[i].res.reads : Int) + (stepS stE xs[i].res.writes : Int) < 0) = false := by simp; omega
      simp (config := { maxSteps := 4000000 }) only [go_sem, simprocAttr, ↓dnA, Try.f93, rows_length, markS_length, nlt h, h, nn0, hg, encS1, encS, mkS, hw1, hw2]
      refine CallTo.det (c_laws_heldIntS none xs[i].fr (K + 1 + 1) (by omega) (by omega)) fun _ => ?_
      simp (config := { maxSteps := 4000000 }) only [go_sem, simprocAttr, ↓dnA, Try.f93, rows_length, markS_length, nlt h, h, nn0, hg, encS1, encS, mkS, d1, hw3]
      repeat refine And.intro (by first | omega | (simp; done) | (simp; omega) | assumption) ?_
      refine CallTo.det (c_laws_heldEntryS none xs[i].res.reads _ (by omega) (by omega)) fun _ => ?_
      simp (config := { maxSteps := 4000000 }) only [go_sem, simprocAttr, ↓dnA, Try.f93, rows_length, markS_length, nlt h, h, nn0, hg, encS1, encS, mkS, d1, d2, hw3]
      repeat refine And.intro (by first | omega | (simp; done) | (simp; omega) | assumption) ?_
      refine CallTo.det (c_laws_heldEntryS none xs[i].res.writes _ (by omega) (by omega)) fun _ => ?_
      simp (config := { maxSteps := 4000000 }) only [go_sem, simprocAttr, ↓dnA, Try.f93, rows_length, markS_length, nlt h, h, nn0, hg, encS1, encS, mkS, d3, wsucc h hx]
      refine ⟨i + 1, [], by omega, by dsimp only; omega, Weak.of rfl trivial ?_ rfl⟩
      simp (config := { maxSteps := 4000000 }) only [go_sem, simprocAttr, ↓dnA, Try.f93, hK, wsucc h hx, frW, wk2, wk1, wkL, wkB, hpW, List.mem_cons, Prod.mk.injEq, exists_eq_left, exists_eq_right, exists_eq]
    · have hi' : i = xs.length := by omega
      subst hi'
      simp (config := { maxSteps := 4000000 }) only [go_sem, simprocAttr, ↓dnA, Try.f93, nlf h, rows_length, List.take_length, markS_length]

def stG (e : Engine) : Nat := stepS stE e.base + stepS stA e.list + stepS stR e.versions + stepS stS e.slots
def mkG (e : Engine) (k : Int) : Engine :=
  ⟨markS mkE stE e.base k, markS mkA stA e.list (k + (stepS stE e.base : Int)), markS mkR stR e.versions (k + (stepS stE e.base : Int) + (stepS stA e.list : Int)),
    markS mkS stS e.slots (k + (stepS stE e.base : Int) + (stepS stA e.list : Int) + (stepS stR e.versions : Int))⟩

theorem mkG_l1 (e : Engine) (k : Int) : (mkG e k).base.length = e.base.length := markS_length _ _ _ _
theorem mkG_l2 (e : Engine) (k : Int) : (mkG e k).list.length = e.list.length := markS_length _ _ _ _
theorem mkG_l3 (e : Engine) (k : Int) : (mkG e k).versions.length = e.versions.length := markS_length _ _ _ _
theorem mkG_l4 (e : Engine) (k : Int) : (mkG e k).slots.length = e.slots.length := markS_length _ _ _ _

theorem c_laws_markEngine (n1 n2 n3 n4 : Bool) (e : Engine) (k : Int) (hx : EngSz (2 ^ 62) e) (hk : 0 ≤ k ∧ k + stG e < 2 ^ 62) :
    FSpecM Try.prog 30 [.agg [.row 800 e.base.length, .row 801 e.list.length, .row 802 e.versions.length, .row 803 e.slots.length], .int .i64 k]
      [.osl n1 2 (rows encE e.base), .osl n2 4 (rows encA e.list), .osl n3 3 (rows encR e.versions), .osl n4 6 (rows encS1 e.slots)]
      (fun r ls' => r = .int .i64 (k + stG e) ∧ ls' = [.osl n1 2 (rows encE (mkG e k).base), .osl n2 4 (rows encA (mkG e k).list), .osl n3 3 (rows encR (mkG e k).versions), .osl n4 6 (rows encS1 (mkG e k).slots)]) := by
  refine fspec_introM tab_ok Try.call30 Try.func30 rfl 22 Try.ntmps30 (of_decide_eq_true rfl) (of_decide_eq_true rfl) fun B => codeK_sound tab_ok _ _ _ ?_
  unfold stG at hk ⊢
  have he : k + ((stepS stE e.base + stepS stA e.list + stepS stR e.versions + stepS stS e.slots : Nat) : Int) = k + (stepS stE e.base : Int) + (stepS stA e.list : Int) + (stepS stR e.versions : Int) + (stepS stS e.slots : Int) := by omega
  simp (config := { maxSteps := 4000000 }) only [go_sem, simprocAttr, ↓dnA, Try.f30, List.nodup_cons, rows_length]
  refine CallMTo.of (c_laws_markEntryS n1 2 e.base k (.inr rfl) hx.base ⟨hk.1, by omega⟩) ?_
  rintro r ls' ⟨rfl, rfl⟩
  simp (config := { maxSteps := 4000000 }) only [go_sem, simprocAttr, ↓dnA, Try.f30, List.nodup_cons, rows_length]
  refine CallMTo.of (c_laws_markActionS n2 4 e.list _ (.inr rfl) hx.list ⟨by omega, by omega⟩) ?_
  rintro r ls' ⟨rfl, rfl⟩
  simp (config := { maxSteps := 4000000 }) only [go_sem, simprocAttr, ↓dnA, Try.f30, List.nodup_cons, rows_length]
  refine CallMTo.of (c_laws_markVersionS n3 3 e.versions _ (.inr rfl) hx.versions ⟨by omega, by omega⟩) ?_
  rintro r ls' ⟨rfl, rfl⟩
  simp (config := { maxSteps := 4000000 }) only [go_sem, simprocAttr, ↓dnA, Try.f30, List.nodup_cons, rows_length]
  refine CallMTo.of (c_laws_markSlotS n4 e.slots _ hx.slots ⟨by omega, by omega⟩) ?_
  rintro r ls' ⟨rfl, rfl⟩
  simp (config := { maxSteps := 4000000 }) only [go_sem, simprocAttr, ↓dnA, Try.f30, List.nodup_cons, rows_length, markS_length, mkG, he]

theorem c_laws_heldEngine (n1 n2 n3 n4 : Option Bool) (e : Engine) (k : Int) (hx : EngSz (2 ^ 62) e) (hk : 0 ≤ k ∧ k + stG e < 2 ^ 62) :
    Det Try.prog 31 [.agg (encG n1 n2 n3 n4 (mkG e k)), .int .i64 k] (.int .i64 (k + stG e)) := by
  refine fspec_det tab_ok Try.call31 Try.func31 rfl 30 Try.ntmps31 (of_decide_eq_true rfl) fun B => codeK_sound tab_ok _ _ _ ?_
  unfold stG at hk ⊢
  have he : k + ((stepS stE e.base + stepS stA e.list + stepS stR e.versions + stepS stS e.slots : Nat) : Int) = k + (stepS stE e.base : Int) + (stepS stA e.list : Int) + (stepS stR e.versions : Int) + (stepS stS e.slots : Int) := by omega
  have d1 : decide (k + (stepS stE e.base : Int) < 0) = false := by simp; omega
  have d2 : decide (k + (stepS stE e.base : Int) + (stepS stA e.list : Int) < 0) = false := by simp; omega
  have d3 : decide (k + (stepS stE e.base : Int) + (stepS stA e.list : Int) + (stepS stR e.versions : Int) < 0) = false := by simp; omega
  have d4 : decide (k + (stepS stE e.base : Int) + (stepS stA e.list : Int) + (stepS stR e.versions : Int) + (stepS stS e.slots : Int) < 0) = false := by simp; omega
  unfold encG mkG
  simp (config := { maxSteps := 4000000 }) only [go_sem, simprocAttr, ↓dnA, Try.f31, List.nodup_cons, rows_length]
  refine CallTo.det (c_laws_heldEntryS n1 e.base k hx.base ⟨hk.1, by omega⟩) fun _ => ?_
  simp (config := { maxSteps := 4000000 }) only [go_sem, simprocAttr, ↓dnA, Try.f31, List.nodup_cons, rows_length, d1]
  refine CallTo.det (c_laws_heldActionS n2 e.list _ hx.list ⟨by omega, by omega⟩) fun _ => ?_
  simp (config := { maxSteps := 4000000 }) only [go_sem, simprocAttr, ↓dnA, Try.f31, List.nodup_cons, rows_length, d1, d2]
  refine CallTo.det (c_laws_heldVersionS n3 e.versions _ hx.versions ⟨by omega, by omega⟩) fun _ => ?_
  simp (config := { maxSteps := 4000000 }) only [go_sem, simprocAttr, ↓dnA, Try.f31, List.nodup_cons, rows_length, d1, d2, d3]
  refine CallTo.det (c_laws_heldSlotS n4 e.slots _ hx.slots ⟨by omega, by omega⟩) fun _ => ?_
  simp (config := { maxSteps := 4000000 }) only [go_sem, simprocAttr, ↓dnA, Try.f31, List.nodup_cons, rows_length, d1, d2, d3, d4, he]

end Go.Proofs.Ytdaemhaecjldaaa

/- Contracts: FnExactEngineOf. -/
set_option linter.unusedSimpArgs false
set_option linter.unusedVariables false
set_option maxRecDepth 20000
set_option maxHeartbeats 4000000
namespace Go.Proofs.Ytdaemhaecjldaaa
open Go Go.RowKit

theorem engineOf_sz (s : List Entry) (l : List Action) (hs : s.length ≤ 1048576) (hl : l.length ≤ 1048576) : EngSz (2 ^ 62) (engineOf s l) := by
  unfold engineOf
  split
  · exact ⟨by dsimp only; omega, by dsimp only; omega, by simp, by simp; omega, fun x hx => by rw [List.eq_of_mem_replicate hx]; exact ⟨by decide, by decide, by decide⟩⟩
  · exact ⟨by simp, by simp, by simp, by simp, fun x hx => by cases hx⟩

theorem engineOf_st (s : List Entry) (l : List Action) (hs : s.length ≤ 1048576) (hl : l.length ≤ 1048576) : stG (engineOf s l) ≤ 2 * 1048576 + 7 * 1048576 := by
  have h3 : ∀ n : Nat, stepS stS (List.replicate n slot0) = 3 * n := by
    intro n
    induction n with
    | zero => rfl
    | succ n ih => rw [List.replicate_succ]; unfold stepS; rw [ih]; show 3 + 3 * n = _; omega
  have h1 := stepS_const stE 2 (fun _ => rfl) s
  have h2 := stepS_const stA 4 (fun _ => rfl) l
  unfold engineOf stG
  split
  · dsimp only
    rw [h1, h2, h3]
    show 2 * s.length + 4 * l.length + 0 + 3 * l.length ≤ _
    omega
  · show 0 + 0 + 0 + 0 ≤ _
    omega

theorem c_laws_FnExactEngineOf (n1 n2 : Option Bool) (s : List Entry) (l : List Action) (hs : s.length ≤ 9223372036854775807) (hl : l.length ≤ 9223372036854775807) :
    Det Try.prog 5 [.sl n1 (rows encE s), .sl n2 (rows encA l)] (.bool true) := by
  refine fspec_det tab_ok Try.call5 Try.func5 rfl 92 Try.ntmps5 (of_decide_eq_true rfl) fun B => codeK_sound tab_ok _ _ _ ?_
  have hb1 := szI_bd (left := 1048576) (n := s.length) (by omega)
  simp (config := { maxSteps := 4000000 }) only [go_sem, simprocAttr, ↓dnA, Try.f5, encGF, List.nodup_cons, rows_length, markS_length, mkG_l1, mkG_l2, mkG_l3, mkG_l4]
  refine CallTo.det (c_laws_szEntryS n1 s 1048576 hs (by omega)) fun _ => ?_
  cases h1 : decide (szI 1048576 s.length < 0) with
  | true => simp (config := { maxSteps := 4000000 }) only [go_sem, simprocAttr, ↓dnA, Try.f5, encGF, List.nodup_cons, rows_length, markS_length, mkG_l1, mkG_l2, mkG_l3, mkG_l4, h1]
  | false =>
    have h1' := of_decide_eq_false h1
    have hb2 := szI_bd (left := szI 1048576 s.length) (n := l.length) hb1.1
    simp (config := { maxSteps := 4000000 }) only [go_sem, simprocAttr, ↓dnA, Try.f5, encGF, List.nodup_cons, rows_length, markS_length, mkG_l1, mkG_l2, mkG_l3, mkG_l4, h1]
    refine CallTo.det (c_laws_szActionS n2 l _ hl ⟨by omega, hb1.1⟩) fun _ => ?_
    cases h2 : decide (szI (szI 1048576 s.length) l.length < 0) with
    | true => simp (config := { maxSteps := 4000000 }) only [go_sem, simprocAttr, ↓dnA, Try.f5, encGF, List.nodup_cons, rows_length, markS_length, mkG_l1, mkG_l2, mkG_l3, mkG_l4, h2]
    | false =>
      have h2' := of_decide_eq_false h2
      have hs' : s.length ≤ 1048576 := by have := hb1.2 (by omega); omega
      have hl' : l.length ≤ 1048576 := by have := hb2.2 (by omega); omega
      have hsz := engineOf_sz s l hs' hl'
      have hst := engineOf_st s l hs' hl'
      have d1 : decide (1 + (stG (engineOf s l) : Int) < 0) = false := by simp; omega
      have q1 := stepS_const stE 2 (fun _ => rfl) s
      have q2 := stepS_const stA 4 (fun _ => rfl) l
      have d2 : decide (1 + (stepS stE s : Int) + (stepS stA l : Int) < 0) = false := by simp; omega
      have es : decide (s = s) = true := by simp
      have el : decide (l = l) = true := by simp
      have ee : decide (engineOf s l = engineOf s l) = true := by simp
      simp (config := { maxSteps := 4000000 }) only [go_sem, simprocAttr, ↓dnA, Try.f5, encGF, List.nodup_cons, rows_length, markS_length, mkG_l1, mkG_l2, mkG_l3, mkG_l4, h2]
      refine CallTo.det (c_laws_toEntryS n1 s (by omega)) fun _ => ?_
      simp (config := { maxSteps := 4000000 }) only [go_sem, simprocAttr, ↓dnA, Try.f5, encGF, List.nodup_cons, rows_length, markS_length, mkG_l1, mkG_l2, mkG_l3, mkG_l4]
      refine CallTo.det (c_laws_toActionS n2 l (by omega)) fun _ => ?_
      simp (config := { maxSteps := 4000000 }) only [go_sem, simprocAttr, ↓dnA, Try.f5, encGF, List.nodup_cons, rows_length, markS_length, mkG_l1, mkG_l2, mkG_l3, mkG_l4]
      refine CallTo.det (c_spec_EngineOf (some true) (some true) s l (by omega) (by omega)) fun _ => ?_
      simp (config := { maxSteps := 4000000 }) only [go_sem, simprocAttr, ↓dnA, Try.f5, encGF, List.nodup_cons, rows_length, markS_length, mkG_l1, mkG_l2, mkG_l3, mkG_l4]
      refine CallTo.det (c_laws_toEntryS n1 s (by omega)) fun _ => ?_
      simp (config := { maxSteps := 4000000 }) only [go_sem, simprocAttr, ↓dnA, Try.f5, encGF, List.nodup_cons, rows_length, markS_length, mkG_l1, mkG_l2, mkG_l3, mkG_l4]
      refine CallTo.det (c_laws_toActionS n2 l (by omega)) fun _ => ?_
      simp (config := { maxSteps := 4000000 }) only [go_sem, simprocAttr, ↓dnA, Try.f5, encGF, List.nodup_cons, rows_length, markS_length, mkG_l1, mkG_l2, mkG_l3, mkG_l4]
      refine CallTo.det (c_impl_EngineOf (some true) (some true) s l (by omega) (by omega)) fun _ => ?_
      simp (config := { maxSteps := 4000000 }) only [go_sem, simprocAttr, ↓dnA, Try.f5, encGF, List.nodup_cons, rows_length, markS_length, mkG_l1, mkG_l2, mkG_l3, mkG_l4]
      refine CallTo.det (c_laws_eqEngine _ _ _ _ _ _ _ _ (engineOf s l) (engineOf s l) hsz hsz) fun _ => ?_
      simp (config := { maxSteps := 4000000 }) only [go_sem, simprocAttr, ↓dnA, Try.f5, encGF, List.nodup_cons, rows_length, markS_length, mkG_l1, mkG_l2, mkG_l3, mkG_l4, ee]
      refine CallTo.det (c_laws_toEntryS n1 s (by omega)) fun _ => ?_
      simp (config := { maxSteps := 4000000 }) only [go_sem, simprocAttr, ↓dnA, Try.f5, encGF, List.nodup_cons, rows_length, markS_length, mkG_l1, mkG_l2, mkG_l3, mkG_l4]
      refine CallTo.det (c_laws_eqEntryS _ _ s s (by omega) (by omega)) fun _ => ?_
      simp (config := { maxSteps := 4000000 }) only [go_sem, simprocAttr, ↓dnA, Try.f5, encGF, List.nodup_cons, rows_length, markS_length, mkG_l1, mkG_l2, mkG_l3, mkG_l4, es]
      refine CallTo.det (c_laws_toActionS n2 l (by omega)) fun _ => ?_
      simp (config := { maxSteps := 4000000 }) only [go_sem, simprocAttr, ↓dnA, Try.f5, encGF, List.nodup_cons, rows_length, markS_length, mkG_l1, mkG_l2, mkG_l3, mkG_l4]
      refine CallTo.det (c_laws_eqActionS _ _ l l (by omega) (by omega)) fun _ => ?_
      simp (config := { maxSteps := 4000000 }) only [go_sem, simprocAttr, ↓dnA, Try.f5, encGF, List.nodup_cons, rows_length, markS_length, mkG_l1, mkG_l2, mkG_l3, mkG_l4, el]
      refine CallMTo.of (c_laws_markEntryS true 2 s 1 (.inr rfl) (by omega) ⟨by omega, by omega⟩) ?_
      rintro r ls' ⟨rfl, rfl⟩
      simp (config := { maxSteps := 4000000 }) only [go_sem, simprocAttr, ↓dnA, Try.f5, encGF, List.nodup_cons, rows_length, markS_length, mkG_l1, mkG_l2, mkG_l3, mkG_l4]
      refine CallMTo.of (c_laws_markActionS true 4 l _ (.inr rfl) (by omega) ⟨by omega, by omega⟩) ?_
      rintro r ls' ⟨rfl, rfl⟩
      simp (config := { maxSteps := 4000000 }) only [go_sem, simprocAttr, ↓dnA, Try.f5, encGF, List.nodup_cons, rows_length, markS_length, mkG_l1, mkG_l2, mkG_l3, mkG_l4, d2]
      refine CallTo.det (c_laws_eqEngine _ _ _ _ _ _ _ _ (engineOf s l) (engineOf s l) hsz hsz) fun _ => ?_
      simp (config := { maxSteps := 4000000 }) only [go_sem, simprocAttr, ↓dnA, Try.f5, encGF, List.nodup_cons, rows_length, markS_length, mkG_l1, mkG_l2, mkG_l3, mkG_l4, d2, ee]
      refine CallMTo.of (c_laws_markEngine false false false false (engineOf s l) 1 hsz ⟨by omega, by omega⟩) ?_
      rintro r ls' ⟨rfl, rfl⟩
      simp (config := { maxSteps := 4000000 }) only [go_sem, simprocAttr, ↓dnA, Try.f5, encGF, List.nodup_cons, rows_length, markS_length, mkG_l1, mkG_l2, mkG_l3, mkG_l4]
      refine CallTo.det (c_laws_heldEngine _ _ _ _ (engineOf s l) 1 hsz ⟨by omega, by omega⟩) fun _ => ?_
      simp (config := { maxSteps := 4000000 }) only [go_sem, simprocAttr, ↓dnA, Try.f5, encGF, List.nodup_cons, rows_length, markS_length, mkG_l1, mkG_l2, mkG_l3, mkG_l4, d1]
      refine CallTo.det (c_laws_toEntryS n1 s (by omega)) fun _ => ?_
      simp (config := { maxSteps := 4000000 }) only [go_sem, simprocAttr, ↓dnA, Try.f5, encGF, List.nodup_cons, rows_length, markS_length, mkG_l1, mkG_l2, mkG_l3, mkG_l4]
      refine CallTo.det (c_laws_toActionS n2 l (by omega)) fun _ => ?_
      simp (config := { maxSteps := 4000000 }) only [go_sem, simprocAttr, ↓dnA, Try.f5, encGF, List.nodup_cons, rows_length, markS_length, mkG_l1, mkG_l2, mkG_l3, mkG_l4]
      refine CallTo.det (c_impl_EngineOf (some true) (some true) s l (by omega) (by omega)) fun _ => ?_
      simp (config := { maxSteps := 4000000 }) only [go_sem, simprocAttr, ↓dnA, Try.f5, encGF, List.nodup_cons, rows_length, markS_length, mkG_l1, mkG_l2, mkG_l3, mkG_l4]
      refine CallTo.det (c_laws_eqEngine _ _ _ _ _ _ _ _ (engineOf s l) (engineOf s l) hsz hsz) fun _ => ?_
      simp (config := { maxSteps := 4000000 }) only [go_sem, simprocAttr, ↓dnA, Try.f5, encGF, List.nodup_cons, rows_length, markS_length, mkG_l1, mkG_l2, mkG_l3, mkG_l4, ee]
      refine CallTo.det (c_laws_heldEngine _ _ _ _ (engineOf s l) 1 hsz ⟨by omega, by omega⟩) fun _ => ?_
      simp (config := { maxSteps := 4000000 }) only [go_sem, simprocAttr, ↓dnA, Try.f5, encGF, List.nodup_cons, rows_length, markS_length, mkG_l1, mkG_l2, mkG_l3, mkG_l4, d1]

end Go.Proofs.Ytdaemhaecjldaaa

/- The closed facts of the row of FnExactEngineOf. -/
namespace Go.Proofs.Ytdaemhaecjldaaa
open Go Go.ChangeShapes Go.WideShapes Go.ChangeAt Go.RowKit

theorem fnExactEngineOf_named : Try.pinned.checked.prog.funcNamed Rows.fnExactEngineOfRow.func = some 5 := by kernel_rfl
theorem fnExactEngineOf_inst : Try.f5.isInstance Try.pinned.checked.prog Rows.fnExactEngineOfRow.origin Rows.fnExactEngineOfRow.targs := of_decide_eq_true (by kernel_rfl)
theorem fnExactEngineOf_wrap : Try.f5.isWrapper Try.pinned.checked.prog Rows.fnExactEngineOfRow.wrapper Rows.fnExactEngineOfRow.mainSum := by
  unfold Func.isWrapper; first | (rw [if_pos (by decide +kernel)]; kernel_rfl) | (rw [if_neg (by decide +kernel)]; exact ⟨rfl, rfl⟩)
set_option maxRecDepth 100000 in
theorem fnExactEngineOf_closed : joinedFacts Try.pinned.checked.prog 5 Try.f5 Rows.fnExactEngineOfSpec Rows.fnExactEngineOfRow = true := by kernel_rfl

end Go.Proofs.Ytdaemhaecjldaaa

/- Arguments of the laws, by their types. -/
set_option linter.unusedSimpArgs false
namespace Go.Proofs.Ytdaemhaecjldaaa
open Go Go.ChangeShapes Go.WideShapes Go.ChangeAt Go.RowKit

theorem own_ : ownKnob Try.prog.godebug = none := by kernel_rfl
theorem laidOut_ : laidOutB Try.prog = true := by kernel_rfl

theorem ty_int {cs : List AV} (h : Ty tab 3 cs) : ∃ n, cs = [.int .i64 n] ∧ IntKind.i64.has n := h.int_inv tabAt_3 rfl
theorem ty_bool {cs : List AV} (h : Ty tab 4 cs) : ∃ b, cs = [.bool b] := h.bool_inv tabAt_4 rfl
theorem ty_intA {a : AV} (h : TyArg tab 3 a) : ∃ n, a = .int .i64 n := by
  obtain ⟨n, e, _⟩ := ty_int (h.one_inv tabAt_3 rfl)
  exact ⟨n, by simpa using e⟩

/-- The cells of one value read as the cells of a datum. -/
def Leqs (r c : List AV) : Prop := r.length = c.length ∧ ∀ (j : Nat) (_ : j < c.length), Leq (r.getD j .top) (c.getD j .top)
theorem Leqs.refl (c : List AV) : Leqs c c := ⟨rfl, fun _ _ => Leq.refl _⟩
theorem Leqs.of_eq {r c : List AV} (h : r = c) : Leqs r c := h ▸ Leqs.refl _
theorem Leqs.agg {r c : List AV} (h : Leqs r c) : Leq (.agg r) (.agg c) := Leq.agg h.1 h.2

/-- A slice of elements that read as data. -/
theorem ty_rows {α : Type} (e : α → List AV) (Q : α → Prop) {et : TypeId} {es : List (List AV)} (h : ∀ (j : Nat) (_ : j < es.length), Ty tab et (es.getD j [])) (hx : ∀ r, Ty tab et r → ∃ x, Q x ∧ Leqs r (e x)) :
    ∃ xs : List α, es.length = xs.length ∧ (∀ x, x ∈ xs → Q x) ∧ ∀ nn, Leq (.sl nn es) (.sl nn (rows e xs)) := by
  have key : ∃ xs : List α, es.length = xs.length ∧ (∀ x, x ∈ xs → Q x) ∧ ∀ (i : Nat) (hi : i < xs.length), Leqs (es.getD i []) (e (xs[i]'hi)) := by
    induction es with
    | nil => exact ⟨[], rfl, fun x hx => (by cases hx), fun i hi => absurd hi (by simp)⟩
    | cons r rs ih =>
      obtain ⟨x, hq, hx1⟩ := hx r (h 0 (by simp))
      obtain ⟨xs, h1, h2, h3⟩ := ih (fun j hj => h (j + 1) (by simpa using hj))
      refine ⟨x :: xs, by simp [h1], fun y hy => ?_, fun i hi => ?_⟩
      · rcases List.mem_cons.1 hy with rfl | hy
        · exact hq
        · exact h2 y hy
      · cases i with
        | zero => exact hx1
        | succ i => exact h3 i (by simpa using hi)
  obtain ⟨xs, h1, h2, h3⟩ := key
  refine ⟨xs, h1, h2, fun nn => Leq.sl (by rw [rows_length, h1]) (fun i hi => ?_) (fun i j hi hj => ?_)⟩
  · rw [rows_length] at hi
    rw [rows_get _ _ _ hi]
    exact (h3 i hi).1
  · rw [rows_length] at hi
    rw [rows_get _ _ _ hi] at hj ⊢
    exact (h3 i hi).2 j hj

/-- A slice, as one cell. -/
theorem ty_slice {α : Type} (e : α → List AV) (Q : α → Prop) {t et : TypeId} {ti : TI} {cs : List AV} (h : Ty tab t cs) (ht : tab t = some ti) (hk : ti.k = .slice et) (hx : ∀ r, Ty tab et r → ∃ x, Q x ∧ Leqs r (e x)) :
    ∃ (n : Option Bool) (xs : List α), xs.length ≤ 9223372036854775807 ∧ (∀ x, x ∈ xs → Q x) ∧ Leqs cs [.sl n (rows e xs)] ∧ Leqs cs [.sl none (rows e xs)] := by
  obtain ⟨nn, es, rfl, _, hl, he⟩ := h.slice_inv ht hk
  obtain ⟨xs, h1, h2, h3⟩ := ty_rows e Q he hx
  refine ⟨some nn, xs, by omega, h2, ⟨rfl, fun j hj => ?_⟩, ⟨rfl, fun j hj => ?_⟩⟩
  · have : j = 0 := by simpa using hj
    subst this; exact h3 _
  · have : j = 0 := by simpa using hj
    subst this; exact (h3 (some nn)).trans Leq.slN

theorem ty_bools {a : AV} (h : TyArg tab 56 a) : ∃ (n : Option Bool) (bs : List Bool), Leq a (.sl n (boolRows bs)) ∧ bs.length ≤ 9223372036854775807 := by
  obtain ⟨n, xs, h1, _, h2, _⟩ := ty_slice (fun b : Bool => [AV.bool b]) (fun _ => True) (h.one_inv tabAt_56 rfl) tabAt_56 rfl fun r hr => by
    obtain ⟨b, rfl⟩ := ty_bool hr
    exact ⟨b, trivial, Leqs.refl _⟩
  exact ⟨n, xs, h2.2 0 (by simp), h1⟩

theorem ty_voterC {cs : List AV} (h : Ty tab 23 cs) : ∃ v : Voter, cs = encV v := by
  obtain ⟨ps, rfl, hl, hp⟩ := h.struct_inv tabAt_23 rfl
  match ps, hl with
  | [p, q], _ =>
    obtain ⟨x, hx, _⟩ := ty_int (hp 0 (by decide))
    obtain ⟨y, hy, _⟩ := ty_int (hp 1 (by decide))
    have hx : p = _ := hx
    have hy : q = _ := hy
    subst hx; subst hy
    exact ⟨⟨x, y⟩, rfl⟩

theorem ty_voter {a : AV} (h : TyArg tab 23 a) : ∃ v : Voter, a = .agg (encV v) := by
  obtain ⟨cs, rfl, h2⟩ := h.agg_inv tabAt_23 rfl
  obtain ⟨v, rfl⟩ := ty_voterC h2
  exact ⟨v, rfl⟩

theorem ty_entry {cs : List AV} (h : Ty tab 125 cs) : ∃ e : Entry, cs = encE e := by
  obtain ⟨ps, rfl, hl, hp⟩ := h.struct_inv tabAt_125 rfl
  match ps, hl with
  | [p, q], _ =>
    obtain ⟨x, hx, _⟩ := ty_int (hp 0 (by decide))
    obtain ⟨y, hy, _⟩ := ty_int (hp 1 (by decide))
    have hx : p = _ := hx
    have hy : q = _ := hy
    subst hx; subst hy
    exact ⟨⟨x, y⟩, rfl⟩

theorem ty_action {cs : List AV} (h : Ty tab 129 cs) : ∃ e : Action, cs = encA e := by
  obtain ⟨ps, rfl, hl, hp⟩ := h.struct_inv tabAt_129 rfl
  match ps, hl with
  | [p, q, r, s], _ =>
    obtain ⟨x, hx, _⟩ := ty_int (hp 0 (by decide))
    obtain ⟨y, hy, _⟩ := ty_int (hp 1 (by decide))
    obtain ⟨z, hz, _⟩ := ty_int (hp 2 (by decide))
    obtain ⟨w, hw, _⟩ := ty_int (hp 3 (by decide))
    have hx : p = _ := hx
    have hy : q = _ := hy
    have hz : r = _ := hz
    have hw : s = _ := hw
    subst hx; subst hy; subst hz; subst hw
    exact ⟨⟨x, y, z, w⟩, rfl⟩

theorem Leqs.cons {a b : AV} {r c : List AV} (h : Leq a b) (h' : Leqs r c) : Leqs (a :: r) (b :: c) := by
  refine ⟨by simp [h'.1], fun j hj => ?_⟩
  cases j with
  | zero => exact h
  | succ j => exact h'.2 j (by simpa using hj)

theorem Leqs.one {r : List AV} {b : AV} (h : Leqs r [b]) : ∃ a, r = [a] ∧ Leq a b := by
  obtain ⟨h1, h2⟩ := h
  match r, h1 with
  | [a], _ => exact ⟨a, rfl, h2 0 (by simp)⟩

theorem ty_block {cs : List AV} (h : Ty tab 82 cs) : ∃ b : Block, b.list.length ≤ 9223372036854775807 ∧ Leqs cs (encB1 b) := by
  obtain ⟨ps, rfl, hl, hp⟩ := h.struct_inv tabAt_82 rfl
  match ps, hl with
  | [p1, p2, p3, p4, p5, p6], _ =>
    obtain ⟨x1, h1, _⟩ := ty_int (hp 0 (by decide))
    obtain ⟨x2, h2, _⟩ := ty_int (hp 1 (by decide))
    obtain ⟨x3, h3, _⟩ := ty_int (hp 2 (by decide))
    obtain ⟨_, x4, hl4, _, _, h4⟩ := ty_slice encA (fun _ => True) (hp 3 (by decide)) tabAt_33 rfl fun r hr => by
      obtain ⟨a, rfl⟩ := ty_action hr
      exact ⟨a, trivial, Leqs.refl _⟩
    obtain ⟨x5, h5, _⟩ := ty_int (hp 4 (by decide))
    obtain ⟨x6, h6, _⟩ := ty_int (hp 5 (by decide))
    have h1 : p1 = _ := h1
    have h2 : p2 = _ := h2
    have h3 : p3 = _ := h3
    have h5 : p5 = _ := h5
    have h6 : p6 = _ := h6
    obtain ⟨a4, e4, l4⟩ := h4.one
    have e4 : p4 = _ := e4
    subst h1; subst h2; subst h3; subst h5; subst h6; subst e4
    exact ⟨⟨x1, x2, x3, x4, x5, x6⟩, hl4, .cons (.refl _) (.cons (.refl _) (.cons (.refl _) (.cons l4 (.cons (.refl _) (.cons (.refl _) (.refl [])))))) ⟩

theorem ty_treeC {cs : List AV} (h : Ty tab 55 cs) : ∃ (n1 n2 n3 : Option Bool) (t : Tree), Leqs cs (encT n1 n2 n3 t) ∧ TreeLen t := by
  obtain ⟨ps, rfl, hl, hp⟩ := h.struct_inv tabAt_55 rfl
  match ps, hl with
  | [p1, p2, p3], _ =>
    obtain ⟨n1, x1, l1, _, h1, _⟩ := ty_slice encE (fun _ => True) (hp 0 (by decide)) tabAt_32 rfl fun r hr => by
      obtain ⟨a, rfl⟩ := ty_entry hr
      exact ⟨a, trivial, Leqs.refl _⟩
    obtain ⟨n2, x2, l2, q2, h2, _⟩ := ty_slice encB1 (fun b => b.list.length ≤ 9223372036854775807) (hp 1 (by decide)) tabAt_52 rfl fun r hr => ty_block hr
    obtain ⟨n3, x3, l3, _, h3, _⟩ := ty_slice encI (fun _ => True) (hp 2 (by decide)) tabAt_53 rfl fun r hr => by
      obtain ⟨a, rfl, _⟩ := ty_int hr
      exact ⟨a, trivial, Leqs.refl _⟩
    obtain ⟨a1, e1, g1⟩ := h1.one
    obtain ⟨a2, e2, g2⟩ := h2.one
    obtain ⟨a3, e3, g3⟩ := h3.one
    have e1 : p1 = _ := e1
    have e2 : p2 = _ := e2
    have e3 : p3 = _ := e3
    subst e1; subst e2; subst e3
    exact ⟨n1, n2, n3, ⟨x1, x2, x3⟩, .cons g1 (.cons g2 (.cons g3 (.refl []))), ⟨l1, l2, l3, q2⟩⟩

theorem ty_tree {a : AV} (h : TyArg tab 55 a) : ∃ (n1 n2 n3 : Option Bool) (t : Tree), Leq a (.agg (encT n1 n2 n3 t)) ∧ TreeLen t := by
  obtain ⟨cs, rfl, h2⟩ := h.agg_inv tabAt_55 rfl
  obtain ⟨n1, n2, n3, t, h3, h4⟩ := ty_treeC h2
  exact ⟨n1, n2, n3, t, h3.agg, h4⟩

end Go.Proofs.Ytdaemhaecjldaaa

/- Arguments of the laws, by their types: slices of entries, of actions. -/
set_option linter.unusedSimpArgs false
namespace Go.Proofs.Ytdaemhaecjldaaa
open Go Go.RowKit

theorem ty_entries {a : AV} (h : TyArg tab 32 a) : ∃ (n : Option Bool) (xs : List Entry), Leq a (.sl n (rows encE xs)) ∧ xs.length ≤ 9223372036854775807 := by
  obtain ⟨n, xs, h1, _, h2, _⟩ := ty_slice encE (fun _ => True) (h.one_inv tabAt_32 rfl) tabAt_32 rfl fun r hr => by
    obtain ⟨b, rfl⟩ := ty_entry hr
    exact ⟨b, trivial, Leqs.refl _⟩
  exact ⟨n, xs, h2.2 0 (by simp), h1⟩

theorem ty_actions {a : AV} (h : TyArg tab 33 a) : ∃ (n : Option Bool) (xs : List Action), Leq a (.sl n (rows encA xs)) ∧ xs.length ≤ 9223372036854775807 := by
  obtain ⟨n, xs, h1, _, h2, _⟩ := ty_slice encA (fun _ => True) (h.one_inv tabAt_33 rfl) tabAt_33 rfl fun r hr => by
    obtain ⟨b, rfl⟩ := ty_action hr
    exact ⟨b, trivial, Leqs.refl _⟩
  exact ⟨n, xs, h2.2 0 (by simp), h1⟩

end Go.Proofs.Ytdaemhaecjldaaa

