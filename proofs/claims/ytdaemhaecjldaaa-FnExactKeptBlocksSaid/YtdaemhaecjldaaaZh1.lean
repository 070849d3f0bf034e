/- KeptBlocks, the program's and the reference's (part 1): W33, W36, W37, W38, W35, W39, W40, W41, C8, Ty1 -/
import Derived.Test.YtdaemhaecjldaaaRows
import Derived.ProofKit
import Derived.Test.YtdaemhaecjldaaaK5

/- Contracts: the laws' marks. -/
set_option linter.unusedSimpArgs false
set_option linter.unusedVariables false
set_option maxRecDepth 20000
set_option maxHeartbeats 4000000
namespace Go.Proofs.Ytdaemhaecjldaaa
open Go Go.RowKit

section
variable {α : Type} (e : α → List AV) (mk : α → Int → α) (st : α → Nat)

def stepS : List α → Nat
  | [] => 0
  | x :: r => st x + stepS r

/-- Elements that are marked one after the other, from k on. -/
def markS : List α → Int → List α
  | [], _ => []
  | x :: r, k => mk x k :: markS r (k + st x)

theorem markS_length : ∀ (xs : List α) (k : Int), (markS mk st xs k).length = xs.length
  | [], _ => rfl
  | x :: r, k => by simp [markS, markS_length r]

theorem stepS_take_succ : ∀ (xs : List α) (i : Nat) (h : i < xs.length), stepS st (xs.take (i + 1)) = stepS st (xs.take i) + st xs[i]
  | x :: r, 0, _ => by simp [stepS]
  | x :: r, i + 1, h => by
    have := stepS_take_succ r i (by simpa using h)
    simp only [List.take_succ_cons, stepS, List.getElem_cons_succ] at this ⊢
    omega

theorem stepS_le : ∀ (xs : List α) (i : Nat), stepS st (xs.take i) ≤ stepS st xs
  | [], _ => by simp [stepS]
  | x :: r, 0 => by simp [stepS]
  | x :: r, i + 1 => by
    have := stepS_le r i
    simp only [List.take_succ_cons, stepS]; omega

theorem stepS_lt (xs : List α) (i : Nat) (h : i < xs.length) : stepS st (xs.take i) + st xs[i] ≤ stepS st xs := by
  rw [← stepS_take_succ st xs i h]; exact stepS_le st xs (i + 1)

theorem markS_append : ∀ (xs ys : List α) (k : Int), markS mk st (xs ++ ys) k = markS mk st xs k ++ markS mk st ys (k + stepS st xs)
  | [], ys, k => by simp [markS, stepS]
  | x :: r, ys, k => by
    simp only [List.cons_append, markS, stepS, markS_append r ys]
    rw [show k + (st x : Int) + (stepS st r : Int) = k + ((st x + stepS st r : Nat) : Int) by omega]

theorem markS_take_succ (xs : List α) (i : Nat) (h : i < xs.length) (k : Int) : markS mk st (xs.take (i + 1)) k = markS mk st (xs.take i) k ++ [mk xs[i] (k + stepS st (xs.take i))] := by
  rw [take_snoc xs i h, markS_append]; rfl

theorem markS_get : ∀ (xs : List α) (i : Nat) (h : i < xs.length) (k : Int), (markS mk st xs k)[i]'(by rw [markS_length]; exact h) = mk xs[i] (k + stepS st (xs.take i))
  | x :: r, 0, _, k => by simp [markS, stepS]
  | x :: r, i + 1, h, k => by
    have := markS_get r i (by simpa using h) (k + st x)
    simp only [markS, List.getElem_cons_succ, List.take_succ_cons, stepS, this]
    rw [show k + (st x : Int) + (stepS st (r.take i) : Int) = k + ((st x + stepS st (r.take i) : Nat) : Int) by omega]

theorem markS_rget (xs : List α) (i : Nat) (k : Int) (h : i < xs.length) : (rows e (markS mk st xs k)).getD i [] = e (mk xs[i] (k + stepS st (xs.take i))) := by
  rw [rows_get _ _ _ (by rw [markS_length]; exact h), markS_get]

/-- The first i elements are marked. -/
def midS (xs : List α) (k : Int) (i : Nat) : List α := markS mk st (xs.take i) k ++ xs.drop i

theorem midS_zero (xs : List α) (k : Int) : midS mk st xs k 0 = xs := by simp [midS, markS]
theorem midS_len (xs : List α) (k : Int) : midS mk st xs k xs.length = markS mk st xs k := by simp [midS]
theorem midS_length (xs : List α) (k : Int) (i : Nat) (hi : i ≤ xs.length) : (midS mk st xs k i).length = xs.length := by
  simp [midS, markS_length]; omega
theorem midS_get (xs : List α) (k : Int) (i : Nat) (h : i < xs.length) : (rows e (midS mk st xs k i)).getD i [] = e xs[i] := by
  have hl : (markS mk st (xs.take i) k).length = i := by rw [markS_length, List.length_take]; omega
  have hl' : i < (midS mk st xs k i).length := by rw [midS_length _ _ _ _ _ (by omega)]; exact h
  rw [rows_get _ _ _ hl']
  congr 1
  have : (midS mk st xs k i)[i]? = some xs[i] := by
    unfold midS
    rw [List.getElem?_append_right (by omega), hl, Nat.sub_self]
    simp [h]
  exact Option.some.inj ((List.getElem?_eq_getElem hl').symm.trans this)
theorem midS_set (xs : List α) (k : Int) (i : Nat) (h : i < xs.length) : (rows e (midS mk st xs k i)).set i (e (mk xs[i] (k + stepS st (xs.take i)))) = rows e (midS mk st xs k (i + 1)) := by
  rw [rows_set]
  congr 1
  have hl : (markS mk st (xs.take i) k).length = i := by rw [markS_length, List.length_take]; omega
  unfold midS
  rw [List.set_append_right _ _ (by omega), hl, Nat.sub_self, drop_cons xs i h, List.set_cons_zero, markS_take_succ _ _ _ _ h, List.append_assoc]
  rfl
end

theorem set_same {α : Type} (l : List α) (i : Nat) (d : α) (h : i < l.length) (v : α) : (l.set i v).getD i d = v := by
  rw [set_getD _ _ _ _ _ h, if_pos rfl]

def mkE (_ : Entry) (k : Int) : Entry := ⟨k, k + 1⟩
def stE (_ : Entry) : Nat := 2
def mkA (_ : Action) (k : Int) : Action := ⟨k, k + 1, k + 1 + 1, k + 1 + 1 + 1⟩
def stA (_ : Action) : Nat := 4
def mkI (_ : Int) (k : Int) : Int := k
def stI (_ : Int) : Nat := 1

theorem c_laws_markEntryS (nn : Bool) (sz : Nat) (xs : List Entry) (k : Int) (hs : xs = [] ∨ sz = 2) (hx : xs.length < 2 ^ 62) (hk : 0 ≤ k ∧ k + stepS stE xs < 2 ^ 62) :
    FSpecM Try.prog 28 [.row 800 xs.length, .int .i64 k] [.osl nn sz (rows encE xs)] (fun r ls' => r = .int .i64 (k + stepS stE xs) ∧ ls' = [.osl nn sz (rows encE (markS mkE stE xs k))]) := by
  refine fspec_introM tab_ok Try.call28 Try.func28 rfl 27 Try.ntmps28 (of_decide_eq_true rfl) (of_decide_eq_true rfl) fun B => codeK_sound tab_ok _ _ _ ?_
  rcases hs with rfl | rfl
  · simp (config := { maxSteps := 4000000 }) only [go_sem, simprocAttr, ↓dnA, Try.f28]
    refine semL_for tab_ok (fun i : Nat => ⟨27, [(0, .row 800 0), (1, .int .i64 k), (5, .int .i64 0)], [(800, .row true nn sz (rows encE ([] : List Entry)))]⟩) (fun i => i) (fun _ => True) 0 [(800, 800)] (Weak.of (by rfl) ?_ ?_ (by rfl)) trivial ?_
    · simp (config := { maxSteps := 4000000 }) only [go_sem, simprocAttr, ↓dnA, Try.f28, frW, wk2, wk1, wkL, wkB, hpW, List.mem_cons, Prod.mk.injEq, exists_eq_left, exists_eq_right, exists_eq]
    · simp (config := { maxSteps := 4000000 }) only [go_sem, simprocAttr, ↓dnA, Try.f28, List.length_nil, nc0, frW, wk2, wk1, wkL, wkB, hpW, List.mem_cons, Prod.mk.injEq, exists_eq_left, exists_eq_right, exists_eq]
    · rintro i -
      simp (config := { maxSteps := 4000000 }) only [go_sem, simprocAttr, ↓dnA, Try.f28, List.length_nil, nc0, rows_length]
      simp [stepS, markS, rows]
  · simp (config := { maxSteps := 4000000 }) only [go_sem, simprocAttr, ↓dnA, Try.f28, rows_length]
    refine semL_for tab_ok (fun i : Nat => ⟨27, [(0, .row 800 xs.length), (1, .int .i64 (k + (stepS stE (xs.take i) : Int))), (5, .int .i64 i)], [(800, .row true nn 2 (rows encE (midS mkE stE xs k i)))]⟩) (fun i => xs.length - i)
      (fun i => i ≤ xs.length) 0 [(800, 800)] (Weak.of (by rfl) ?_ ?_ (by rfl)) (by omega) ?_
    · simp (config := { maxSteps := 4000000 }) only [go_sem, simprocAttr, ↓dnA, Try.f28, midS_zero, frW, wk2, wk1, wkL, wkB, hpW, List.mem_cons, Prod.mk.injEq, exists_eq_left, exists_eq_right, exists_eq]
    · simp (config := { maxSteps := 4000000 }) only [go_sem, simprocAttr, ↓dnA, Try.f28, List.take_zero, stepS, Int.add_zero, nc0, frW, wk2, wk1, wkL, wkB, hpW, List.mem_cons, Prod.mk.injEq, exists_eq_left, exists_eq_right, exists_eq]
    · rintro i hi
      by_cases h : i < xs.length
      · have hb := stepS_lt stE xs i h
        have hm : i < (rows encE (midS mkE stE xs k i)).length := by rw [rows_length, midS_length _ _ _ _ _ hi]; exact h
        have hst : stE xs[i] = 2 := rfl
        have hw1 : IntKind.i64.wrap ((k + (stepS stE (xs.take i) : Int)) + 1) = (k + (stepS stE (xs.take i) : Int)) + 1 := wrap_small _ (by omega) (by omega)
        have hw2 : IntKind.i64.wrap ((k + (stepS stE (xs.take i) : Int)) + 1 + 1) = (k + (stepS stE (xs.take i) : Int)) + 1 + 1 := wrap_small _ (by omega) (by omega)
        have hK : k + (stepS stE (xs.take (i + 1)) : Int) = (k + (stepS stE (xs.take i) : Int)) + 1 + 1 := by rw [stepS_take_succ _ _ _ h, hst]; omega
        simp (config := { maxSteps := 4000000 }) only [go_sem, simprocAttr, ↓dnA, Try.f28, rows_length, midS_length _ _ _ _ _ hi, List.length_set, nlt h, h, nn0, midS_get _ _ _ _ _ _ h, encE, set_same _ _ _ hm, List.set_set, spliceL, hw1, hw2, wsucc h hx]
        refine ⟨i + 1, [(800, 800)], by omega, by dsimp only; omega, Weak.of (by rfl) ?_ ?_ (by rfl)⟩
        · simp (config := { maxSteps := 4000000 }) only [go_sem, simprocAttr, ↓dnA, Try.f28, frW, wk2, wk1, wkL, wkB, hpW, List.mem_cons, Prod.mk.injEq, exists_eq_left, exists_eq_right, exists_eq]
          exact (midS_set encE mkE stE xs k i h).symm
        · simp (config := { maxSteps := 4000000 }) only [go_sem, simprocAttr, ↓dnA, Try.f28, hK, wsucc h hx, frW, wk2, wk1, wkL, wkB, hpW, List.mem_cons, Prod.mk.injEq, exists_eq_left, exists_eq_right, exists_eq]
      · have hi' : i = xs.length := by omega
        subst hi'
        simp (config := { maxSteps := 4000000 }) only [go_sem, simprocAttr, ↓dnA, Try.f28, nlf h, rows_length, midS_len, List.take_length, markS_length]

theorem c_laws_heldEntryS (n1 : Option Bool) (xs : List Entry) (k : Int) (hx : xs.length < 2 ^ 62) (hk : 0 ≤ k ∧ k + stepS stE xs < 2 ^ 62) :
    Det Try.prog 90 [.sl n1 (rows encE (markS mkE stE xs k)), .int .i64 k] (.int .i64 (k + stepS stE xs)) := by
  refine fspec_det tab_ok Try.call90 Try.func90 rfl 31 Try.ntmps90 (of_decide_eq_true rfl) fun B => codeK_sound tab_ok _ _ _ ?_
  simp (config := { maxSteps := 4000000 }) only [go_sem, simprocAttr, ↓dnA, Try.f90]
  refine semL_for tab_ok (fun i : Nat => ⟨31, [(0, .sl n1 (rows encE (markS mkE stE xs k))), (1, .int .i64 (k + (stepS stE (xs.take i) : Int))), (5, .int .i64 i)], []⟩) (fun i => xs.length - i)
    (fun i => i ≤ xs.length) 0 [] (Weak.of rfl trivial ?_ rfl) (by omega) ?_
  · simp (config := { maxSteps := 4000000 }) only [go_sem, simprocAttr, ↓dnA, Try.f90, List.take_zero, stepS, Int.add_zero, nc0, frW, wk2, wk1, wkL, wkB, hpW, List.mem_cons, Prod.mk.injEq, exists_eq_left, exists_eq_right, exists_eq]
  · rintro i hi
    by_cases h : i < xs.length
    · have hb := stepS_lt stE xs i h
      have hst : stE xs[i] = 2 := rfl
      have hw1 : IntKind.i64.wrap ((k + (stepS stE (xs.take i) : Int)) + 1) = (k + (stepS stE (xs.take i) : Int)) + 1 := wrap_small _ (by omega) (by omega)
      have hw2 : IntKind.i64.wrap ((k + (stepS stE (xs.take i) : Int)) + 1 + 1) = (k + (stepS stE (xs.take i) : Int)) + 1 + 1 := wrap_small _ (by omega) (by omega)
      have hK : k + (stepS stE (xs.take (i + 1)) : Int) = (k + (stepS stE (xs.take i) : Int)) + 1 + 1 := by rw [stepS_take_succ _ _ _ h, hst]; omega
      simp (config := { maxSteps := 4000000 }) only [go_sem, simprocAttr, ↓dnA, Try.f90, rows_length, markS_length, nlt h, h, nn0, markS_rget _ _ _ _ _ _ h, encE, mkE, hw1, hw2, wsucc h hx]
      refine ⟨i + 1, [], by omega, by dsimp only; omega, Weak.of rfl trivial ?_ rfl⟩
      simp (config := { maxSteps := 4000000 }) only [go_sem, simprocAttr, ↓dnA, Try.f90, hK, wsucc h hx, frW, wk2, wk1, wkL, wkB, hpW, List.mem_cons, Prod.mk.injEq, exists_eq_left, exists_eq_right, exists_eq]
    · have hi' : i = xs.length := by omega
      subst hi'
      simp (config := { maxSteps := 4000000 }) only [go_sem, simprocAttr, ↓dnA, Try.f90, nlf h, rows_length, List.take_length, markS_length]


theorem c_laws_markActionS (nn : Bool) (sz : Nat) (xs : List Action) (k : Int) (hs : xs = [] ∨ sz = 4) (hx : xs.length < 2 ^ 62) (hk : 0 ≤ k ∧ k + stepS stA xs < 2 ^ 62) :
    FSpecM Try.prog 29 [.row 800 xs.length, .int .i64 k] [.osl nn sz (rows encA xs)] (fun r ls' => r = .int .i64 (k + stepS stA xs) ∧ ls' = [.osl nn sz (rows encA (markS mkA stA xs k))]) := by
  refine fspec_introM tab_ok Try.call29 Try.func29 rfl 41 Try.ntmps29 (of_decide_eq_true rfl) (of_decide_eq_true rfl) fun B => codeK_sound tab_ok _ _ _ ?_
  rcases hs with rfl | rfl
  · simp (config := { maxSteps := 4000000 }) only [go_sem, simprocAttr, ↓dnA, Try.f29]
    refine semL_for tab_ok (fun i : Nat => ⟨41, [(0, .row 800 0), (1, .int .i64 k), (5, .int .i64 0)], [(800, .row true nn sz (rows encA ([] : List Action)))]⟩) (fun i => i) (fun _ => True) 0 [(800, 800)] (Weak.of (by rfl) ?_ ?_ (by rfl)) trivial ?_
    · simp (config := { maxSteps := 4000000 }) only [go_sem, simprocAttr, ↓dnA, Try.f29, frW, wk2, wk1, wkL, wkB, hpW, List.mem_cons, Prod.mk.injEq, exists_eq_left, exists_eq_right, exists_eq]
    · simp (config := { maxSteps := 4000000 }) only [go_sem, simprocAttr, ↓dnA, Try.f29, List.length_nil, nc0, frW, wk2, wk1, wkL, wkB, hpW, List.mem_cons, Prod.mk.injEq, exists_eq_left, exists_eq_right, exists_eq]
    · rintro i -
      simp (config := { maxSteps := 4000000 }) only [go_sem, simprocAttr, ↓dnA, Try.f29, List.length_nil, nc0, rows_length]
      simp [stepS, markS, rows]
  · simp (config := { maxSteps := 4000000 }) only [go_sem, simprocAttr, ↓dnA, Try.f29, rows_length]
    refine semL_for tab_ok (fun i : Nat => ⟨41, [(0, .row 800 xs.length), (1, .int .i64 (k + (stepS stA (xs.take i) : Int))), (5, .int .i64 i)], [(800, .row true nn 4 (rows encA (midS mkA stA xs k i)))]⟩) (fun i => xs.length - i)
      (fun i => i ≤ xs.length) 0 [(800, 800)] (Weak.of (by rfl) ?_ ?_ (by rfl)) (by omega) ?_
    · simp (config := { maxSteps := 4000000 }) only [go_sem, simprocAttr, ↓dnA, Try.f29, midS_zero, frW, wk2, wk1, wkL, wkB, hpW, List.mem_cons, Prod.mk.injEq, exists_eq_left, exists_eq_right, exists_eq]
    · simp (config := { maxSteps := 4000000 }) only [go_sem, simprocAttr, ↓dnA, Try.f29, List.take_zero, stepS, Int.add_zero, nc0, frW, wk2, wk1, wkL, wkB, hpW, List.mem_cons, Prod.mk.injEq, exists_eq_left, exists_eq_right, exists_eq]
    · rintro i hi
      by_cases h : i < xs.length
      · have hb := stepS_lt stA xs i h
        have hm : i < (rows encA (midS mkA stA xs k i)).length := by rw [rows_length, midS_length _ _ _ _ _ hi]; exact h
        have hst : stA xs[i] = 4 := rfl
        have hw1 : IntKind.i64.wrap ((k + (stepS stA (xs.take i) : Int)) + 1) = (k + (stepS stA (xs.take i) : Int)) + 1 := wrap_small _ (by omega) (by omega)
        have hw2 : IntKind.i64.wrap ((k + (stepS stA (xs.take i) : Int)) + 1 + 1) = (k + (stepS stA (xs.take i) : Int)) + 1 + 1 := wrap_small _ (by omega) (by omega)
        have hw3 : IntKind.i64.wrap ((k + (stepS stA (xs.take i) : Int)) + 1 + 1 + 1) = (k + (stepS stA (xs.take i) : Int)) + 1 + 1 + 1 := wrap_small _ (by omega) (by omega)
        have hw4 : IntKind.i64.wrap ((k + (stepS stA (xs.take i) : Int)) + 1 + 1 + 1 + 1) = (k + (stepS stA (xs.take i) : Int)) + 1 + 1 + 1 + 1 := wrap_small _ (by omega) (by omega)
        have hK : k + (stepS stA (xs.take (i + 1)) : Int) = (k + (stepS stA (xs.take i) : Int)) + 1 + 1 + 1 + 1 := by rw [stepS_take_succ _ _ _ h, hst]; omega
        simp (config := { maxSteps := 4000000 }) only [go_sem, simprocAttr, ↓dnA, Try.f29, rows_length, midS_length _ _ _ _ _ hi, List.length_set, nlt h, h, nn0, midS_get _ _ _ _ _ _ h, encA, set_same _ _ _ hm, List.set_set, spliceL, hw1, hw2, hw3, hw4, wsucc h hx]
        refine ⟨i + 1, [(800, 800)], by omega, by dsimp only; omega, Weak.of (by rfl) ?_ ?_ (by rfl)⟩
        · simp (config := { maxSteps := 4000000 }) only [go_sem, simprocAttr, ↓dnA, Try.f29, frW, wk2, wk1, wkL, wkB, hpW, List.mem_cons, Prod.mk.injEq, exists_eq_left, exists_eq_right, exists_eq]
          exact (midS_set encA mkA stA xs k i h).symm
        · simp (config := { maxSteps := 4000000 }) only [go_sem, simprocAttr, ↓dnA, Try.f29, hK, wsucc h hx, frW, wk2, wk1, wkL, wkB, hpW, List.mem_cons, Prod.mk.injEq, exists_eq_left, exists_eq_right, exists_eq]
      · have hi' : i = xs.length := by omega
        subst hi'
        simp (config := { maxSteps := 4000000 }) only [go_sem, simprocAttr, ↓dnA, Try.f29, nlf h, rows_length, midS_len, List.take_length, markS_length]

theorem c_laws_heldActionS (n1 : Option Bool) (xs : List Action) (k : Int) (hx : xs.length < 2 ^ 62) (hk : 0 ≤ k ∧ k + stepS stA xs < 2 ^ 62) :
    Det Try.prog 91 [.sl n1 (rows encA (markS mkA stA xs k)), .int .i64 k] (.int .i64 (k + stepS stA xs)) := by
  refine fspec_det tab_ok Try.call91 Try.func91 rfl 49 Try.ntmps91 (of_decide_eq_true rfl) fun B => codeK_sound tab_ok _ _ _ ?_
  simp (config := { maxSteps := 4000000 }) only [go_sem, simprocAttr, ↓dnA, Try.f91]
  refine semL_for tab_ok (fun i : Nat => ⟨49, [(0, .sl n1 (rows encA (markS mkA stA xs k))), (1, .int .i64 (k + (stepS stA (xs.take i) : Int))), (5, .int .i64 i)], []⟩) (fun i => xs.length - i)
    (fun i => i ≤ xs.length) 0 [] (Weak.of rfl trivial ?_ rfl) (by omega) ?_
  · simp (config := { maxSteps := 4000000 }) only [go_sem, simprocAttr, ↓dnA, Try.f91, List.take_zero, stepS, Int.add_zero, nc0, frW, wk2, wk1, wkL, wkB, hpW, List.mem_cons, Prod.mk.injEq, exists_eq_left, exists_eq_right, exists_eq]
  · rintro i hi
    by_cases h : i < xs.length
    · have hb := stepS_lt stA xs i h
      have hst : stA xs[i] = 4 := rfl
      have hw1 : IntKind.i64.wrap ((k + (stepS stA (xs.take i) : Int)) + 1) = (k + (stepS stA (xs.take i) : Int)) + 1 := wrap_small _ (by omega) (by omega)
      have hw2 : IntKind.i64.wrap ((k + (stepS stA (xs.take i) : Int)) + 1 + 1) = (k + (stepS stA (xs.take i) : Int)) + 1 + 1 := wrap_small _ (by omega) (by omega)
      have hw3 : IntKind.i64.wrap ((k + (stepS stA (xs.take i) : Int)) + 1 + 1 + 1) = (k + (stepS stA (xs.take i) : Int)) + 1 + 1 + 1 := wrap_small _ (by omega) (by omega)
      have hw4 : IntKind.i64.wrap ((k + (stepS stA (xs.take i) : Int)) + 1 + 1 + 1 + 1) = (k + (stepS stA (xs.take i) : Int)) + 1 + 1 + 1 + 1 := wrap_small _ (by omega) (by omega)
      have hK : k + (stepS stA (xs.take (i + 1)) : Int) = (k + (stepS stA (xs.take i) : Int)) + 1 + 1 + 1 + 1 := by rw [stepS_take_succ _ _ _ h, hst]; omega
      simp (config := { maxSteps := 4000000 }) only [go_sem, simprocAttr, ↓dnA, Try.f91, rows_length, markS_length, nlt h, h, nn0, markS_rget _ _ _ _ _ _ h, encA, mkA, hw1, hw2, hw3, hw4, wsucc h hx]
      refine ⟨i + 1, [], by omega, by dsimp only; omega, Weak.of rfl trivial ?_ rfl⟩
      simp (config := { maxSteps := 4000000 }) only [go_sem, simprocAttr, ↓dnA, Try.f91, hK, wsucc h hx, frW, wk2, wk1, wkL, wkB, hpW, List.mem_cons, Prod.mk.injEq, exists_eq_left, exists_eq_right, exists_eq]
    · have hi' : i = xs.length := by omega
      subst hi'
      simp (config := { maxSteps := 4000000 }) only [go_sem, simprocAttr, ↓dnA, Try.f91, nlf h, rows_length, List.take_length, markS_length]


theorem c_laws_markIntS (nn : Bool) (sz : Nat) (xs : List Int) (k : Int) (hs : xs = [] ∨ sz = 1) (hx : xs.length < 2 ^ 62) (hk : 0 ≤ k ∧ k + stepS stI xs < 2 ^ 62) :
    FSpecM Try.prog 62 [.row 800 xs.length, .int .i64 k] [.osl nn sz (rows encI xs)] (fun r ls' => r = .int .i64 (k + stepS stI xs) ∧ ls' = [.osl nn sz (rows encI (markS mkI stI xs k))]) := by
  refine fspec_introM tab_ok Try.call62 Try.func62 rfl 19 Try.ntmps62 (of_decide_eq_true rfl) (of_decide_eq_true rfl) fun B => codeK_sound tab_ok _ _ _ ?_
  rcases hs with rfl | rfl
  · simp (config := { maxSteps := 4000000 }) only [go_sem, simprocAttr, ↓dnA, Try.f62]
    refine semL_for tab_ok (fun i : Nat => ⟨19, [(0, .row 800 0), (1, .int .i64 k), (5, .int .i64 0)], [(800, .row true nn sz (rows encI ([] : List Int)))]⟩) (fun i => i) (fun _ => True) 0 [(800, 800)] (Weak.of (by rfl) ?_ ?_ (by rfl)) trivial ?_
    · simp (config := { maxSteps := 4000000 }) only [go_sem, simprocAttr, ↓dnA, Try.f62, frW, wk2, wk1, wkL, wkB, hpW, List.mem_cons, Prod.mk.injEq, exists_eq_left, exists_eq_right, exists_eq]
    · simp (config := { maxSteps := 4000000 }) only [go_sem, simprocAttr, ↓dnA, Try.f62, List.length_nil, nc0, frW, wk2, wk1, wkL, wkB, hpW, List.mem_cons, Prod.mk.injEq, exists_eq_left, exists_eq_right, exists_eq]
    · rintro i -
      simp (config := { maxSteps := 4000000 }) only [go_sem, simprocAttr, ↓dnA, Try.f62, List.length_nil, nc0, rows_length]
      simp [stepS, markS, rows]
  · simp (config := { maxSteps := 4000000 }) only [go_sem, simprocAttr, ↓dnA, Try.f62, rows_length]
    refine semL_for tab_ok (fun i : Nat => ⟨19, [(0, .row 800 xs.length), (1, .int .i64 (k + (stepS stI (xs.take i) : Int))), (5, .int .i64 i)], [(800, .row true nn 1 (rows encI (midS mkI stI xs k i)))]⟩) (fun i => xs.length - i)
      (fun i => i ≤ xs.length) 0 [(800, 800)] (Weak.of (by rfl) ?_ ?_ (by rfl)) (by omega) ?_
    · simp (config := { maxSteps := 4000000 }) only [go_sem, simprocAttr, ↓dnA, Try.f62, midS_zero, frW, wk2, wk1, wkL, wkB, hpW, List.mem_cons, Prod.mk.injEq, exists_eq_left, exists_eq_right, exists_eq]
    · simp (config := { maxSteps := 4000000 }) only [go_sem, simprocAttr, ↓dnA, Try.f62, List.take_zero, stepS, Int.add_zero, nc0, frW, wk2, wk1, wkL, wkB, hpW, List.mem_cons, Prod.mk.injEq, exists_eq_left, exists_eq_right, exists_eq]
    · rintro i hi
      by_cases h : i < xs.length
      · have hb := stepS_lt stI xs i h
        have hm : i < (rows encI (midS mkI stI xs k i)).length := by rw [rows_length, midS_length _ _ _ _ _ hi]; exact h
        have hst : stI xs[i] = 1 := rfl
        have hw1 : IntKind.i64.wrap ((k + (stepS stI (xs.take i) : Int)) + 1) = (k + (stepS stI (xs.take i) : Int)) + 1 := wrap_small _ (by omega) (by omega)
        have hK : k + (stepS stI (xs.take (i + 1)) : Int) = (k + (stepS stI (xs.take i) : Int)) + 1 := by rw [stepS_take_succ _ _ _ h, hst]; omega
        simp (config := { maxSteps := 4000000 }) only [go_sem, simprocAttr, ↓dnA, Try.f62, rows_length, midS_length _ _ _ _ _ hi, List.length_set, nlt h, h, nn0, midS_get _ _ _ _ _ _ h, encI, set_same _ _ _ hm, List.set_set, spliceL, hw1, wsucc h hx]
        refine ⟨i + 1, [(800, 800)], by omega, by dsimp only; omega, Weak.of (by rfl) ?_ ?_ (by rfl)⟩
        · simp (config := { maxSteps := 4000000 }) only [go_sem, simprocAttr, ↓dnA, Try.f62, frW, wk2, wk1, wkL, wkB, hpW, List.mem_cons, Prod.mk.injEq, exists_eq_left, exists_eq_right, exists_eq]
          exact (midS_set encI mkI stI xs k i h).symm
        · simp (config := { maxSteps := 4000000 }) only [go_sem, simprocAttr, ↓dnA, Try.f62, hK, wsucc h hx, frW, wk2, wk1, wkL, wkB, hpW, List.mem_cons, Prod.mk.injEq, exists_eq_left, exists_eq_right, exists_eq]
      · have hi' : i = xs.length := by omega
        subst hi'
        simp (config := { maxSteps := 4000000 }) only [go_sem, simprocAttr, ↓dnA, Try.f62, nlf h, rows_length, midS_len, List.take_length, markS_length]

theorem c_laws_heldIntS (n1 : Option Bool) (xs : List Int) (k : Int) (hx : xs.length < 2 ^ 62) (hk : 0 ≤ k ∧ k + stepS stI xs < 2 ^ 62) :
    Det Try.prog 63 [.sl n1 (rows encI (markS mkI stI xs k)), .int .i64 k] (.int .i64 (k + stepS stI xs)) := by
  refine fspec_det tab_ok Try.call63 Try.func63 rfl 21 Try.ntmps63 (of_decide_eq_true rfl) fun B => codeK_sound tab_ok _ _ _ ?_
  simp (config := { maxSteps := 4000000 }) only [go_sem, simprocAttr, ↓dnA, Try.f63]
  refine semL_for tab_ok (fun i : Nat => ⟨21, [(0, .sl n1 (rows encI (markS mkI stI xs k))), (1, .int .i64 (k + (stepS stI (xs.take i) : Int))), (5, .int .i64 i)], []⟩) (fun i => xs.length - i)
    (fun i => i ≤ xs.length) 0 [] (Weak.of rfl trivial ?_ rfl) (by omega) ?_
  · simp (config := { maxSteps := 4000000 }) only [go_sem, simprocAttr, ↓dnA, Try.f63, List.take_zero, stepS, Int.add_zero, nc0, frW, wk2, wk1, wkL, wkB, hpW, List.mem_cons, Prod.mk.injEq, exists_eq_left, exists_eq_right, exists_eq]
  · rintro i hi
    by_cases h : i < xs.length
    · have hb := stepS_lt stI xs i h
      have hst : stI xs[i] = 1 := rfl
      have hw1 : IntKind.i64.wrap ((k + (stepS stI (xs.take i) : Int)) + 1) = (k + (stepS stI (xs.take i) : Int)) + 1 := wrap_small _ (by omega) (by omega)
      have hK : k + (stepS stI (xs.take (i + 1)) : Int) = (k + (stepS stI (xs.take i) : Int)) + 1 := by rw [stepS_take_succ _ _ _ h, hst]; omega
      simp (config := { maxSteps := 4000000 }) only [go_sem, simprocAttr, ↓dnA, Try.f63, rows_length, markS_length, nlt h, h, nn0, markS_rget _ _ _ _ _ _ h, encI, mkI, hw1, wsucc h hx]
      refine ⟨i + 1, [], by omega, by dsimp only; omega, Weak.of rfl trivial ?_ rfl⟩
      simp (config := { maxSteps := 4000000 }) only [go_sem, simprocAttr, ↓dnA, Try.f63, hK, wsucc h hx, frW, wk2, wk1, wkL, wkB, hpW, List.mem_cons, Prod.mk.injEq, exists_eq_left, exists_eq_right, exists_eq]
    · have hi' : i = xs.length := by omega
      subst hi'
      simp (config := { maxSteps := 4000000 }) only [go_sem, simprocAttr, ↓dnA, Try.f63, nlf h, rows_length, List.take_length, markS_length]


end Go.Proofs.Ytdaemhaecjldaaa

/- Contracts: reversed lists, the way to a block. -/
set_option linter.unusedSimpArgs false
set_option linter.unusedVariables false
set_option maxRecDepth 20000
set_option maxHeartbeats 4000000
namespace Go.Proofs.Ytdaemhaecjldaaa
open Go Go.RowKit

/-- The first i elements are exchanged with the last i. -/
def revTo {α : Type} (xs : List α) (i : Nat) : List α := (xs.drop (xs.length - i)).reverse ++ ((xs.take (xs.length - i)).drop i) ++ (xs.take i).reverse

theorem revTo_zero {α : Type} (xs : List α) : revTo xs 0 = xs := by simp [revTo]
theorem revTo_length {α : Type} (xs : List α) (i : Nat) (h : 2 * i ≤ xs.length) : (revTo xs i).length = xs.length := by
  simp only [revTo, List.length_append, List.length_reverse, List.length_drop, List.length_take]; omega
theorem revTo_getElem {α : Type} (xs : List α) (i k : Nat) (h : 2 * i ≤ xs.length) (hk : k < xs.length) :
    (revTo xs i)[k]? = if k < i ∨ xs.length - i ≤ k then xs[xs.length - 1 - k]? else xs[k]? := by
  unfold revTo
  have l1 : ((xs.drop (xs.length - i)).reverse).length = i := by rw [List.length_reverse, List.length_drop]; omega
  have l2 : ((xs.take (xs.length - i)).drop i).length = xs.length - i - i := by rw [List.length_drop, List.length_take]; omega
  by_cases h1 : k < i
  · rw [if_pos (.inl h1), List.append_assoc, List.getElem?_append_left (by omega), List.getElem?_reverse (by rw [List.length_drop]; omega), List.length_drop, List.getElem?_drop]
    congr 1; omega
  · by_cases h2 : xs.length - i ≤ k
    · rw [if_pos (.inr h2), List.getElem?_append_right (by rw [List.length_append]; omega), List.length_append, l1, l2, List.getElem?_reverse (by rw [List.length_take]; omega), List.length_take, List.getElem?_take, if_pos (by omega)]
      congr 1; omega
    · rw [if_neg (by omega), List.append_assoc, List.getElem?_append_right (by omega), List.getElem?_append_left (by omega), List.getElem?_drop, List.getElem?_take, l1, if_pos (by omega)]
      congr 1; omega
theorem revTo_step {α : Type} (xs : List α) (i : Nat) (h : i < xs.length - 1 - i) :
    ((revTo xs i).set i (xs[xs.length - 1 - i]'(by omega))).set (xs.length - 1 - i) (xs[i]'(by omega)) = revTo xs (i + 1) := by
  apply List.ext_getElem?
  intro k
  have hl := revTo_length xs i (by omega)
  have hl' := revTo_length xs (i + 1) (by omega)
  by_cases hk : k < xs.length
  · rw [List.getElem?_set, List.getElem?_set, revTo_getElem xs i k (by omega) hk, revTo_getElem xs (i + 1) k (by omega) hk]
    simp only [List.length_set, hl]
    by_cases h1 : xs.length - 1 - i = k
    · subst h1
      rw [if_pos rfl, if_pos (by omega), if_pos (.inr (by omega)), show xs.length - 1 - (xs.length - 1 - i) = i by omega, List.getElem?_eq_getElem (by omega)]
    · rw [if_neg h1]
      by_cases h2 : i = k
      · subst h2
        rw [if_pos rfl, if_pos (by omega), if_pos (.inl (by omega)), List.getElem?_eq_getElem (by omega)]
      · rw [if_neg h2]
        by_cases h3 : k < i ∨ xs.length - i ≤ k
        · rw [if_pos h3, if_pos (by omega)]
        · rw [if_neg h3, if_neg (by omega)]
  · rw [List.getElem?_eq_none (by simp; omega), List.getElem?_eq_none (by omega)]
theorem revTo_full {α : Type} (xs : List α) (i : Nat) (h : ¬ i < xs.length - 1 - i) (h2 : 2 * i ≤ xs.length) : revTo xs i = xs.reverse := by
  apply List.ext_getElem?
  intro k
  by_cases hk : k < xs.length
  · rw [revTo_getElem xs i k h2 hk, List.getElem?_reverse hk]
    split
    · rfl
    · rw [show xs.length - 1 - k = k by omega]
  · rw [List.getElem?_eq_none (by rw [revTo_length xs i h2]; omega), List.getElem?_eq_none (by simp; omega)]

theorem c_slices_Reverse_int (nn : Bool) (xs : List Int) (hx : xs.length < 2 ^ 62) :
    FSpecM Try.prog 179 [.row 800 xs.length] [.osl nn 1 (rows encI xs)] (fun r ls' => r = .tup [] ∧ ls' = [.osl nn 1 (rows encI xs.reverse)]) := by
  refine fspec_introM tab_ok Try.call179 Try.func179 rfl 28 Try.ntmps179 (of_decide_eq_true rfl) (of_decide_eq_true rfl) fun B => codeK_sound tab_ok _ _ _ ?_
  have hw0 : IntKind.i64.wrap ((xs.length : Int) - 1) = (xs.length : Int) - 1 := wrap_small _ (by omega) (by omega)
  simp (config := { maxSteps := 4000000 }) only [go_sem, simprocAttr, ↓dnA, Try.f179, rows_length, hw0]
  refine semL_for tab_ok (fun i : Nat => ⟨28, [(0, .row 800 xs.length), (2, .int .i64 i), (3, .int .i64 ((xs.length : Int) - 1 - i))], [(800, .row true nn 1 (rows encI (revTo xs i)))]⟩) (fun i => xs.length - i)
    (fun i => 2 * i ≤ xs.length) 0 [(800, 800)] (Weak.of (by rfl) ?_ ?_ (by rfl)) (by omega) ?_
  · simp (config := { maxSteps := 4000000 }) only [go_sem, simprocAttr, ↓dnA, Try.f179, revTo_zero, frW, wk2, wk1, wkL, wkB, hpW, List.mem_cons, Prod.mk.injEq, exists_eq_left, exists_eq_right, exists_eq]
  · simp (config := { maxSteps := 4000000 }) only [go_sem, simprocAttr, ↓dnA, Try.f179, nc0, Int.sub_zero, frW, wk2, wk1, wkL, wkB, hpW, List.mem_cons, Prod.mk.injEq, exists_eq_left, exists_eq_right, exists_eq]
  · rintro i hi
    have hl := revTo_length xs i hi
    by_cases h : (i : Int) < (xs.length : Int) - 1 - i
    · have hi1 : i < xs.length := by omega
      obtain ⟨j, hj⟩ : ∃ j : Nat, (xs.length : Int) - 1 - i = (j : Int) := ⟨((xs.length : Int) - 1 - i).toNat, by omega⟩
      have hj1 : j < xs.length := by omega
      have hje : j = xs.length - 1 - i := by omega
      have hij : ((i : Int) < (j : Int)) = True := by simp; omega
      have gi : (rows encI (revTo xs i)).getD i [] = encI xs[i] := by
        have := revTo_getElem xs i i hi hi1
        rw [if_neg (by omega), List.getElem?_eq_getElem hi1, List.getElem?_eq_getElem (by omega)] at this
        rw [rows_get _ _ _ (by omega), Option.some.inj this]
      have gj : (rows encI (revTo xs i)).getD j [] = encI xs[j] := by
        have := revTo_getElem xs i j hi hj1
        rw [if_neg (by omega), List.getElem?_eq_getElem hj1, List.getElem?_eq_getElem (by omega)] at this
        rw [rows_get _ _ _ (by omega), Option.some.inj this]
      have hs : ((rows encI (revTo xs i)).set i [.int .i64 xs[j]]).set j [.int .i64 xs[i]] = rows encI (revTo xs (i + 1)) := by
        have h3 := revTo_step xs i (by omega)
        subst hje
        rw [← h3, ← rows_set, ← rows_set]
        rfl
      have hj2 : ((rows encI (revTo xs i)).set i [.int .i64 xs[j]]).getD j [] = encI xs[j] := by
        rw [set_getD _ _ _ _ _ (by rw [rows_length, hl]; exact hi1), if_neg (by omega)]; exact gj
      have hw1 : IntKind.i64.wrap ((j : Int) - 1) = (xs.length : Int) - 1 - ((i + 1 : Nat) : Int) := by rw [wrap_small _ (by omega) (by omega)]; omega
      simp (config := { maxSteps := 4000000 }) only [go_sem, simprocAttr, ↓dnA, Try.f179, hj, hij, rows_length, hl]
      refine semL_draw tab_ok mixed_ rfl (ord := [(0, []), (1, []), (2, []), (3, []), (4, []), (5, []), (6, []), (7, []), (8, []), (9, []), (10, []), (11, []), (12, []), (13, [2, 3]), (14, []), (15, [])]) (by dsimp only; decide +kernel) ?_
      simp (config := { maxSteps := 4000000 }) only [go_sem, simprocAttr, ↓dnA, Try.f179, hj, rows_length, hl, List.length_set, nlt hi1, nlt hj1, hi1, hj1, nn0, gi, gj, encI, spliceL, hj2, hw1, wsucc hi1 hx]
      refine ⟨i + 1, [(800, 800)], by omega, by dsimp only; omega, Weak.of (by rfl) ?_ ?_ (by rfl)⟩
      · simp (config := { maxSteps := 4000000 }) only [go_sem, simprocAttr, ↓dnA, Try.f179, frW, wk2, wk1, wkL, wkB, hpW, List.mem_cons, Prod.mk.injEq, exists_eq_left, exists_eq_right, exists_eq]
        exact hs.symm
      · simp (config := { maxSteps := 4000000 }) only [go_sem, simprocAttr, ↓dnA, Try.f179, frW, wk2, wk1, wkL, wkB, hpW, List.mem_cons, Prod.mk.injEq, exists_eq_left, exists_eq_right, exists_eq]
    · simp (config := { maxSteps := 4000000 }) only [go_sem, simprocAttr, ↓dnA, Try.f179, eq_false h, rows_length, hl, revTo_full xs i (by omega) hi, List.length_reverse]

end Go.Proofs.Ytdaemhaecjldaaa

/- Contracts: the way to a block. -/
set_option linter.unusedSimpArgs false
set_option linter.unusedVariables false
set_option maxRecDepth 20000
set_option maxHeartbeats 4000000
namespace Go.Proofs.Ytdaemhaecjldaaa
open Go Go.RowKit

/-- The numbers of the blocks from one back to the first, at most f of them. -/
def backF (t : Tree) : Nat → Int → List Int
  | 0, _ => []
  | f + 1, n => if n < 0 then [] else n :: backF t f (t.bef n.toNat)
def back (t : Tree) (n : Int) : List Int := backF t (n.toNat + 1) n
def pathL (t : Tree) (n : Int) : List Int := (back t n).reverse

theorem backF_eq {t : Tree} (ht : TreeOk t) : ∀ (f : Nat) (n : Int), n < t.blocks.length → n + 1 ≤ f → backF t f n = back t n
  | 0, n, _, hf => by
    unfold back
    rw [show backF t 0 n = [] from rfl]
    unfold backF
    rw [if_pos (by omega)]
  | f + 1, n, hn, hf => by
    unfold back
    by_cases h : n < 0
    · unfold backF; rw [if_pos h, if_pos h]
    · unfold backF
      rw [if_neg h, if_neg h]
      obtain ⟨k, rfl⟩ : ∃ k : Nat, n = (k : Int) := ⟨n.toNat, by omega⟩
      rw [Int.toNat_natCast]
      have hb : t.bef k < k := by
        by_cases hk : k = 0
        · subst hk; rw [ht.bef0]; omega
        · exact (ht.link k (by omega) (by omega)).hi
      congr 1
      by_cases h2 : t.bef k < 0
      · have h0 : ∀ g, backF t g (t.bef k) = [] := fun g => by
          cases g with
          | zero => rfl
          | succ g => unfold backF; rw [if_pos h2]
        rw [h0, h0]
      · rw [backF_eq ht f (t.bef k) (by omega) (by omega), backF_eq ht k (t.bef k) (by omega) (by omega)]
termination_by f => f

theorem back_neg (t : Tree) (n : Int) (h : n < 0) : back t n = [] := by unfold back backF; rw [if_pos h]
theorem back_cons {t : Tree} (ht : TreeOk t) (k : Nat) (h : k < t.blocks.length) : back t (k : Int) = (k : Int) :: back t (t.bef k) ∧ t.bef k < k ∧ (t.bef k = -1 ∨ 0 ≤ t.bef k) := by
  have hb : t.bef k < k ∧ (t.bef k = -1 ∨ 0 ≤ t.bef k) := by
    by_cases hk : k = 0
    · subst hk; rw [ht.bef0]; omega
    · have := ht.link k (by omega) h
      exact ⟨this.hi, .inr this.lo⟩
  refine ⟨?_, hb⟩
  conv => lhs; unfold back backF
  rw [if_neg (by omega), Int.toNat_natCast]
  congr 1
  by_cases h2 : t.bef k < 0
  · rw [back_neg _ _ h2]
    cases k with
    | zero => rfl
    | succ k => unfold backF; rw [if_pos h2]
  · exact backF_eq ht k _ (by omega) (by omega)

theorem back_len {t : Tree} (ht : TreeOk t) : ∀ (m : Nat) (n : Int), n < m → n < t.blocks.length → ((back t n).length : Int) ≤ n + 1 ∨ n < 0
  | 0, n, h, _ => .inr (by omega)
  | m + 1, n, h, hn => by
    by_cases h0 : n < 0
    · exact .inr h0
    · obtain ⟨k, rfl⟩ : ∃ k : Nat, n = (k : Int) := ⟨n.toNat, by omega⟩
      obtain ⟨h1, h2, h3⟩ := back_cons ht k (by omega)
      rw [h1, List.length_cons]
      rcases back_len ht m (t.bef k) (by omega) (by omega) with h4 | h4
      · exact .inl (by omega)
      · rw [back_neg _ _ h4]; exact .inl (by simp; omega)

theorem pathL_len {t : Tree} (ht : TreeOk t) {n : Int} (hn : n < t.blocks.length) : (pathL t n).length ≤ 14 := by
  have h1 := back_len ht (n.toNat + 1) n (by omega) hn
  have h2 := ht.len
  unfold pathL
  rw [List.length_reverse]
  rcases h1 with h1 | h1
  · omega
  · rw [back_neg _ _ h1]; simp

theorem c_impl_path (n1 n2 n3 : Option Bool) (t : Tree) (n : Int) (ht : TreeOk t) (hx : TreeSz t) (hn : n < t.blocks.length) :
    Det Try.prog 139 [.agg (encT n1 n2 n3 t), .int .i64 n] (.osl false 1 (rows encI (pathL t n))) := by
  refine fspec_det tab_ok Try.call139 Try.func139 rfl 20 Try.ntmps139 (of_decide_eq_true rfl) fun B => codeK_sound tab_ok _ _ _ ?_
  have hlen := ht.len
  simp (config := { maxSteps := 4000000 }) only [go_sem, simprocAttr, ↓dnA, Try.f139, encT]
  refine semL_nilA 5 5 1 true (by rfl) (by rfl) (by decide) (by decide) ?_
  refine semL_for tab_ok (fun p : Int × List Int => ⟨20, [(1, .int .i64 p.1), (2, .loc 2 0), (5, .row 5 p.2.length)], [(2, .var (encT n1 n2 n3 t)), (5, .row true false 1 (rows encI p.2))]⟩) (fun p => (p.1 + 1).toNat)
    (fun p => p.1 < t.blocks.length ∧ p.2.length + (p.1 + 1).toNat ≤ 30 ∧ p.2 ++ back t p.1 = back t n) (n, []) [(2, 2), (5, 5)] (Weak.of (by rfl) ?_ ?_ (by rfl)) ⟨hn, by simp; omega, rfl⟩ ?_
  · simp (config := { maxSteps := 4000000 }) only [go_sem, simprocAttr, ↓dnA, Try.f139, encT, frW, wk2, wk1, wkL, wkB, hpW, List.mem_cons, Prod.mk.injEq, exists_eq_left, exists_eq_right, exists_eq]
    rfl
  · simp (config := { maxSteps := 4000000 }) only [go_sem, simprocAttr, ↓dnA, Try.f139, frW, wk2, wk1, wkL, wkB, hpW, List.mem_cons, Prod.mk.injEq, exists_eq_left, exists_eq_right, exists_eq]
  · rintro ⟨m, acc⟩ ⟨hm, hac, hp⟩
    dsimp only at hm hac hp
    have htk := take_rows encI acc acc.length rfl
    by_cases h : m < 0
    · have hd : decide (m ≥ 0) = false := by simp; omega
      rw [back_neg _ _ h, List.append_nil] at hp
      subst hp
      simp (config := { maxSteps := 4000000 }) only [go_sem, simprocAttr, ↓dnA, Try.f139, hd, rows_length, List.nodup_cons]
      refine CallMTo.of (c_slices_Reverse_int false (back t n) (by omega)) ?_
      rintro r ls' ⟨rfl, rfl⟩
      simp (config := { maxSteps := 4000000 }) only [go_sem, simprocAttr, ↓dnA, Try.f139, rows_length, List.length_reverse, pathL]
    · have hd : decide (m ≥ 0) = true := by simp; omega
      obtain ⟨k, rfl⟩ : ∃ k : Nat, m = (k : Int) := ⟨m.toNat, by omega⟩
      have hk : k < t.blocks.length := by omega
      have hkb : k < t.before.length := by rw [ht.bef]; exact hk
      obtain ⟨h1, h2, h3⟩ := back_cons ht k hk
      have g1 : (rows encI t.before).getD k [] = encI (t.bef k) := by rw [rows_get _ _ k hkb, t.bef_get k hkb]
      simp (config := { maxSteps := 4000000 }) only [go_sem, simprocAttr, ↓dnA, Try.f139, encT, hd, rows_length, htk, nn0, nlt hkb, g1, encI]
      repeat refine And.intro (by first | omega | (simp; done) | (simp; omega) | assumption) ?_
      refine ⟨(t.bef k, acc ++ [(k : Int)]), [(2, 2), (16, 5)], ⟨by dsimp only; omega, by simp; omega, by rw [← hp, h1]; simp⟩, by dsimp only; omega, Weak.of (by rfl) ?_ ?_ (by rfl)⟩
      · simp (config := { maxSteps := 4000000 }) only [go_sem, simprocAttr, ↓dnA, Try.f139, encT, frW, wk2, wk1, wkL, wkB, hpW, List.mem_cons, Prod.mk.injEq, exists_eq_left, exists_eq_right, exists_eq]
        exact (rows_snoc encI _ _).symm
      · simp (config := { maxSteps := 4000000 }) only [go_sem, simprocAttr, ↓dnA, Try.f139, List.length_append, frW, wk2, wk1, wkL, wkB, hpW, List.mem_cons, Prod.mk.injEq, exists_eq_left, exists_eq_right, exists_eq]

theorem flatI (xs : List Int) : ((rows encI xs).all fun r => r.all AV.flat) = true := by
  simp [rows, encI, AV.flat]
theorem oneI (xs : List Int) : ((rows encI xs).all fun r => r.all AV.one) = true := by
  simp [rows, encI, AV.one]
theorem sz0I (xs : List Int) : xs.length = 0 ∨ ((rows encI xs).getD 0 []).length = 1 := by
  cases xs with
  | nil => exact .inl rfl
  | cons x r => exact .inr rfl

open Classical in
/-- The way to a block of a valid tree. -/
noncomputable def pathTo (t : Tree) (n : Int) : List Int := if treeValid t = true ∧ 0 ≤ n ∧ n < t.blocks.length then pathL t n else []

theorem c_spec_PathTo (n1 n2 n3 : Option Bool) (t : Tree) (n : Int) (hx : TreeSz t) :
    Det Try.prog 178 [.agg (encT n1 n2 n3 t), .int .i64 n] (.osl true 1 (rows encI (pathTo t n))) := by
  refine fspec_det tab_ok Try.call178 Try.func178 rfl 27 Try.ntmps178 (of_decide_eq_true rfl) fun B => codeK_sound tab_ok _ _ _ ?_
  have hb := hx.blocks
  have hw : IntKind.i64.wrap ((t.blocks.length : Int) - 1) = (t.blocks.length : Int) - 1 := wrap_small _ (by omega) (by omega)
  simp (config := { maxSteps := 4000000 }) only [go_sem, simprocAttr, ↓dnA, Try.f178, encT]
  by_cases hok : treeValid t = true ∧ 0 ≤ n ∧ n < t.blocks.length
  · obtain ⟨h0, hn0, hn⟩ := hok
    have ht := treeOk_of h0
    have hlen := ht.len
    have hp0 : pathTo t n = pathL t n := by unfold pathTo; rw [if_pos ⟨h0, hn0, hn⟩]
    rw [hp0]
    refine semL_for tab_ok (fun p : Int × List Int => ⟨27, [(1, .int .i64 p.1), (2, .loc 2 0), (5, .row 6 p.2.length)], [(2, .var (encT n1 n2 n3 t)), (6, .row true true 1 (rows encI p.2))]⟩) (fun p => (p.1 + 1).toNat)
      (fun p => p.1 < t.blocks.length ∧ (p.1 = -1 ∨ 0 ≤ p.1) ∧ p.2.length + (p.1 + 1).toNat ≤ 30 ∧ (back t p.1).reverse ++ p.2 = pathL t n) (n, []) [(2, 2), (6, 6)] (Weak.of (by rfl) ?_ ?_ (by rfl)) ⟨hn, .inr hn0, by simp; omega, by simp [pathL]⟩ ?_
    · simp (config := { maxSteps := 4000000 }) only [go_sem, simprocAttr, ↓dnA, Try.f178, encT, frW, wk2, wk1, wkL, wkB, hpW, List.mem_cons, Prod.mk.injEq, exists_eq_left, exists_eq_right, exists_eq]
      rfl
    · simp (config := { maxSteps := 4000000 }) only [go_sem, simprocAttr, ↓dnA, Try.f178, frW, wk2, wk1, wkL, wkB, hpW, List.mem_cons, Prod.mk.injEq, exists_eq_left, exists_eq_right, exists_eq]
    · rintro ⟨m, acc⟩ ⟨hm, hm1, hac, hp⟩
      dsimp only at hm hm1 hac hp
      have htk := take_rows encI acc acc.length rfl
      simp (config := { maxSteps := 4000000 }) only [go_sem, simprocAttr, ↓dnA, Try.f178, encT]
      refine CallTo.det (c_spec_BlockTreeValid n1 n2 n3 t hx) fun _ => ?_
      simp (config := { maxSteps := 4000000 }) only [go_sem, simprocAttr, ↓dnA, Try.f178, encT, h0, rows_length, hw]
      refine CallTo.det (c_l1In _ _ _) fun _ => ?_
      rcases hm1 with rfl | hm1
      · have hd : inB (-1) 0 ((t.blocks.length : Int) - 1) = false := by simp [inB]
        rw [back_neg _ _ (by omega), List.reverse_nil, List.nil_append] at hp
        simp (config := { maxSteps := 4000000 }) only [go_sem, simprocAttr, ↓dnA, Try.f178, encT, h0, rows_length, hw, hd, hp]
      · have hd : inB m 0 ((t.blocks.length : Int) - 1) = true := inB_iff.2 (by omega)
        obtain ⟨k, rfl⟩ : ∃ k : Nat, m = (k : Int) := ⟨m.toNat, by omega⟩
        have hk : k < t.blocks.length := by omega
        have hkb : k < t.before.length := by rw [ht.bef]; exact hk
        obtain ⟨h1, h2, h3⟩ := back_cons ht k hk
        have g1 : (rows encI t.before).getD k [] = encI (t.bef k) := by rw [rows_get _ _ k hkb, t.bef_get k hkb]
        have hfl := flatI acc
        have hon := oneI acc
        have hsz := sz0I acc
        simp (config := { maxSteps := 4000000 }) only [go_sem, simprocAttr, ↓dnA, Try.f178, encT, h0, rows_length, hw, hd, htk, nn0, nlt hkb, g1, encI]
        repeat refine And.intro (by first | omega | (simp; done) | (simp; omega) | assumption) ?_
        refine ⟨(t.bef k, (k : Int) :: acc), [(2, 2), (20, 6)], ⟨by dsimp only; omega, h3, by simp; omega, by rw [← hp, h1]; simp⟩, by dsimp only; omega, Weak.of (by rfl) ?_ ?_ (by rfl)⟩
        · simp (config := { maxSteps := 4000000 }) only [go_sem, simprocAttr, ↓dnA, Try.f178, encT, frW, wk2, wk1, wkL, wkB, hpW, List.mem_cons, Prod.mk.injEq, exists_eq_left, exists_eq_right, exists_eq]
          try rfl
        · simp (config := { maxSteps := 4000000 }) only [go_sem, simprocAttr, ↓dnA, Try.f178, List.length_cons, frW, wk2, wk1, wkL, wkB, hpW, List.mem_cons, Prod.mk.injEq, exists_eq_left, exists_eq_right, exists_eq]
          rw [Nat.add_comm]
  · have hp0 : pathTo t n = [] := by unfold pathTo; rw [if_neg hok]
    rw [hp0]
    refine semL_for tab_ok (fun _ : Nat => ⟨27, [(1, .int .i64 n), (2, .loc 2 0), (5, .row 6 0)], [(2, .var (encT n1 n2 n3 t)), (6, .row true true 1 (rows encI []))]⟩) (fun i => i) (fun _ => True) 0 [(2, 2), (6, 6)] (Weak.of (by rfl) ?_ ?_ (by rfl)) trivial ?_
    · simp (config := { maxSteps := 4000000 }) only [go_sem, simprocAttr, ↓dnA, Try.f178, encT, frW, wk2, wk1, wkL, wkB, hpW, List.mem_cons, Prod.mk.injEq, exists_eq_left, exists_eq_right, exists_eq]
      rfl
    · simp (config := { maxSteps := 4000000 }) only [go_sem, simprocAttr, ↓dnA, Try.f178, frW, wk2, wk1, wkL, wkB, hpW, List.mem_cons, Prod.mk.injEq, exists_eq_left, exists_eq_right, exists_eq]
    · rintro i -
      simp (config := { maxSteps := 4000000 }) only [go_sem, simprocAttr, ↓dnA, Try.f178, encT]
      refine CallTo.det (c_spec_BlockTreeValid n1 n2 n3 t hx) fun _ => ?_
      cases h0 : treeValid t with
      | false => simp (config := { maxSteps := 4000000 }) only [go_sem, simprocAttr, ↓dnA, Try.f178, encT, h0, rows_length, List.length_nil]
      | true =>
        simp (config := { maxSteps := 4000000 }) only [go_sem, simprocAttr, ↓dnA, Try.f178, encT, h0, rows_length, hw]
        refine CallTo.det (c_l1In _ _ _) fun _ => ?_
        have hd : inB n 0 ((t.blocks.length : Int) - 1) = false := by
          cases e : inB n 0 ((t.blocks.length : Int) - 1) with
          | false => rfl
          | true =>
            have := inB_iff.1 e
            exact absurd ⟨h0, by omega, by omega⟩ hok
        simp (config := { maxSteps := 4000000 }) only [go_sem, simprocAttr, ↓dnA, Try.f178, encT, h0, rows_length, hw, hd, List.length_nil]

noncomputable def isBefore (t : Tree) (a b : Int) : Bool := (pathTo t b).any fun x => a == x

theorem pathTo_len (t : Tree) (n : Int) : (pathTo t n).length ≤ 14 := by
  unfold pathTo
  split
  · rename_i h
    exact pathL_len (treeOk_of h.1) h.2.2
  · simp

theorem c_spec_IsBefore (n1 n2 n3 : Option Bool) (t : Tree) (a b : Int) (hx : TreeSz t) :
    Det Try.prog 138 [.agg (encT n1 n2 n3 t), .int .i64 a, .int .i64 b] (.bool (isBefore t a b)) := by
  refine fspec_det tab_ok Try.call138 Try.func138 rfl 24 Try.ntmps138 (of_decide_eq_true rfl) fun B => codeK_sound tab_ok _ _ _ ?_
  have hlen := pathTo_len t b
  simp (config := { maxSteps := 4000000 }) only [go_sem, simprocAttr, ↓dnA, Try.f138, encT]
  refine CallTo.det (c_spec_PathTo n1 n2 n3 t b hx) fun _ => ?_
  simp (config := { maxSteps := 4000000 }) only [go_sem, simprocAttr, ↓dnA, Try.f138, encT, rows_length]
  unfold isBefore
  generalize pathTo t b = xs at hlen ⊢
  refine semL_for tab_ok (fun i : Nat => ⟨24, [(1, .int .i64 a), (7, .row 12000 xs.length), (8, .int .i64 i)], [(12000, .row true true 1 (rows encI xs))]⟩) (fun i => xs.length - i)
    (fun i => i ≤ xs.length ∧ (xs.drop i).any (fun x => a == x) = xs.any fun x => a == x) 0 [(12000, 12000)] (Weak.of (by rfl) ?_ ?_ (by rfl)) ⟨by omega, rfl⟩ ?_
  · simp (config := { maxSteps := 4000000 }) only [go_sem, simprocAttr, ↓dnA, Try.f138, frW, wk2, wk1, wkL, wkB, hpW, List.mem_cons, Prod.mk.injEq, exists_eq_left, exists_eq_right, exists_eq]
  · simp (config := { maxSteps := 4000000 }) only [go_sem, simprocAttr, ↓dnA, Try.f138, frW, wk2, wk1, wkL, wkB, hpW, List.mem_cons, Prod.mk.injEq, exists_eq_left, exists_eq_right, exists_eq]
  · rintro i ⟨hi, hp⟩
    by_cases h : i < xs.length
    · rw [drop_cons xs i h, List.any_cons] at hp
      cases h1 : (xs[i] == a) with
      | true =>
        have h2 : (a == xs[i]) = true := by rw [beq_iff_eq] at h1 ⊢; exact h1.symm
        rw [h2, Bool.true_or] at hp
        simp (config := { maxSteps := 4000000 }) only [go_sem, simprocAttr, ↓dnA, Try.f138, rows_length, rows_get _ _ _ h, encI, nlt h, h, nn0, h1, ← hp]
      | false =>
        have h2 : (a == xs[i]) = false := by
          rw [beq_eq_false_iff_ne] at h1 ⊢; exact fun e => h1 e.symm
        rw [h2, Bool.false_or] at hp
        simp (config := { maxSteps := 4000000 }) only [go_sem, simprocAttr, ↓dnA, Try.f138, rows_length, rows_get _ _ _ h, encI, nlt h, h, nn0, h1, wsucc h (show xs.length < 2 ^ 62 by omega)]
        refine ⟨i + 1, [(12000, 12000)], ⟨by omega, hp⟩, by dsimp only; omega, Weak.of (by rfl) ?_ ?_ (by rfl)⟩
        · simp (config := { maxSteps := 4000000 }) only [go_sem, simprocAttr, ↓dnA, Try.f138, frW, wk2, wk1, wkL, wkB, hpW, List.mem_cons, Prod.mk.injEq, exists_eq_left, exists_eq_right, exists_eq]
        · simp (config := { maxSteps := 4000000 }) only [go_sem, simprocAttr, ↓dnA, Try.f138, frW, wk2, wk1, wkL, wkB, hpW, List.mem_cons, Prod.mk.injEq, exists_eq_left, exists_eq_right, exists_eq]
    · have hi' : i = xs.length := by omega
      subst hi'
      rw [List.drop_length, List.any_nil] at hp
      simp (config := { maxSteps := 4000000 }) only [go_sem, simprocAttr, ↓dnA, Try.f138, rows_length, nlf h, ← hp]

end Go.Proofs.Ytdaemhaecjldaaa

/- Contracts: leaves, and the blocks that are kept. -/
set_option linter.unusedSimpArgs false
set_option linter.unusedVariables false
set_option maxRecDepth 20000
set_option maxHeartbeats 4000000
namespace Go.Proofs.Ytdaemhaecjldaaa
open Go Go.RowKit

/-- The numbers from i on, f of them, for which p holds. -/
def fltF (p : Nat → Bool) : Nat → Nat → List Int
  | 0, _ => []
  | f + 1, i => if p i then (i : Int) :: fltF p f (i + 1) else fltF p f (i + 1)

theorem fltF_len (p : Nat → Bool) : ∀ (f i : Nat), (fltF p f i).length ≤ f
  | 0, _ => by simp [fltF]
  | f + 1, i => by
    have := fltF_len p f (i + 1)
    unfold fltF
    split
    · simp; omega
    · omega

theorem fltF_step (p : Nat → Bool) (n i : Nat) (h : i < n) : fltF p (n - i) i = (if p i then [(i : Int)] else []) ++ fltF p (n - (i + 1)) (i + 1) := by
  rw [show n - i = (n - (i + 1)) + 1 by omega]
  conv => lhs; unfold fltF
  split <;> simp

def leafB (t : Tree) (n : Nat) : Bool := !t.before.any fun x => (n : Int) == x
noncomputable def leaves_ (t : Tree) : List Int := if treeValid t then fltF (leafB t) t.blocks.length 0 else []

theorem c_impl_LeavesOf (n1 n2 n3 : Option Bool) (t : Tree) (hx : TreeSz t) : Det Try.prog 59 [.agg (encT n1 n2 n3 t)] (.osl false 1 (rows encI (leaves_ t))) := by
  refine fspec_det tab_ok Try.call59 Try.func59 rfl 25 Try.ntmps59 (of_decide_eq_true rfl) fun B => codeK_sound tab_ok _ _ _ ?_
  unfold leaves_
  simp (config := { maxSteps := 4000000 }) only [go_sem, simprocAttr, ↓dnA, Try.f59, encT]
  refine CallTo.det (c_impl_BlockTreeValid n1 n2 n3 t hx) fun _ => ?_
  cases h0 : treeValid t with
  | false => simp (config := { maxSteps := 4000000 }) only [go_sem, simprocAttr, ↓dnA, Try.f59, encT, h0, rows_nil]
  | true =>
    have ht := treeOk_of h0
    have hlen := ht.len
    simp (config := { maxSteps := 4000000 }) only [go_sem, simprocAttr, ↓dnA, Try.f59, encT, h0, rows_length]
    refine semL_nilA 3 3 1 true (by rfl) (by rfl) (by decide) (by decide) ?_
    refine semL_for tab_ok (fun p : Nat × List Int => ⟨25, [(1, .loc 1 0), (3, .row 3 p.2.length), (10, .int .i64 t.blocks.length), (11, .int .i64 p.1)], [(1, .var (encT n1 n2 n3 t)), (3, .row true false 1 (rows encI p.2))]⟩) (fun p => t.blocks.length - p.1)
      (fun p => p.1 ≤ t.blocks.length ∧ p.2.length ≤ p.1 ∧ p.2 ++ fltF (leafB t) (t.blocks.length - p.1) p.1 = fltF (leafB t) t.blocks.length 0) (0, []) [(1, 1), (3, 3)] (Weak.of (by rfl) ?_ ?_ (by rfl)) ⟨by omega, by simp, rfl⟩ ?_
    · simp (config := { maxSteps := 4000000 }) only [go_sem, simprocAttr, ↓dnA, Try.f59, encT, frW, wk2, wk1, wkL, wkB, hpW, List.mem_cons, Prod.mk.injEq, exists_eq_left, exists_eq_right, exists_eq]
      try rfl
    · simp (config := { maxSteps := 4000000 }) only [go_sem, simprocAttr, ↓dnA, Try.f59, frW, wk2, wk1, wkL, wkB, hpW, List.mem_cons, Prod.mk.injEq, exists_eq_left, exists_eq_right, exists_eq]
    · rintro ⟨i, acc⟩ ⟨hi, hac, hp⟩
      dsimp only at hi hac hp
      have htk := take_rows encI acc acc.length rfl
      by_cases h : i < t.blocks.length
      · have hw : IntKind.i64.wrap ((i : Int) + 1) = ((i + 1 : Nat) : Int) := wsucc h hx.blocks
        rw [fltF_step _ _ _ h] at hp
        simp (config := { maxSteps := 4000000 }) only [go_sem, simprocAttr, ↓dnA, Try.f59, encT, nlt h]
        refine CallTo.det (c_slices_Contains_int n3 t.before (i : Int) hx.before) fun _ => ?_
        cases h1 : (t.before.any fun x => (i : Int) == x) with
        | true =>
          have hl : leafB t i = false := by unfold leafB; rw [h1]; rfl
          rw [hl, if_neg Bool.false_ne_true, List.nil_append] at hp
          simp (config := { maxSteps := 4000000 }) only [go_sem, simprocAttr, ↓dnA, Try.f59, encT, nlt h, h1, hw]
          refine ⟨(i + 1, acc), [(1, 1), (3, 3)], ⟨by dsimp only; omega, by dsimp only; omega, hp⟩, by dsimp only; omega, Weak.of (by rfl) ?_ ?_ (by rfl)⟩
          · simp (config := { maxSteps := 4000000 }) only [go_sem, simprocAttr, ↓dnA, Try.f59, encT, frW, wk2, wk1, wkL, wkB, hpW, List.mem_cons, Prod.mk.injEq, exists_eq_left, exists_eq_right, exists_eq]
          · simp (config := { maxSteps := 4000000 }) only [go_sem, simprocAttr, ↓dnA, Try.f59, frW, wk2, wk1, wkL, wkB, hpW, List.mem_cons, Prod.mk.injEq, exists_eq_left, exists_eq_right, exists_eq]
        | false =>
          have hl : leafB t i = true := by unfold leafB; rw [h1]; rfl
          rw [hl, if_pos rfl] at hp
          simp (config := { maxSteps := 4000000 }) only [go_sem, simprocAttr, ↓dnA, Try.f59, encT, nlt h, h1, hw, htk, rows_length]
          repeat refine And.intro (by first | omega | (simp; done) | (simp; omega) | assumption) ?_
          refine ⟨(i + 1, acc ++ [(i : Int)]), [(1, 1), (22, 3)], ⟨by dsimp only; omega, by simp; omega, by rw [← hp]; simp⟩, by dsimp only; omega, Weak.of (by rfl) ?_ ?_ (by rfl)⟩
          · simp (config := { maxSteps := 4000000 }) only [go_sem, simprocAttr, ↓dnA, Try.f59, encT, frW, wk2, wk1, wkL, wkB, hpW, List.mem_cons, Prod.mk.injEq, exists_eq_left, exists_eq_right, exists_eq]
            exact (rows_snoc encI _ _).symm
          · simp (config := { maxSteps := 4000000 }) only [go_sem, simprocAttr, ↓dnA, Try.f59, List.length_append, frW, wk2, wk1, wkL, wkB, hpW, List.mem_cons, Prod.mk.injEq, exists_eq_left, exists_eq_right, exists_eq]
      · have hi' : i = t.blocks.length := by omega
        subst hi'
        rw [Nat.sub_self, show fltF (leafB t) 0 t.blocks.length = [] from rfl, List.append_nil] at hp
        simp (config := { maxSteps := 4000000 }) only [go_sem, simprocAttr, ↓dnA, Try.f59, encT, nlf h, rows_length, hp]

theorem c_spec_LeavesOf (n1 n2 n3 : Option Bool) (t : Tree) (hx : TreeSz t) : Det Try.prog 58 [.agg (encT n1 n2 n3 t)] (.osl true 1 (rows encI (leaves_ t))) := by
  refine fspec_det tab_ok Try.call58 Try.func58 rfl 42 Try.ntmps58 (of_decide_eq_true rfl) fun B => codeK_sound tab_ok _ _ _ ?_
  have hbk := hx.blocks
  simp (config := { maxSteps := 4000000 }) only [go_sem, simprocAttr, ↓dnA, Try.f58, encT]
  by_cases h0 : treeValid t = true
  · have hlv : leaves_ t = fltF (leafB t) t.blocks.length 0 := by unfold leaves_; rw [if_pos h0]
    rw [hlv]
    have ht := treeOk_of h0
    have hlen := ht.len
    refine semL_for tab_ok (fun p : Nat × List Int => ⟨42, [(1, .loc 1 0), (3, .row 7 p.2.length), (4, .int .i64 p.1)], [(1, .var (encT n1 n2 n3 t)), (7, .row true true 1 (rows encI p.2))]⟩) (fun p => t.blocks.length - p.1)
      (fun p => p.1 ≤ t.blocks.length ∧ p.2.length ≤ p.1 ∧ p.2 ++ fltF (leafB t) (t.blocks.length - p.1) p.1 = fltF (leafB t) t.blocks.length 0) (0, []) [(1, 1), (7, 7)] (Weak.of (by rfl) ?_ ?_ (by rfl)) ⟨by omega, by simp, rfl⟩ ?_
    · simp (config := { maxSteps := 4000000 }) only [go_sem, simprocAttr, ↓dnA, Try.f58, encT, frW, wk2, wk1, wkL, wkB, hpW, List.mem_cons, Prod.mk.injEq, exists_eq_left, exists_eq_right, exists_eq]
      try rfl
    · simp (config := { maxSteps := 4000000 }) only [go_sem, simprocAttr, ↓dnA, Try.f58, frW, wk2, wk1, wkL, wkB, hpW, List.mem_cons, Prod.mk.injEq, exists_eq_left, exists_eq_right, exists_eq]
    · rintro ⟨i, acc⟩ ⟨hi, hac, hp⟩
      dsimp only at hi hac hp
      have htk := take_rows encI acc acc.length rfl
      simp (config := { maxSteps := 4000000 }) only [go_sem, simprocAttr, ↓dnA, Try.f58, encT]
      refine CallTo.det (c_spec_BlockTreeValid n1 n2 n3 t hx) fun _ => ?_
      by_cases h : i < t.blocks.length
      · have hw : IntKind.i64.wrap ((i : Int) + 1) = ((i + 1 : Nat) : Int) := wsucc h hx.blocks
        rw [fltF_step _ _ _ h] at hp
        simp (config := { maxSteps := 4000000 }) only [go_sem, simprocAttr, ↓dnA, Try.f58, encT, h0, rows_length, decide_eq_true (show (i : Int) < (t.blocks.length : Int) by omega)]
        refine semL_for tab_ok (fun k : Nat => ⟨42, [(1, .loc 1 0), (3, .row 7 acc.length), (4, .int .i64 i), (5, .bool (!(t.before.take k).any fun x => (i : Int) == x)), (6, .int .i64 k)], [(1, .var (encT n1 n2 n3 t)), (7, .row true true 1 (rows encI acc))]⟩) (fun k => t.before.length - k)
          (fun k => k ≤ t.before.length) 0 [(1, 1), (7, 7)] (Weak.of (by rfl) ?_ ?_ (by rfl)) (by omega) ?_
        · simp (config := { maxSteps := 4000000 }) only [go_sem, simprocAttr, ↓dnA, Try.f58, encT, frW, wk2, wk1, wkL, wkB, hpW, List.mem_cons, Prod.mk.injEq, exists_eq_left, exists_eq_right, exists_eq]
        · simp (config := { maxSteps := 4000000 }) only [go_sem, simprocAttr, ↓dnA, Try.f58, List.take_zero, List.any_nil, frW, wk2, wk1, wkL, wkB, hpW, List.mem_cons, Prod.mk.injEq, exists_eq_left, exists_eq_right, exists_eq]
        · rintro k hk
          by_cases h2 : k < t.before.length
          · have hs : (!(t.before.take (k + 1)).any fun x => (i : Int) == x) = ((!(t.before.take k).any fun x => (i : Int) == x) && (t.before[k] != (i : Int))) := by
              have e : (t.before[k] != (i : Int)) = !((i : Int) == t.before[k]) := by
                have e' : (t.before[k] == (i : Int)) = ((i : Int) == t.before[k]) := by rw [Bool.eq_iff_iff, beq_iff_eq, beq_iff_eq]; exact ⟨fun h => h.symm, fun h => h.symm⟩
                rw [bne, e']
              rw [take_snoc _ _ h2, List.any_append, List.any_cons, List.any_nil, Bool.or_false, Bool.not_or, e]
            cases h3 : (!(t.before.take k).any fun x => (i : Int) == x) with
            | false =>
              rw [h3, Bool.false_and] at hs
              simp (config := { maxSteps := 4000000 }) only [go_sem, simprocAttr, ↓dnA, Try.f58, encT, rows_length, nlt h2, h3, wsucc h2 hx.before]
              refine ⟨k + 1, [(1, 1), (7, 7)], by omega, by dsimp only; omega, Weak.of (by rfl) ?_ ?_ (by rfl)⟩
              · simp (config := { maxSteps := 4000000 }) only [go_sem, simprocAttr, ↓dnA, Try.f58, encT, frW, wk2, wk1, wkL, wkB, hpW, List.mem_cons, Prod.mk.injEq, exists_eq_left, exists_eq_right, exists_eq]
              · simp (config := { maxSteps := 4000000 }) only [go_sem, simprocAttr, ↓dnA, Try.f58, hs, frW, wk2, wk1, wkL, wkB, hpW, List.mem_cons, Prod.mk.injEq, exists_eq_left, exists_eq_right, exists_eq]
            | true =>
              rw [h3, Bool.true_and] at hs
              simp (config := { maxSteps := 4000000 }) only [go_sem, simprocAttr, ↓dnA, Try.f58, encT, rows_length, rows_get _ _ _ h2, encI, nn0, nlt h2, h3, wsucc h2 hx.before]
              refine ⟨k + 1, [(1, 1), (7, 7)], by omega, by dsimp only; omega, Weak.of (by rfl) ?_ ?_ (by rfl)⟩
              · simp (config := { maxSteps := 4000000 }) only [go_sem, simprocAttr, ↓dnA, Try.f58, encT, frW, wk2, wk1, wkL, wkB, hpW, List.mem_cons, Prod.mk.injEq, exists_eq_left, exists_eq_right, exists_eq]
              · simp (config := { maxSteps := 4000000 }) only [go_sem, simprocAttr, ↓dnA, Try.f58, hs, frW, wk2, wk1, wkL, wkB, hpW, List.mem_cons, Prod.mk.injEq, exists_eq_left, exists_eq_right, exists_eq]
          · have hk' : k = t.before.length := by omega
            subst hk'
            have hll : (!t.before.any fun x => (i : Int) == x) = leafB t i := rfl
            cases h1 : leafB t i with
            | false =>
              rw [h1, if_neg Bool.false_ne_true, List.nil_append] at hp
              simp (config := { maxSteps := 4000000 }) only [go_sem, simprocAttr, ↓dnA, Try.f58, encT, rows_length, nlf h2, hll, h1, hw]
              refine ⟨(i + 1, acc), [(1, 1), (7, 7)], ⟨by dsimp only; omega, by dsimp only; omega, hp⟩, by dsimp only; omega, Weak.of (by rfl) ?_ ?_ (by rfl)⟩
              · simp (config := { maxSteps := 4000000 }) only [go_sem, simprocAttr, ↓dnA, Try.f58, encT, frW, wk2, wk1, wkL, wkB, hpW, List.mem_cons, Prod.mk.injEq, exists_eq_left, exists_eq_right, exists_eq]
              · simp (config := { maxSteps := 4000000 }) only [go_sem, simprocAttr, ↓dnA, Try.f58, frW, wk2, wk1, wkL, wkB, hpW, List.mem_cons, Prod.mk.injEq, exists_eq_left, exists_eq_right, exists_eq]
            | true =>
              rw [h1, if_pos rfl] at hp
              simp (config := { maxSteps := 4000000 }) only [go_sem, simprocAttr, ↓dnA, Try.f58, encT, rows_length, nlf h2, hll, h1, hw, htk]
              repeat refine And.intro (by first | omega | (simp; done) | (simp; omega) | assumption) ?_
              refine ⟨(i + 1, acc ++ [(i : Int)]), [(1, 1), (40, 7)], ⟨by dsimp only; omega, by simp; omega, by rw [← hp]; simp⟩, by dsimp only; omega, Weak.of (by rfl) ?_ ?_ (by rfl)⟩
              · simp (config := { maxSteps := 4000000 }) only [go_sem, simprocAttr, ↓dnA, Try.f58, encT, frW, wk2, wk1, wkL, wkB, hpW, List.mem_cons, Prod.mk.injEq, exists_eq_left, exists_eq_right, exists_eq]
                exact (rows_snoc encI _ _).symm
              · simp (config := { maxSteps := 4000000 }) only [go_sem, simprocAttr, ↓dnA, Try.f58, List.length_append, frW, wk2, wk1, wkL, wkB, hpW, List.mem_cons, Prod.mk.injEq, exists_eq_left, exists_eq_right, exists_eq]
      · have hi' : i = t.blocks.length := by omega
        subst hi'
        rw [Nat.sub_self, show fltF (leafB t) 0 t.blocks.length = [] from rfl, List.append_nil] at hp
        simp (config := { maxSteps := 4000000 }) only [go_sem, simprocAttr, ↓dnA, Try.f58, encT, h0, rows_length, decide_eq_false h, nlf h, hp]
  · have hlv : leaves_ t = [] := by unfold leaves_; rw [if_neg h0]
    rw [hlv]
    have h0' : treeValid t = false := by simpa using h0
    refine semL_for tab_ok (fun _ : Nat => ⟨42, [(1, .loc 1 0), (3, .row 7 0), (4, .int .i64 0)], [(1, .var (encT n1 n2 n3 t)), (7, .row true true 1 (rows encI []))]⟩) (fun i => i) (fun _ => True) 0 [(1, 1), (7, 7)] (Weak.of (by rfl) ?_ ?_ (by rfl)) trivial ?_
    · simp (config := { maxSteps := 4000000 }) only [go_sem, simprocAttr, ↓dnA, Try.f58, encT, frW, wk2, wk1, wkL, wkB, hpW, List.mem_cons, Prod.mk.injEq, exists_eq_left, exists_eq_right, exists_eq]
      try rfl
    · simp (config := { maxSteps := 4000000 }) only [go_sem, simprocAttr, ↓dnA, Try.f58, frW, wk2, wk1, wkL, wkB, hpW, List.mem_cons, Prod.mk.injEq, exists_eq_left, exists_eq_right, exists_eq]
    · rintro i -
      simp (config := { maxSteps := 4000000 }) only [go_sem, simprocAttr, ↓dnA, Try.f58, encT]
      refine CallTo.det (c_spec_BlockTreeValid n1 n2 n3 t hx) fun _ => ?_
      simp (config := { maxSteps := 4000000 }) only [go_sem, simprocAttr, ↓dnA, Try.f58, encT, h0', rows_length, List.length_nil]

end Go.Proofs.Ytdaemhaecjldaaa

/- Contracts: the laws' marks of blocks and trees. -/
set_option linter.unusedSimpArgs false
set_option linter.unusedVariables false
set_option maxRecDepth 20000
set_option maxHeartbeats 4000000
namespace Go.Proofs.Ytdaemhaecjldaaa
open Go Go.RowKit

theorem stepS_const {α : Type} (st : α → Nat) (c : Nat) (h : ∀ x, st x = c) : ∀ xs : List α, stepS st xs = c * xs.length
  | [] => by simp [stepS]
  | x :: r => by rw [stepS, stepS_const st c h r, h x, List.length_cons, Nat.mul_add, Nat.mul_one, Nat.add_comm]

theorem sz_of {α : Type} (e : α → List AV) (xs : List α) (n sz : Nat) (he : ∀ x, (e x).length = n) (h : ∀ r ∈ rows e xs, r.length = sz) : xs = [] ∨ sz = n := by
  cases xs with
  | nil => exact .inl rfl
  | cons x r => exact .inr ((h (e x) (by simp [rows])).symm.trans (he x))

def mkB (b : Block) (k : Int) : Block :=
  ⟨k, k + 1, k + 1 + 1, markS mkA stA b.list (k + 1 + 1 + 1), k + 1 + 1 + 1 + (stepS stA b.list : Int), k + 1 + 1 + 1 + (stepS stA b.list : Int) + 1⟩
def stB (b : Block) : Nat := 5 + stepS stA b.list

theorem c_laws_markBlockS (nn : Bool) (xs : List Block) (k : Int) (hx : xs.length < 2 ^ 62) (hk : 0 ≤ k ∧ k + stepS stB xs < 2 ^ 62) :
    FSpecM Try.prog 126 [.row 800 xs.length, .int .i64 k] [.osl nn 6 (rows encB1 xs)] (fun r ls' => r = .int .i64 (k + stepS stB xs) ∧ ls' = [.osl nn 6 (rows encB1 (markS mkB stB xs k))]) := by
  refine fspec_introM tab_ok Try.call126 Try.func126 rfl 55 Try.ntmps126 (of_decide_eq_true rfl) (of_decide_eq_true rfl) fun B => codeK_sound tab_ok _ _ _ ?_
  simp (config := { maxSteps := 4000000 }) only [go_sem, simprocAttr, ↓dnA, Try.f126, rows_length]
  refine semL_for tab_ok (fun i : Nat => ⟨55, [(0, .row 800 xs.length), (1, .int .i64 (k + (stepS stB (xs.take i) : Int))), (5, .int .i64 i)], [(800, .row true nn 6 (rows encB1 (midS mkB stB xs k i)))]⟩) (fun i => xs.length - i)
    (fun i => i ≤ xs.length) 0 [(800, 800)] (Weak.of (by rfl) ?_ ?_ (by rfl)) (by omega) ?_
  · simp (config := { maxSteps := 4000000 }) only [go_sem, simprocAttr, ↓dnA, Try.f126, midS_zero, frW, wk2, wk1, wkL, wkB, hpW, List.mem_cons, Prod.mk.injEq, exists_eq_left, exists_eq_right, exists_eq]
  · simp (config := { maxSteps := 4000000 }) only [go_sem, simprocAttr, ↓dnA, Try.f126, List.take_zero, stepS, Int.add_zero, nc0, frW, wk2, wk1, wkL, wkB, hpW, List.mem_cons, Prod.mk.injEq, exists_eq_left, exists_eq_right, exists_eq]
  · rintro i hi
    by_cases h : i < xs.length
    · have hb := stepS_lt stB xs i h
      have hm : i < (rows encB1 (midS mkB stB xs k i)).length := by rw [rows_length, midS_length _ _ _ _ _ hi]; exact h
      have hst : stB xs[i] = 5 + stepS stA xs[i].list := rfl
      have hl4 := stepS_const stA 4 (fun _ => rfl) xs[i].list
      have hK : k + (stepS stB (xs.take (i + 1)) : Int) = k + (stepS stB (xs.take i) : Int) + 1 + 1 + 1 + (stepS stA xs[i].list : Int) + 1 + 1 := by rw [stepS_take_succ _ _ _ h, hst]; omega
      have hs := midS_set encB1 mkB stB xs k i h
      unfold mkB at hs
      generalize hKe : k + (stepS stB (xs.take i) : Int) = K at *
      have hw1 : IntKind.i64.wrap (K + 1) = K + 1 := wrap_small _ (by omega) (by omega)
      have hw2 : IntKind.i64.wrap (K + 1 + 1) = K + 1 + 1 := wrap_small _ (by omega) (by omega)
      have hw3 : IntKind.i64.wrap (K + 1 + 1 + 1) = K + 1 + 1 + 1 := wrap_small _ (by omega) (by omega)
      have hw4 : IntKind.i64.wrap (K + 1 + 1 + 1 + (stepS stA xs[i].list : Int) + 1) = K + 1 + 1 + 1 + (stepS stA xs[i].list : Int) + 1 := wrap_small _ (by omega) (by omega)
      have hw5 : IntKind.i64.wrap (K + 1 + 1 + 1 + (stepS stA xs[i].list : Int) + 1 + 1) = K + 1 + 1 + 1 + (stepS stA xs[i].list : Int) + 1 + 1 := wrap_small _ (by omega) (by omega)
      simp (config := { maxSteps := 4000000 }) only [go_sem, simprocAttr, ↓dnA, Try.f126, rows_length, midS_length _ _ _ _ _ hi, List.length_set, nlt h, h, nn0, midS_get _ _ _ _ _ _ h, encB1, encBk, set_same _ _ _ hm, List.set_set, spliceL, hw1, hw2, hw3]
      intro sz2 hz2 hl2
      refine CallMTo.of (c_laws_markActionS false sz2 xs[i].list (K + 1 + 1 + 1) (sz_of encA xs[i].list 4 sz2 (fun _ => rfl) hl2) (by omega) (by omega)) ?_
      rintro r ls' ⟨rfl, rfl⟩ es2' he
      simp only [List.cons.injEq, AV.osl.injEq, and_true, true_and] at he
      subst he
      have hs' : (rows encB1 (midS mkB stB xs k i)).set i [.int .i64 K, .int .i64 (K + 1), .int .i64 (K + 1 + 1), .sl none (rows encA (markS mkA stA xs[i].list (K + 1 + 1 + 1))), .int .i64 (K + 1 + 1 + 1 + (stepS stA xs[i].list : Int)), .int .i64 (K + 1 + 1 + 1 + (stepS stA xs[i].list : Int) + 1)] = rows encB1 (midS mkB stB xs k (i + 1)) := hs
      simp (config := { maxSteps := 4000000 }) only [go_sem, simprocAttr, ↓dnA, Try.f126, rows_length, midS_length _ _ _ _ _ hi, List.length_set, nlt h, h, nn0, midS_get _ _ _ _ _ _ h, encB1, encBk, set_same _ _ _ hm, List.set_set, spliceL, hw4, hw5, wsucc h hx]
      refine ⟨i + 1, [(800, 800)], by omega, by dsimp only; omega, Weak.of (by rfl) ?_ ?_ (by rfl)⟩
      · simp (config := { maxSteps := 4000000 }) only [go_sem, simprocAttr, ↓dnA, Try.f126, frW, wk2, wk1, wkL, wkB, hpW, List.mem_cons, Prod.mk.injEq, exists_eq_left, exists_eq_right, exists_eq]
        exact hs'.symm
      · simp (config := { maxSteps := 4000000 }) only [go_sem, simprocAttr, ↓dnA, Try.f126, hK, wsucc h hx, frW, wk2, wk1, wkL, wkB, hpW, List.mem_cons, Prod.mk.injEq, exists_eq_left, exists_eq_right, exists_eq]
    · have hi' : i = xs.length := by omega
      subst hi'
      simp (config := { maxSteps := 4000000 }) only [go_sem, simprocAttr, ↓dnA, Try.f126, nlf h, rows_length, midS_len, List.take_length, markS_length]

def stT (t : Tree) : Nat := stepS stE t.base + stepS stB t.blocks + stepS stI t.before
def mkT (t : Tree) (k : Int) : Tree :=
  ⟨markS mkE stE t.base k, markS mkB stB t.blocks (k + (stepS stE t.base : Int)), markS mkI stI t.before (k + (stepS stE t.base : Int) + (stepS stB t.blocks : Int))⟩

theorem c_laws_markBlockTree (n1 n2 n3 : Bool) (t : Tree) (k : Int) (hx : TreeSz t) (hk : 0 ≤ k ∧ k + stT t < 2 ^ 62) :
    FSpecM Try.prog 61 [.agg [.row 800 t.base.length, .row 801 t.blocks.length, .row 802 t.before.length], .int .i64 k] [.osl n1 2 (rows encE t.base), .osl n2 6 (rows encB1 t.blocks), .osl n3 1 (rows encI t.before)]
      (fun r ls' => r = .int .i64 (k + stT t) ∧ ls' = [.osl n1 2 (rows encE (mkT t k).base), .osl n2 6 (rows encB1 (mkT t k).blocks), .osl n3 1 (rows encI (mkT t k).before)]) := by
  refine fspec_introM tab_ok Try.call61 Try.func61 rfl 18 Try.ntmps61 (of_decide_eq_true rfl) (of_decide_eq_true rfl) fun B => codeK_sound tab_ok _ _ _ ?_
  unfold stT at hk ⊢
  have he : k + ((stepS stE t.base + stepS stB t.blocks + stepS stI t.before : Nat) : Int) = k + (stepS stE t.base : Int) + (stepS stB t.blocks : Int) + (stepS stI t.before : Int) := by omega
  simp (config := { maxSteps := 4000000 }) only [go_sem, simprocAttr, ↓dnA, Try.f61, List.nodup_cons, rows_length]
  refine CallMTo.of (c_laws_markEntryS n1 2 t.base k (.inr rfl) hx.base ⟨hk.1, by omega⟩) ?_
  rintro r ls' ⟨rfl, rfl⟩
  simp (config := { maxSteps := 4000000 }) only [go_sem, simprocAttr, ↓dnA, Try.f61, List.nodup_cons, rows_length]
  refine CallMTo.of (c_laws_markBlockS n2 t.blocks _ hx.blocks ⟨by omega, by omega⟩) ?_
  rintro r ls' ⟨rfl, rfl⟩
  simp (config := { maxSteps := 4000000 }) only [go_sem, simprocAttr, ↓dnA, Try.f61, List.nodup_cons, rows_length]
  refine CallMTo.of (c_laws_markIntS n3 1 t.before _ (.inr rfl) hx.before ⟨by omega, by omega⟩) ?_
  rintro r ls' ⟨rfl, rfl⟩
  simp (config := { maxSteps := 4000000 }) only [go_sem, simprocAttr, ↓dnA, Try.f61, List.nodup_cons, rows_length, markS_length, mkT, he]

theorem c_laws_markBlock (nn : Bool) (b : Block) (k : Int) (hx : b.list.length < 2 ^ 62) (hk : 0 ≤ k ∧ k + stepS stA b.list < 2 ^ 62) :
    FSpecM Try.prog 56 [.agg [.int .i64 b.before, .int .i64 b.height, .int .i64 b.view, .row 800 b.list.length, .int .i64 b.root, .int .i64 b.effects], .int .i64 k] [.osl nn 4 (rows encA b.list)]
      (fun r ls' => r = .int .i64 (k + stepS stA b.list) ∧ ls' = [.osl nn 4 (rows encA (markS mkA stA b.list k))]) := by
  refine fspec_introM tab_ok Try.call56 Try.func56 rfl 10 Try.ntmps56 (of_decide_eq_true rfl) (of_decide_eq_true rfl) fun B => codeK_sound tab_ok _ _ _ ?_
  simp (config := { maxSteps := 4000000 }) only [go_sem, simprocAttr, ↓dnA, Try.f56, List.nodup_cons, rows_length]
  refine CallMTo.of (c_laws_markActionS nn 4 b.list k (.inr rfl) hx hk) ?_
  rintro r ls' ⟨rfl, rfl⟩
  simp (config := { maxSteps := 4000000 }) only [go_sem, simprocAttr, ↓dnA, Try.f56, List.nodup_cons, rows_length, markS_length]

theorem c_laws_heldBlock (n : Option Bool) (b : Block) (k : Int) (hx : b.list.length < 2 ^ 62) (hk : 0 ≤ k ∧ k + stepS stA b.list < 2 ^ 62) :
    Det Try.prog 57 [.agg (encBk n { b with list := markS mkA stA b.list k }), .int .i64 k] (.int .i64 (k + stepS stA b.list)) := by
  refine fspec_det tab_ok Try.call57 Try.func57 rfl 12 Try.ntmps57 (of_decide_eq_true rfl) fun B => codeK_sound tab_ok _ _ _ ?_
  have d1 : decide (k + (stepS stA b.list : Int) < 0) = false := by simp; omega
  unfold encBk
  simp (config := { maxSteps := 4000000 }) only [go_sem, simprocAttr, ↓dnA, Try.f57, List.nodup_cons]
  refine CallTo.det (c_laws_heldActionS n b.list k hx hk) fun _ => ?_
  simp (config := { maxSteps := 4000000 }) only [go_sem, simprocAttr, ↓dnA, Try.f57, List.nodup_cons, d1]

end Go.Proofs.Ytdaemhaecjldaaa

/- Contracts: FnExactLeavesOf. -/
set_option linter.unusedSimpArgs false
set_option linter.unusedVariables false
set_option maxRecDepth 20000
set_option maxHeartbeats 4000000
namespace Go.Proofs.Ytdaemhaecjldaaa
open Go Go.RowKit

theorem stB_sum : ∀ bs : List Block, stepS stB bs = 5 * bs.length + 4 * lsum bs
  | [] => rfl
  | b :: r => by
    have h1 := stepS_const stA 4 (fun _ => rfl) b.list
    have h2 := stB_sum r
    unfold stepS lsum
    rw [h2, List.length_cons]
    show 5 + stepS stA b.list + _ = _
    rw [h1]; omega

/-- The marks of a tree of a law's size stay small. -/
theorem stT_small {t : Tree} (h : TreeS32 t) : stT t ≤ 5 * 1048576 := by
  have h0 := h.sum
  unfold tsz at h0
  unfold stT
  rw [stepS_const stE 2 (fun _ => rfl), stepS_const stI 1 (fun _ => rfl), stB_sum]
  omega

theorem intsEq (xs : List Int) : decide (xs = xs) = true := by simp

theorem c_laws_FnExactLeavesOf (n1 n2 n3 : Option Bool) (t : Tree) (hx : TreeLen t) :
    Det Try.prog 10 [.agg (encT n1 n2 n3 t)] (.bool true) := by
  refine fspec_det tab_ok Try.call10 Try.func10 rfl 69 Try.ntmps10 (of_decide_eq_true rfl) fun B => codeK_sound tab_ok _ _ _ ?_
  obtain ⟨r, hr, _, hT, hE⟩ := c_laws_szBlockTree n1 n2 n3 t 1048576 hx (by omega)
  simp (config := { maxSteps := 4000000 }) only [go_sem, simprocAttr, ↓dnA, Try.f10, encT, encTO, List.nodup_cons, rows_length, markS_length]
  refine CallTo.det hr fun _ => ?_
  cases h2 : decide (r < 0) with
  | true => simp (config := { maxSteps := 4000000 }) only [go_sem, simprocAttr, ↓dnA, Try.f10, encT, encTO, List.nodup_cons, rows_length, markS_length, h2]
  | false =>
    have hs := hT (by have := of_decide_eq_false h2; omega)
    have hst := stT_small hs
    have hll : (leaves_ t).length ≤ 1048576 := by
      unfold leaves_
      split
      · have := fltF_len (leafB t) t.blocks.length 0
        have := hs.sum
        unfold tsz at this; omega
      · simp
    simp (config := { maxSteps := 4000000 }) only [go_sem, simprocAttr, ↓dnA, Try.f10, encT, encTO, List.nodup_cons, rows_length, markS_length, h2]
    refine CallTo.det (c_laws_toBlockTree n1 n2 n3 t hs) fun _ => ?_
    simp (config := { maxSteps := 4000000 }) only [go_sem, simprocAttr, ↓dnA, Try.f10, encT, encTO, List.nodup_cons, rows_length, markS_length]
    refine CallTo.det (c_spec_LeavesOf (some true) (some true) (some true) t hs.sz) fun _ => ?_
    simp (config := { maxSteps := 4000000 }) only [go_sem, simprocAttr, ↓dnA, Try.f10, encT, encTO, List.nodup_cons, rows_length, markS_length]
    refine CallTo.det (c_laws_toBlockTree n1 n2 n3 t hs) fun _ => ?_
    simp (config := { maxSteps := 4000000 }) only [go_sem, simprocAttr, ↓dnA, Try.f10, encT, encTO, List.nodup_cons, rows_length, markS_length]
    refine CallTo.det (c_impl_LeavesOf (some true) (some true) (some true) t hs.sz) fun _ => ?_
    simp (config := { maxSteps := 4000000 }) only [go_sem, simprocAttr, ↓dnA, Try.f10, encT, encTO, List.nodup_cons, rows_length, markS_length]
    refine CallTo.det (c_laws_eqIntS _ _ (leaves_ t) (leaves_ t) (by omega) (by omega)) fun _ => ?_
    simp (config := { maxSteps := 4000000 }) only [go_sem, simprocAttr, ↓dnA, Try.f10, encT, encTO, List.nodup_cons, rows_length, markS_length, intsEq]
    refine semL_draw tab_ok mixed_ rfl (ord := [(0, []), (1, []), (2, [0]), (3, []), (4, [])]) (by dsimp only; decide +kernel) ?_
    simp (config := { maxSteps := 4000000 }) only [go_sem, simprocAttr, ↓dnA, Try.f10, encT, encTO, List.nodup_cons, rows_length, markS_length]
    refine CallTo.det (c_laws_toBlockTree n1 n2 n3 t hs) fun _ => ?_
    simp (config := { maxSteps := 4000000 }) only [go_sem, simprocAttr, ↓dnA, Try.f10, encT, encTO, List.nodup_cons, rows_length, markS_length]
    refine CallTo.det (c_laws_eqBlockTree _ _ _ _ _ _ t t hs.sz hs.sz) fun _ => ?_
    have ht' : decide (t = t) = true := by simp
    simp (config := { maxSteps := 4000000 }) only [go_sem, simprocAttr, ↓dnA, Try.f10, encT, encTO, List.nodup_cons, rows_length, markS_length, ht']
    refine CallMTo.of (c_laws_markBlockTree true true true t 1 hs.sz ⟨by omega, by omega⟩) ?_
    rintro r1 ls' ⟨rfl, rfl⟩
    have d1 : decide (1 + (stT t : Int) < 0) = false := by simp; omega
    simp (config := { maxSteps := 4000000 }) only [go_sem, simprocAttr, ↓dnA, Try.f10, encT, encTO, List.nodup_cons, rows_length, markS_length, d1]
    refine CallTo.det (c_laws_eqIntS _ _ (leaves_ t) (leaves_ t) (by omega) (by omega)) fun _ => ?_
    simp (config := { maxSteps := 4000000 }) only [go_sem, simprocAttr, ↓dnA, Try.f10, encT, encTO, List.nodup_cons, rows_length, markS_length, d1, intsEq]
    have hi1 := stepS_const stI 1 (fun _ => rfl) (leaves_ t)
    refine CallMTo.of (c_laws_markIntS false 1 (leaves_ t) 1 (.inr rfl) (by omega) ⟨by omega, by omega⟩) ?_
    rintro r2 ls' ⟨rfl, rfl⟩
    simp (config := { maxSteps := 4000000 }) only [go_sem, simprocAttr, ↓dnA, Try.f10, encT, encTO, List.nodup_cons, rows_length, markS_length]
    refine CallTo.det (c_laws_heldIntS _ (leaves_ t) 1 (by omega) ⟨by omega, by omega⟩) fun _ => ?_
    have d2 : decide (1 + (stepS stI (leaves_ t) : Int) < 0) = false := by simp; omega
    simp (config := { maxSteps := 4000000 }) only [go_sem, simprocAttr, ↓dnA, Try.f10, encT, encTO, List.nodup_cons, rows_length, markS_length, d2]
    refine CallTo.det (c_laws_toBlockTree n1 n2 n3 t hs) fun _ => ?_
    simp (config := { maxSteps := 4000000 }) only [go_sem, simprocAttr, ↓dnA, Try.f10, encT, encTO, List.nodup_cons, rows_length, markS_length]
    refine CallTo.det (c_impl_LeavesOf (some true) (some true) (some true) t hs.sz) fun _ => ?_
    simp (config := { maxSteps := 4000000 }) only [go_sem, simprocAttr, ↓dnA, Try.f10, encT, encTO, List.nodup_cons, rows_length, markS_length]
    refine CallTo.det (c_laws_eqIntS _ _ (leaves_ t) (leaves_ t) (by omega) (by omega)) fun _ => ?_
    simp (config := { maxSteps := 4000000 }) only [go_sem, simprocAttr, ↓dnA, Try.f10, encT, encTO, List.nodup_cons, rows_length, markS_length, intsEq]
    refine CallTo.det (c_laws_heldIntS _ (leaves_ t) 1 (by omega) ⟨by omega, by omega⟩) fun _ => ?_
    simp (config := { maxSteps := 4000000 }) only [go_sem, simprocAttr, ↓dnA, Try.f10, encT, encTO, List.nodup_cons, rows_length, markS_length, d2]

end Go.Proofs.Ytdaemhaecjldaaa

/- Contracts: the blocks that are kept. -/
set_option linter.unusedSimpArgs false
set_option linter.unusedVariables false
set_option maxRecDepth 20000
set_option maxHeartbeats 4000000
namespace Go.Proofs.Ytdaemhaecjldaaa
open Go Go.RowKit

noncomputable def keptB (t : Tree) (n : Int) (k : Nat) : Bool := ((pathL t n).any fun x => (k : Int) == x) || ((pathL t (k : Int)).any fun x => n == x)
open Classical in
noncomputable def kept (t : Tree) (n : Int) : List Int := if treeValid t = true ∧ inB n 0 ((t.blocks.length : Int) - 1) = true then fltF (keptB t n) t.blocks.length 0 else []

theorem kept_len {t : Tree} (n : Int) : (kept t n).length ≤ t.blocks.length := by
  unfold kept
  split
  · exact fltF_len _ _ _
  · simp

theorem pathTo_in {t : Tree} (h : treeValid t = true) {n : Int} (h1 : 0 ≤ n) (h2 : n < t.blocks.length) : pathTo t n = pathL t n := by
  unfold pathTo; rw [if_pos ⟨h, h1, h2⟩]

theorem c_impl_KeptBlocks (n1 n2 n3 : Option Bool) (t : Tree) (n : Int) (hx : TreeSz t) : Det Try.prog 73 [.agg (encT n1 n2 n3 t), .int .i64 n] (.osl false 1 (rows encI (kept t n))) := by
  refine fspec_det tab_ok Try.call73 Try.func73 rfl 40 Try.ntmps73 (of_decide_eq_true rfl) fun B => codeK_sound tab_ok _ _ _ ?_
  simp (config := { maxSteps := 4000000 }) only [go_sem, simprocAttr, ↓dnA, Try.f73, encT, rows_length]
  refine CallTo.det (c_impl_BlockTreeValid n1 n2 n3 t hx) fun _ => ?_
  cases h0 : treeValid t with
  | false =>
    have hk : kept t n = [] := by unfold kept; rw [if_neg (fun e => by rw [h0] at e; cases e.1)]
    simp (config := { maxSteps := 4000000 }) only [go_sem, simprocAttr, ↓dnA, Try.f73, encT, rows_length, h0, hk, rows_nil]
  | true =>
    have ht := treeOk_of h0
    have hlen := ht.len
    simp (config := { maxSteps := 4000000 }) only [go_sem, simprocAttr, ↓dnA, Try.f73, encT, rows_length, h0]
    refine CallTo.det (c_impl_has n1 n2 n3 t n hx) fun _ => ?_
    cases h1 : inB n 0 ((t.blocks.length : Int) - 1) with
    | false =>
      have hk : kept t n = [] := by unfold kept; rw [if_neg (fun e => by rw [h1] at e; cases e.2)]
      simp (config := { maxSteps := 4000000 }) only [go_sem, simprocAttr, ↓dnA, Try.f73, encT, rows_length, h0, h1, hk, rows_nil]
    | true =>
      have hk : kept t n = fltF (keptB t n) t.blocks.length 0 := by unfold kept; rw [if_pos ⟨h0, h1⟩]
      rw [hk]
      have h1' := inB_iff.1 h1
      simp (config := { maxSteps := 4000000 }) only [go_sem, simprocAttr, ↓dnA, Try.f73, encT, rows_length, h0, h1]
      refine semL_nilA 5 5 1 true (by rfl) (by rfl) (by decide) (by decide) ?_
      refine semL_for tab_ok (fun p : Nat × List Int => ⟨40, [(1, .int .i64 n), (2, .loc 2 0), (5, .row 5 p.2.length), (18, .int .i64 t.blocks.length), (19, .int .i64 p.1)], [(2, .var (encT n1 n2 n3 t)), (5, .row true false 1 (rows encI p.2))]⟩) (fun p => t.blocks.length - p.1)
        (fun p => p.1 ≤ t.blocks.length ∧ p.2.length ≤ p.1 ∧ p.2 ++ fltF (keptB t n) (t.blocks.length - p.1) p.1 = fltF (keptB t n) t.blocks.length 0) (0, []) [(2, 2), (5, 5)] (Weak.of (by rfl) ?_ ?_ (by rfl)) ⟨by omega, by simp, rfl⟩ ?_
      · simp (config := { maxSteps := 4000000 }) only [go_sem, simprocAttr, ↓dnA, Try.f73, encT, rows_length, frW, wk2, wk1, wkL, wkB, hpW, List.mem_cons, Prod.mk.injEq, exists_eq_left, exists_eq_right, exists_eq]
        try rfl
      · simp (config := { maxSteps := 4000000 }) only [go_sem, simprocAttr, ↓dnA, Try.f73, encT, rows_length, frW, wk2, wk1, wkL, wkB, hpW, List.mem_cons, Prod.mk.injEq, exists_eq_left, exists_eq_right, exists_eq]
      · rintro ⟨i, acc⟩ ⟨hi, hac, hp⟩
        dsimp only at hi hac hp
        have htk := take_rows encI acc acc.length rfl
        by_cases h : i < t.blocks.length
        · have hw : IntKind.i64.wrap ((i : Int) + 1) = ((i + 1 : Nat) : Int) := wsucc h hx.blocks
          have hpn := pathL_len ht (n := n) (by omega)
          have hpi := pathL_len ht (n := (i : Int)) (by omega)
          rw [fltF_step _ _ _ h] at hp
          simp (config := { maxSteps := 4000000 }) only [go_sem, simprocAttr, ↓dnA, Try.f73, encT, rows_length, nlt h]
          refine CallTo.det (c_impl_path n1 n2 n3 t n ht hx (by omega)) fun _ => ?_
          simp (config := { maxSteps := 4000000 }) only [go_sem, simprocAttr, ↓dnA, Try.f73, encT, rows_length, nlt h]
          refine CallTo.det (c_slices_Contains_int _ (pathL t n) (i : Int) (by omega)) fun _ => ?_
          have fin : ∀ c : Bool, keptB t n i = c → (if c then acc ++ [(i : Int)] else acc) ++ fltF (keptB t n) (t.blocks.length - (i + 1)) (i + 1) = fltF (keptB t n) t.blocks.length 0 := by
            intro c hc
            rw [hc] at hp
            cases c with
            | false => simpa using hp
            | true => simpa using hp
          cases h2 : ((pathL t n).any fun x => (i : Int) == x) with
          | true =>
            have hkb : keptB t n i = true := by unfold keptB; rw [h2]; rfl
            have hp' := fin true hkb
            rw [if_pos rfl] at hp'
            simp (config := { maxSteps := 4000000 }) only [go_sem, simprocAttr, ↓dnA, Try.f73, encT, rows_length, nlt h, h2, hw, htk]
            repeat refine And.intro (by first | omega | (simp; done) | (simp; omega) | assumption) ?_
            refine ⟨(i + 1, acc ++ [(i : Int)]), [(2, 2), (37, 5)], ⟨by dsimp only; omega, by simp; omega, hp'⟩, by dsimp only; omega, Weak.of (by rfl) ?_ ?_ (by rfl)⟩
            · simp (config := { maxSteps := 4000000 }) only [go_sem, simprocAttr, ↓dnA, Try.f73, encT, rows_length, frW, wk2, wk1, wkL, wkB, hpW, List.mem_cons, Prod.mk.injEq, exists_eq_left, exists_eq_right, exists_eq]
              exact (rows_snoc encI _ _).symm
            · simp (config := { maxSteps := 4000000 }) only [go_sem, simprocAttr, ↓dnA, Try.f73, encT, rows_length, List.length_append, frW, wk2, wk1, wkL, wkB, hpW, List.mem_cons, Prod.mk.injEq, exists_eq_left, exists_eq_right, exists_eq]
          | false =>
            simp (config := { maxSteps := 4000000 }) only [go_sem, simprocAttr, ↓dnA, Try.f73, encT, rows_length, nlt h, h2]
            refine CallTo.det (c_impl_path n1 n2 n3 t (i : Int) ht hx (by omega)) fun _ => ?_
            simp (config := { maxSteps := 4000000 }) only [go_sem, simprocAttr, ↓dnA, Try.f73, encT, rows_length, nlt h, h2]
            refine CallTo.det (c_slices_Contains_int _ (pathL t (i : Int)) n (by omega)) fun _ => ?_
            cases h3 : ((pathL t (i : Int)).any fun x => n == x) with
            | true =>
              have hkb : keptB t n i = true := by unfold keptB; rw [h2, h3]; rfl
              have hp' := fin true hkb
              rw [if_pos rfl] at hp'
              simp (config := { maxSteps := 4000000 }) only [go_sem, simprocAttr, ↓dnA, Try.f73, encT, rows_length, nlt h, h2, h3, hw, htk]
              repeat refine And.intro (by first | omega | (simp; done) | (simp; omega) | assumption) ?_
              refine ⟨(i + 1, acc ++ [(i : Int)]), [(2, 2), (37, 5)], ⟨by dsimp only; omega, by simp; omega, hp'⟩, by dsimp only; omega, Weak.of (by rfl) ?_ ?_ (by rfl)⟩
              · simp (config := { maxSteps := 4000000 }) only [go_sem, simprocAttr, ↓dnA, Try.f73, encT, rows_length, frW, wk2, wk1, wkL, wkB, hpW, List.mem_cons, Prod.mk.injEq, exists_eq_left, exists_eq_right, exists_eq]
                exact (rows_snoc encI _ _).symm
              · simp (config := { maxSteps := 4000000 }) only [go_sem, simprocAttr, ↓dnA, Try.f73, encT, rows_length, List.length_append, frW, wk2, wk1, wkL, wkB, hpW, List.mem_cons, Prod.mk.injEq, exists_eq_left, exists_eq_right, exists_eq]
            | false =>
              have hkb : keptB t n i = false := by unfold keptB; rw [h2, h3]; rfl
              have hp' := fin false hkb
              rw [if_neg Bool.false_ne_true] at hp'
              simp (config := { maxSteps := 4000000 }) only [go_sem, simprocAttr, ↓dnA, Try.f73, encT, rows_length, nlt h, h2, h3, hw]
              refine ⟨(i + 1, acc), [(2, 2), (5, 5)], ⟨by dsimp only; omega, by dsimp only; omega, hp'⟩, by dsimp only; omega, Weak.of (by rfl) ?_ ?_ (by rfl)⟩
              · simp (config := { maxSteps := 4000000 }) only [go_sem, simprocAttr, ↓dnA, Try.f73, encT, rows_length, frW, wk2, wk1, wkL, wkB, hpW, List.mem_cons, Prod.mk.injEq, exists_eq_left, exists_eq_right, exists_eq]
              · simp (config := { maxSteps := 4000000 }) only [go_sem, simprocAttr, ↓dnA, Try.f73, encT, rows_length, frW, wk2, wk1, wkL, wkB, hpW, List.mem_cons, Prod.mk.injEq, exists_eq_left, exists_eq_right, exists_eq]
        · have hi' : i = t.blocks.length := by omega
          subst hi'
          rw [Nat.sub_self, show fltF (keptB t n) 0 t.blocks.length = [] from rfl, List.append_nil] at hp
          simp (config := { maxSteps := 4000000 }) only [go_sem, simprocAttr, ↓dnA, Try.f73, encT, rows_length, nlf h, hp]

theorem c_spec_KeptBlocks (n1 n2 n3 : Option Bool) (t : Tree) (n : Int) (hx : TreeSz t) : Det Try.prog 72 [.agg (encT n1 n2 n3 t), .int .i64 n] (.osl true 1 (rows encI (kept t n))) := by
  refine fspec_det tab_ok Try.call72 Try.func72 rfl 43 Try.ntmps72 (of_decide_eq_true rfl) fun B => codeK_sound tab_ok _ _ _ ?_
  have hbk := hx.blocks
  have hw1 : IntKind.i64.wrap ((t.blocks.length : Int) - 1) = (t.blocks.length : Int) - 1 := wrap_small _ (by omega) (by omega)
  simp (config := { maxSteps := 4000000 }) only [go_sem, simprocAttr, ↓dnA, Try.f72, encT, rows_length]
  refine CallTo.det (c_spec_BlockTreeValid n1 n2 n3 t hx) fun _ => ?_
  cases h0 : treeValid t with
  | false =>
    have hk : kept t n = [] := by unfold kept; rw [if_neg (fun e => by rw [h0] at e; cases e.1)]
    simp (config := { maxSteps := 4000000 }) only [go_sem, simprocAttr, ↓dnA, Try.f72, encT, rows_length, h0, hk, rows_nil]
  | true =>
    have ht := treeOk_of h0
    have hlen := ht.len
    simp (config := { maxSteps := 4000000 }) only [go_sem, simprocAttr, ↓dnA, Try.f72, encT, rows_length, h0, hw1]
    refine CallTo.det (c_l1In _ _ _) fun _ => ?_
    cases h1 : inB n 0 ((t.blocks.length : Int) - 1) with
    | false =>
      have hk : kept t n = [] := by unfold kept; rw [if_neg (fun e => by rw [h1] at e; cases e.2)]
      simp (config := { maxSteps := 4000000 }) only [go_sem, simprocAttr, ↓dnA, Try.f72, encT, rows_length, h0, h1, hk, rows_nil]
    | true =>
      have hk : kept t n = fltF (keptB t n) t.blocks.length 0 := by unfold kept; rw [if_pos ⟨h0, h1⟩]
      rw [hk]
      have h1' := inB_iff.1 h1
      simp (config := { maxSteps := 4000000 }) only [go_sem, simprocAttr, ↓dnA, Try.f72, encT, rows_length, h0, h1]
      refine semL_for tab_ok (fun p : Nat × List Int => ⟨43, [(1, .int .i64 n), (2, .loc 2 0), (5, .row 7 p.2.length), (6, .int .i64 p.1)], [(2, .var (encT n1 n2 n3 t)), (7, .row true true 1 (rows encI p.2))]⟩) (fun p => t.blocks.length - p.1)
        (fun p => p.1 ≤ t.blocks.length ∧ p.2.length ≤ p.1 ∧ p.2 ++ fltF (keptB t n) (t.blocks.length - p.1) p.1 = fltF (keptB t n) t.blocks.length 0) (0, []) [(2, 2), (7, 7)] (Weak.of (by rfl) ?_ ?_ (by rfl)) ⟨by omega, by simp, rfl⟩ ?_
      · simp (config := { maxSteps := 4000000 }) only [go_sem, simprocAttr, ↓dnA, Try.f72, encT, rows_length, frW, wk2, wk1, wkL, wkB, hpW, List.mem_cons, Prod.mk.injEq, exists_eq_left, exists_eq_right, exists_eq]
        try rfl
      · simp (config := { maxSteps := 4000000 }) only [go_sem, simprocAttr, ↓dnA, Try.f72, encT, rows_length, frW, wk2, wk1, wkL, wkB, hpW, List.mem_cons, Prod.mk.injEq, exists_eq_left, exists_eq_right, exists_eq]
      · rintro ⟨i, acc⟩ ⟨hi, hac, hp⟩
        dsimp only at hi hac hp
        have htk := take_rows encI acc acc.length rfl
        by_cases h : i < t.blocks.length
        · have hw : IntKind.i64.wrap ((i : Int) + 1) = ((i + 1 : Nat) : Int) := wsucc h hx.blocks
          rw [fltF_step _ _ _ h] at hp
          simp (config := { maxSteps := 4000000 }) only [go_sem, simprocAttr, ↓dnA, Try.f72, encT, rows_length, nlt h]
          refine CallTo.det (c_spec_IsBefore n1 n2 n3 t (i : Int) n hx) fun _ => ?_
          have e1 : isBefore t (i : Int) n = (pathL t n).any fun x => (i : Int) == x := by unfold isBefore; rw [pathTo_in h0 (by omega) (by omega)]
          have e2 : isBefore t n (i : Int) = (pathL t (i : Int)).any fun x => n == x := by unfold isBefore; rw [pathTo_in h0 (by omega) (by omega)]
          have fin : ∀ c : Bool, keptB t n i = c → (if c then acc ++ [(i : Int)] else acc) ++ fltF (keptB t n) (t.blocks.length - (i + 1)) (i + 1) = fltF (keptB t n) t.blocks.length 0 := by
            intro c hc
            rw [hc] at hp
            cases c with
            | false => simpa using hp
            | true => simpa using hp
          cases h2 : isBefore t (i : Int) n with
          | true =>
            have hkb : keptB t n i = true := by unfold keptB; rw [← e1, h2]; rfl
            have hp' := fin true hkb
            rw [if_pos rfl] at hp'
            simp (config := { maxSteps := 4000000 }) only [go_sem, simprocAttr, ↓dnA, Try.f72, encT, rows_length, nlt h, h2, hw, htk]
            repeat refine And.intro (by first | omega | (simp; done) | (simp; omega) | assumption) ?_
            refine ⟨(i + 1, acc ++ [(i : Int)]), [(2, 2), (41, 7)], ⟨by dsimp only; omega, by simp; omega, hp'⟩, by dsimp only; omega, Weak.of (by rfl) ?_ ?_ (by rfl)⟩
            · simp (config := { maxSteps := 4000000 }) only [go_sem, simprocAttr, ↓dnA, Try.f72, encT, rows_length, frW, wk2, wk1, wkL, wkB, hpW, List.mem_cons, Prod.mk.injEq, exists_eq_left, exists_eq_right, exists_eq]
              exact (rows_snoc encI _ _).symm
            · simp (config := { maxSteps := 4000000 }) only [go_sem, simprocAttr, ↓dnA, Try.f72, encT, rows_length, List.length_append, frW, wk2, wk1, wkL, wkB, hpW, List.mem_cons, Prod.mk.injEq, exists_eq_left, exists_eq_right, exists_eq]
          | false =>
            simp (config := { maxSteps := 4000000 }) only [go_sem, simprocAttr, ↓dnA, Try.f72, encT, rows_length, nlt h, h2]
            refine CallTo.det (c_spec_IsBefore n1 n2 n3 t n (i : Int) hx) fun _ => ?_
            cases h3 : isBefore t n (i : Int) with
            | true =>
              have hkb : keptB t n i = true := by unfold keptB; rw [← e1, ← e2, h2, h3]; rfl
              have hp' := fin true hkb
              rw [if_pos rfl] at hp'
              simp (config := { maxSteps := 4000000 }) only [go_sem, simprocAttr, ↓dnA, Try.f72, encT, rows_length, nlt h, h2, h3, hw, htk]
              repeat refine And.intro (by first | omega | (simp; done) | (simp; omega) | assumption) ?_
              refine ⟨(i + 1, acc ++ [(i : Int)]), [(2, 2), (41, 7)], ⟨by dsimp only; omega, by simp; omega, hp'⟩, by dsimp only; omega, Weak.of (by rfl) ?_ ?_ (by rfl)⟩
              · simp (config := { maxSteps := 4000000 }) only [go_sem, simprocAttr, ↓dnA, Try.f72, encT, rows_length, frW, wk2, wk1, wkL, wkB, hpW, List.mem_cons, Prod.mk.injEq, exists_eq_left, exists_eq_right, exists_eq]
                exact (rows_snoc encI _ _).symm
              · simp (config := { maxSteps := 4000000 }) only [go_sem, simprocAttr, ↓dnA, Try.f72, encT, rows_length, List.length_append, frW, wk2, wk1, wkL, wkB, hpW, List.mem_cons, Prod.mk.injEq, exists_eq_left, exists_eq_right, exists_eq]
            | false =>
              have hkb : keptB t n i = false := by unfold keptB; rw [← e1, ← e2, h2, h3]; rfl
              have hp' := fin false hkb
              rw [if_neg Bool.false_ne_true] at hp'
              simp (config := { maxSteps := 4000000 }) only [go_sem, simprocAttr, ↓dnA, Try.f72, encT, rows_length, nlt h, h2, h3, hw]
              refine ⟨(i + 1, acc), [(2, 2), (7, 7)], ⟨by dsimp only; omega, by dsimp only; omega, hp'⟩, by dsimp only; omega, Weak.of (by rfl) ?_ ?_ (by rfl)⟩
              · simp (config := { maxSteps := 4000000 }) only [go_sem, simprocAttr, ↓dnA, Try.f72, encT, rows_length, frW, wk2, wk1, wkL, wkB, hpW, List.mem_cons, Prod.mk.injEq, exists_eq_left, exists_eq_right, exists_eq]
              · simp (config := { maxSteps := 4000000 }) only [go_sem, simprocAttr, ↓dnA, Try.f72, encT, rows_length, frW, wk2, wk1, wkL, wkB, hpW, List.mem_cons, Prod.mk.injEq, exists_eq_left, exists_eq_right, exists_eq]
        · have hi' : i = t.blocks.length := by omega
          subst hi'
          rw [Nat.sub_self, show fltF (keptB t n) 0 t.blocks.length = [] from rfl, List.append_nil] at hp
          simp (config := { maxSteps := 4000000 }) only [go_sem, simprocAttr, ↓dnA, Try.f72, encT, rows_length, nlf h, hp]

end Go.Proofs.Ytdaemhaecjldaaa

/- Contracts: FnExactKeptBlocks. -/
set_option linter.unusedSimpArgs false
set_option linter.unusedVariables false
set_option maxRecDepth 20000
set_option maxHeartbeats 4000000
namespace Go.Proofs.Ytdaemhaecjldaaa
open Go Go.RowKit

theorem c_laws_FnExactKeptBlocks (n1 n2 n3 : Option Bool) (t : Tree) (n : Int) (hx : TreeLen t) :
    Det Try.prog 13 [.agg (encT n1 n2 n3 t), .int .i64 n] (.bool true) := by
  refine fspec_det tab_ok Try.call13 Try.func13 rfl 74 Try.ntmps13 (of_decide_eq_true rfl) fun B => codeK_sound tab_ok _ _ _ ?_
  obtain ⟨r, hr, _, hT, hE⟩ := c_laws_szBlockTree n1 n2 n3 t 1048576 hx (by omega)
  simp (config := { maxSteps := 4000000 }) only [go_sem, simprocAttr, ↓dnA, Try.f13, encT, encTO, List.nodup_cons, rows_length, markS_length]
  refine CallTo.det hr fun _ => ?_
  cases h2 : decide (r < 0) with
  | true => simp (config := { maxSteps := 4000000 }) only [go_sem, simprocAttr, ↓dnA, Try.f13, encT, encTO, List.nodup_cons, rows_length, markS_length, h2]
  | false =>
    have hs := hT (by have := of_decide_eq_false h2; omega)
    have hst := stT_small hs
    have hll : (kept t n).length ≤ 1048576 := by
      have := kept_len (t := t) n
      have := hs.sum
      unfold tsz at this; omega
    simp (config := { maxSteps := 4000000 }) only [go_sem, simprocAttr, ↓dnA, Try.f13, encT, encTO, List.nodup_cons, rows_length, markS_length, h2]
    refine CallTo.det (c_laws_toBlockTree n1 n2 n3 t hs) fun _ => ?_
    simp (config := { maxSteps := 4000000 }) only [go_sem, simprocAttr, ↓dnA, Try.f13, encT, encTO, List.nodup_cons, rows_length, markS_length]
    refine CallTo.det (c_spec_KeptBlocks (some true) (some true) (some true) t n hs.sz) fun _ => ?_
    simp (config := { maxSteps := 4000000 }) only [go_sem, simprocAttr, ↓dnA, Try.f13, encT, encTO, List.nodup_cons, rows_length, markS_length]
    refine CallTo.det (c_laws_toBlockTree n1 n2 n3 t hs) fun _ => ?_
    simp (config := { maxSteps := 4000000 }) only [go_sem, simprocAttr, ↓dnA, Try.f13, encT, encTO, List.nodup_cons, rows_length, markS_length]
    refine CallTo.det (c_impl_KeptBlocks (some true) (some true) (some true) t n hs.sz) fun _ => ?_
    simp (config := { maxSteps := 4000000 }) only [go_sem, simprocAttr, ↓dnA, Try.f13, encT, encTO, List.nodup_cons, rows_length, markS_length]
    refine CallTo.det (c_laws_eqIntS _ _ (kept t n) (kept t n) (by omega) (by omega)) fun _ => ?_
    simp (config := { maxSteps := 4000000 }) only [go_sem, simprocAttr, ↓dnA, Try.f13, encT, encTO, List.nodup_cons, rows_length, markS_length, intsEq]
    refine semL_draw tab_ok mixed_ rfl (ord := [(0, []), (1, []), (2, [0]), (3, []), (4, [])]) (by dsimp only; decide +kernel) ?_
    simp (config := { maxSteps := 4000000 }) only [go_sem, simprocAttr, ↓dnA, Try.f13, encT, encTO, List.nodup_cons, rows_length, markS_length]
    refine CallTo.det (c_laws_toBlockTree n1 n2 n3 t hs) fun _ => ?_
    simp (config := { maxSteps := 4000000 }) only [go_sem, simprocAttr, ↓dnA, Try.f13, encT, encTO, List.nodup_cons, rows_length, markS_length]
    refine CallTo.det (c_laws_eqBlockTree _ _ _ _ _ _ t t hs.sz hs.sz) fun _ => ?_
    have ht' : decide (t = t) = true := by simp
    simp (config := { maxSteps := 4000000 }) only [go_sem, simprocAttr, ↓dnA, Try.f13, encT, encTO, List.nodup_cons, rows_length, markS_length, ht']
    refine CallMTo.of (c_laws_markBlockTree true true true t 1 hs.sz ⟨by omega, by omega⟩) ?_
    rintro r1 ls' ⟨rfl, rfl⟩
    have d1 : decide (1 + (stT t : Int) < 0) = false := by simp; omega
    simp (config := { maxSteps := 4000000 }) only [go_sem, simprocAttr, ↓dnA, Try.f13, encT, encTO, List.nodup_cons, rows_length, markS_length, d1]
    refine CallTo.det (c_laws_eqIntS _ _ (kept t n) (kept t n) (by omega) (by omega)) fun _ => ?_
    simp (config := { maxSteps := 4000000 }) only [go_sem, simprocAttr, ↓dnA, Try.f13, encT, encTO, List.nodup_cons, rows_length, markS_length, d1, intsEq]
    have hi1 := stepS_const stI 1 (fun _ => rfl) (kept t n)
    refine CallMTo.of (c_laws_markIntS false 1 (kept t n) 1 (.inr rfl) (by omega) ⟨by omega, by omega⟩) ?_
    rintro r2 ls' ⟨rfl, rfl⟩
    simp (config := { maxSteps := 4000000 }) only [go_sem, simprocAttr, ↓dnA, Try.f13, encT, encTO, List.nodup_cons, rows_length, markS_length]
    refine CallTo.det (c_laws_heldIntS _ (kept t n) 1 (by omega) ⟨by omega, by omega⟩) fun _ => ?_
    have d2 : decide (1 + (stepS stI (kept t n) : Int) < 0) = false := by simp; omega
    simp (config := { maxSteps := 4000000 }) only [go_sem, simprocAttr, ↓dnA, Try.f13, encT, encTO, List.nodup_cons, rows_length, markS_length, d2]
    refine CallTo.det (c_laws_toBlockTree n1 n2 n3 t hs) fun _ => ?_
    simp (config := { maxSteps := 4000000 }) only [go_sem, simprocAttr, ↓dnA, Try.f13, encT, encTO, List.nodup_cons, rows_length, markS_length]
    refine CallTo.det (c_impl_KeptBlocks (some true) (some true) (some true) t n hs.sz) fun _ => ?_
    simp (config := { maxSteps := 4000000 }) only [go_sem, simprocAttr, ↓dnA, Try.f13, encT, encTO, List.nodup_cons, rows_length, markS_length]
    refine CallTo.det (c_laws_eqIntS _ _ (kept t n) (kept t n) (by omega) (by omega)) fun _ => ?_
    simp (config := { maxSteps := 4000000 }) only [go_sem, simprocAttr, ↓dnA, Try.f13, encT, encTO, List.nodup_cons, rows_length, markS_length, intsEq]
    refine CallTo.det (c_laws_heldIntS _ (kept t n) 1 (by omega) ⟨by omega, by omega⟩) fun _ => ?_
    simp (config := { maxSteps := 4000000 }) only [go_sem, simprocAttr, ↓dnA, Try.f13, encT, encTO, List.nodup_cons, rows_length, markS_length, d2]

end Go.Proofs.Ytdaemhaecjldaaa

/- The closed facts of the row of FnExactKeptBlocks. -/
namespace Go.Proofs.Ytdaemhaecjldaaa
open Go Go.ChangeShapes Go.WideShapes Go.ChangeAt Go.RowKit

theorem fnExactKeptBlocks_named : Try.pinned.checked.prog.funcNamed Rows.fnExactKeptBlocksRow.func = some 13 := by kernel_rfl
theorem fnExactKeptBlocks_inst : Try.f13.isInstance Try.pinned.checked.prog Rows.fnExactKeptBlocksRow.origin Rows.fnExactKeptBlocksRow.targs := of_decide_eq_true (by kernel_rfl)
theorem fnExactKeptBlocks_wrap : Try.f13.isWrapper Try.pinned.checked.prog Rows.fnExactKeptBlocksRow.wrapper Rows.fnExactKeptBlocksRow.mainSum := by
  unfold Func.isWrapper; first | (rw [if_pos (by decide +kernel)]; kernel_rfl) | (rw [if_neg (by decide +kernel)]; exact ⟨rfl, rfl⟩)
set_option maxRecDepth 100000 in
theorem fnExactKeptBlocks_closed : joinedFacts Try.pinned.checked.prog 13 Try.f13 Rows.fnExactKeptBlocksSpec Rows.fnExactKeptBlocksRow = true := by kernel_rfl

end Go.Proofs.Ytdaemhaecjldaaa

/- Arguments of the laws, by their types. -/
set_option linter.unusedSimpArgs false
namespace Go.Proofs.Ytdaemhaecjldaaa
open Go Go.ChangeShapes Go.WideShapes Go.ChangeAt Go.RowKit

theorem own_ : ownKnob Try.prog.godebug = none := by kernel_rfl
theorem laidOut_ : laidOutB Try.prog = true := by kernel_rfl

theorem ty_int {cs : List AV} (h : Ty tab 3 cs) : ∃ n, cs = [.int .i64 n] ∧ IntKind.i64.has n := h.int_inv tabAt_3 rfl
theorem ty_bool {cs : List AV} (h : Ty tab 4 cs) : ∃ b, cs = [.bool b] := h.bool_inv tabAt_4 rfl
theorem ty_intA {a : AV} (h : TyArg tab 3 a) : ∃ n, a = .int .i64 n := by
  obtain ⟨n, e, _⟩ := ty_int (h.one_inv tabAt_3 rfl)
  exact ⟨n, by simpa using e⟩

/-- The cells of one value read as the cells of a datum. -/
def Leqs (r c : List AV) : Prop := r.length = c.length ∧ ∀ (j : Nat) (_ : j < c.length), Leq (r.getD j .top) (c.getD j .top)
theorem Leqs.refl (c : List AV) : Leqs c c := ⟨rfl, fun _ _ => Leq.refl _⟩
theorem Leqs.of_eq {r c : List AV} (h : r = c) : Leqs r c := h ▸ Leqs.refl _
theorem Leqs.agg {r c : List AV} (h : Leqs r c) : Leq (.agg r) (.agg c) := Leq.agg h.1 h.2

/-- A slice of elements that read as data. -/
theorem ty_rows {α : Type} (e : α → List AV) (Q : α → Prop) {et : TypeId} {es : List (List AV)} (h : ∀ (j : Nat) (_ : j < es.length), Ty tab et (es.getD j [])) (hx : ∀ r, Ty tab et r → ∃ x, Q x ∧ Leqs r (e x)) :
    ∃ xs : List α, es.length = xs.length ∧ (∀ x, x ∈ xs → Q x) ∧ ∀ nn, Leq (.sl nn es) (.sl nn (rows e xs)) := by
  have key : ∃ xs : List α, es.length = xs.length ∧ (∀ x, x ∈ xs → Q x) ∧ ∀ (i : Nat) (hi : i < xs.length), Leqs (es.getD i []) (e (xs[i]'hi)) := by
    induction es with
    | nil => exact ⟨[], rfl, fun x hx => (by cases hx), fun i hi => absurd hi (by simp)⟩
    | cons r rs ih =>
      obtain ⟨x, hq, hx1⟩ := hx r (h 0 (by simp))
      obtain ⟨xs, h1, h2, h3⟩ := ih (fun j hj => h (j + 1) (by simpa using hj))
      refine ⟨x :: xs, by simp [h1], fun y hy => ?_, fun i hi => ?_⟩
      · rcases List.mem_cons.1 hy with rfl | hy
        · exact hq
        · exact h2 y hy
      · cases i with
        | zero => exact hx1
        | succ i => exact h3 i (by simpa using hi)
  obtain ⟨xs, h1, h2, h3⟩ := key
  refine ⟨xs, h1, h2, fun nn => Leq.sl (by rw [rows_length, h1]) (fun i hi => ?_) (fun i j hi hj => ?_)⟩
  · rw [rows_length] at hi
    rw [rows_get _ _ _ hi]
    exact (h3 i hi).1
  · rw [rows_length] at hi
    rw [rows_get _ _ _ hi] at hj ⊢
    exact (h3 i hi).2 j hj

/-- A slice, as one cell. -/
theorem ty_slice {α : Type} (e : α → List AV) (Q : α → Prop) {t et : TypeId} {ti : TI} {cs : List AV} (h : Ty tab t cs) (ht : tab t = some ti) (hk : ti.k = .slice et) (hx : ∀ r, Ty tab et r → ∃ x, Q x ∧ Leqs r (e x)) :
    ∃ (n : Option Bool) (xs : List α), xs.length ≤ 9223372036854775807 ∧ (∀ x, x ∈ xs → Q x) ∧ Leqs cs [.sl n (rows e xs)] ∧ Leqs cs [.sl none (rows e xs)] := by
  obtain ⟨nn, es, rfl, _, hl, he⟩ := h.slice_inv ht hk
  obtain ⟨xs, h1, h2, h3⟩ := ty_rows e Q he hx
  refine ⟨some nn, xs, by omega, h2, ⟨rfl, fun j hj => ?_⟩, ⟨rfl, fun j hj => ?_⟩⟩
  · have : j = 0 := by simpa using hj
    subst this; exact h3 _
  · have : j = 0 := by simpa using hj
    subst this; exact (h3 (some nn)).trans Leq.slN

theorem ty_bools {a : AV} (h : TyArg tab 56 a) : ∃ (n : Option Bool) (bs : List Bool), Leq a (.sl n (boolRows bs)) ∧ bs.length ≤ 9223372036854775807 := by
  obtain ⟨n, xs, h1, _, h2, _⟩ := ty_slice (fun b : Bool => [AV.bool b]) (fun _ => True) (h.one_inv tabAt_56 rfl) tabAt_56 rfl fun r hr => by
    obtain ⟨b, rfl⟩ := ty_bool hr
    exact ⟨b, trivial, Leqs.refl _⟩
  exact ⟨n, xs, h2.2 0 (by simp), h1⟩

theorem ty_voterC {cs : List AV} (h : Ty tab 23 cs) : ∃ v : Voter, cs = encV v := by
  obtain ⟨ps, rfl, hl, hp⟩ := h.struct_inv tabAt_23 rfl
  match ps, hl with
  | [p, q], _ =>
    obtain ⟨x, hx, _⟩ := ty_int (hp 0 (by decide))
    obtain ⟨y, hy, _⟩ := ty_int (hp 1 (by decide))
    have hx : p = _ := hx
    have hy : q = _ := hy
    subst hx; subst hy
    exact ⟨⟨x, y⟩, rfl⟩

theorem ty_voter {a : AV} (h : TyArg tab 23 a) : ∃ v : Voter, a = .agg (encV v) := by
  obtain ⟨cs, rfl, h2⟩ := h.agg_inv tabAt_23 rfl
  obtain ⟨v, rfl⟩ := ty_voterC h2
  exact ⟨v, rfl⟩

theorem ty_entry {cs : List AV} (h : Ty tab 125 cs) : ∃ e : Entry, cs = encE e := by
  obtain ⟨ps, rfl, hl, hp⟩ := h.struct_inv tabAt_125 rfl
  match ps, hl with
  | [p, q], _ =>
    obtain ⟨x, hx, _⟩ := ty_int (hp 0 (by decide))
    obtain ⟨y, hy, _⟩ := ty_int (hp 1 (by decide))
    have hx : p = _ := hx
    have hy : q = _ := hy
    subst hx; subst hy
    exact ⟨⟨x, y⟩, rfl⟩

theorem ty_action {cs : List AV} (h : Ty tab 129 cs) : ∃ e : Action, cs = encA e := by
  obtain ⟨ps, rfl, hl, hp⟩ := h.struct_inv tabAt_129 rfl
  match ps, hl with
  | [p, q, r, s], _ =>
    obtain ⟨x, hx, _⟩ := ty_int (hp 0 (by decide))
    obtain ⟨y, hy, _⟩ := ty_int (hp 1 (by decide))
    obtain ⟨z, hz, _⟩ := ty_int (hp 2 (by decide))
    obtain ⟨w, hw, _⟩ := ty_int (hp 3 (by decide))
    have hx : p = _ := hx
    have hy : q = _ := hy
    have hz : r = _ := hz
    have hw : s = _ := hw
    subst hx; subst hy; subst hz; subst hw
    exact ⟨⟨x, y, z, w⟩, rfl⟩

theorem Leqs.cons {a b : AV} {r c : List AV} (h : Leq a b) (h' : Leqs r c) : Leqs (a :: r) (b :: c) := by
  refine ⟨by simp [h'.1], fun j hj => ?_⟩
  cases j with
  | zero => exact h
  | succ j => exact h'.2 j (by simpa using hj)

theorem Leqs.one {r : List AV} {b : AV} (h : Leqs r [b]) : ∃ a, r = [a] ∧ Leq a b := by
  obtain ⟨h1, h2⟩ := h
  match r, h1 with
  | [a], _ => exact ⟨a, rfl, h2 0 (by simp)⟩

theorem ty_block {cs : List AV} (h : Ty tab 82 cs) : ∃ b : Block, b.list.length ≤ 9223372036854775807 ∧ Leqs cs (encB1 b) := by
  obtain ⟨ps, rfl, hl, hp⟩ := h.struct_inv tabAt_82 rfl
  match ps, hl with
  | [p1, p2, p3, p4, p5, p6], _ =>
    obtain ⟨x1, h1, _⟩ := ty_int (hp 0 (by decide))
    obtain ⟨x2, h2, _⟩ := ty_int (hp 1 (by decide))
    obtain ⟨x3, h3, _⟩ := ty_int (hp 2 (by decide))
    obtain ⟨_, x4, hl4, _, _, h4⟩ := ty_slice encA (fun _ => True) (hp 3 (by decide)) tabAt_33 rfl fun r hr => by
      obtain ⟨a, rfl⟩ := ty_action hr
      exact ⟨a, trivial, Leqs.refl _⟩
    obtain ⟨x5, h5, _⟩ := ty_int (hp 4 (by decide))
    obtain ⟨x6, h6, _⟩ := ty_int (hp 5 (by decide))
    have h1 : p1 = _ := h1
    have h2 : p2 = _ := h2
    have h3 : p3 = _ := h3
    have h5 : p5 = _ := h5
    have h6 : p6 = _ := h6
    obtain ⟨a4, e4, l4⟩ := h4.one
    have e4 : p4 = _ := e4
    subst h1; subst h2; subst h3; subst h5; subst h6; subst e4
    exact ⟨⟨x1, x2, x3, x4, x5, x6⟩, hl4, .cons (.refl _) (.cons (.refl _) (.cons (.refl _) (.cons l4 (.cons (.refl _) (.cons (.refl _) (.refl [])))))) ⟩

theorem ty_treeC {cs : List AV} (h : Ty tab 55 cs) : ∃ (n1 n2 n3 : Option Bool) (t : Tree), Leqs cs (encT n1 n2 n3 t) ∧ TreeLen t := by
  obtain ⟨ps, rfl, hl, hp⟩ := h.struct_inv tabAt_55 rfl
  match ps, hl with
  | [p1, p2, p3], _ =>
    obtain ⟨n1, x1, l1, _, h1, _⟩ := ty_slice encE (fun _ => True) (hp 0 (by decide)) tabAt_32 rfl fun r hr => by
      obtain ⟨a, rfl⟩ := ty_entry hr
      exact ⟨a, trivial, Leqs.refl _⟩
    obtain ⟨n2, x2, l2, q2, h2, _⟩ := ty_slice encB1 (fun b => b.list.length ≤ 9223372036854775807) (hp 1 (by decide)) tabAt_52 rfl fun r hr => ty_block hr
    obtain ⟨n3, x3, l3, _, h3, _⟩ := ty_slice encI (fun _ => True) (hp 2 (by decide)) tabAt_53 rfl fun r hr => by
      obtain ⟨a, rfl, _⟩ := ty_int hr
      exact ⟨a, trivial, Leqs.refl _⟩
    obtain ⟨a1, e1, g1⟩ := h1.one
    obtain ⟨a2, e2, g2⟩ := h2.one
    obtain ⟨a3, e3, g3⟩ := h3.one
    have e1 : p1 = _ := e1
    have e2 : p2 = _ := e2
    have e3 : p3 = _ := e3
    subst e1; subst e2; subst e3
    exact ⟨n1, n2, n3, ⟨x1, x2, x3⟩, .cons g1 (.cons g2 (.cons g3 (.refl []))), ⟨l1, l2, l3, q2⟩⟩

theorem ty_tree {a : AV} (h : TyArg tab 55 a) : ∃ (n1 n2 n3 : Option Bool) (t : Tree), Leq a (.agg (encT n1 n2 n3 t)) ∧ TreeLen t := by
  obtain ⟨cs, rfl, h2⟩ := h.agg_inv tabAt_55 rfl
  obtain ⟨n1, n2, n3, t, h3, h4⟩ := ty_treeC h2
  exact ⟨n1, n2, n3, t, h3.agg, h4⟩

end Go.Proofs.Ytdaemhaecjldaaa

