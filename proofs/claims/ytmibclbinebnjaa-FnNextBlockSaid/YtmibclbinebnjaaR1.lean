/- Shared texts R (part 1): W33, W36, W37, W38, W35, W39, W68, W42, W95, W46, W47, W48, W49, W50, W51, W52, W53, W58, W97, W54 -/
import Derived.Maps.Views
import Derived.Lib.AppendZerosOnto
import Derived.Lib.SliceRun
import Derived.Lib.Walk
import Derived.Test.YtmibclbinebnjaaQ5

set_option linter.unusedSimpArgs false
set_option linter.unusedVariables false

/- Contracts: the laws' marks. -/
set_option linter.unusedSimpArgs false
set_option linter.unusedVariables false
set_option maxRecDepth 20000
set_option maxHeartbeats 4000000
namespace Go.Proofs.Ytmibclbinebnjaa
open Go Go.RowKit

section
variable {α : Type} (e : α → List AV) (mk : α → Int → α) (st : α → Nat)

def stepS : List α → Nat
  | [] => 0
  | x :: r => st x + stepS r

/-- Elements that are marked one after the other, from k on. -/
def markS : List α → Int → List α
  | [], _ => []
  | x :: r, k => mk x k :: markS r (k + st x)

theorem markS_length : ∀ (xs : List α) (k : Int), (markS mk st xs k).length = xs.length
  | [], _ => rfl
  | x :: r, k => by simp [markS, markS_length r]

theorem stepS_take_succ : ∀ (xs : List α) (i : Nat) (h : i < xs.length), stepS st (xs.take (i + 1)) = stepS st (xs.take i) + st xs[i]
  | x :: r, 0, _ => by simp [stepS]
  | x :: r, i + 1, h => by
    have := stepS_take_succ r i (by simpa using h)
    simp only [List.take_succ_cons, stepS, List.getElem_cons_succ] at this ⊢
    omega

theorem stepS_le : ∀ (xs : List α) (i : Nat), stepS st (xs.take i) ≤ stepS st xs
  | [], _ => by simp [stepS]
  | x :: r, 0 => by simp [stepS]
  | x :: r, i + 1 => by
    have := stepS_le r i
    simp only [List.take_succ_cons, stepS]; omega

theorem stepS_lt (xs : List α) (i : Nat) (h : i < xs.length) : stepS st (xs.take i) + st xs[i] ≤ stepS st xs := by
  rw [← stepS_take_succ st xs i h]; exact stepS_le st xs (i + 1)

theorem markS_append : ∀ (xs ys : List α) (k : Int), markS mk st (xs ++ ys) k = markS mk st xs k ++ markS mk st ys (k + stepS st xs)
  | [], ys, k => by simp [markS, stepS]
  | x :: r, ys, k => by
    simp only [List.cons_append, markS, stepS, markS_append r ys]
    rw [show k + (st x : Int) + (stepS st r : Int) = k + ((st x + stepS st r : Nat) : Int) by omega]

theorem markS_take_succ (xs : List α) (i : Nat) (h : i < xs.length) (k : Int) : markS mk st (xs.take (i + 1)) k = markS mk st (xs.take i) k ++ [mk xs[i] (k + stepS st (xs.take i))] := by
  rw [take_snoc xs i h, markS_append]; rfl

theorem markS_get : ∀ (xs : List α) (i : Nat) (h : i < xs.length) (k : Int), (markS mk st xs k)[i]'(by rw [markS_length]; exact h) = mk xs[i] (k + stepS st (xs.take i))
  | x :: r, 0, _, k => by simp [markS, stepS]
  | x :: r, i + 1, h, k => by
    have := markS_get r i (by simpa using h) (k + st x)
    simp only [markS, List.getElem_cons_succ, List.take_succ_cons, stepS, this]
    rw [show k + (st x : Int) + (stepS st (r.take i) : Int) = k + ((st x + stepS st (r.take i) : Nat) : Int) by omega]

theorem markS_rget (xs : List α) (i : Nat) (k : Int) (h : i < xs.length) : (rows e (markS mk st xs k)).getD i [] = e (mk xs[i] (k + stepS st (xs.take i))) := by
  rw [rows_get _ _ _ (by rw [markS_length]; exact h), markS_get]

/-- The first i elements are marked. -/
def midS (xs : List α) (k : Int) (i : Nat) : List α := markS mk st (xs.take i) k ++ xs.drop i

theorem midS_zero (xs : List α) (k : Int) : midS mk st xs k 0 = xs := by simp [midS, markS]
theorem midS_len (xs : List α) (k : Int) : midS mk st xs k xs.length = markS mk st xs k := by simp [midS]
theorem midS_length (xs : List α) (k : Int) (i : Nat) (hi : i ≤ xs.length) : (midS mk st xs k i).length = xs.length := by
  simp [midS, markS_length]; omega
theorem midS_get (xs : List α) (k : Int) (i : Nat) (h : i < xs.length) : (rows e (midS mk st xs k i)).getD i [] = e xs[i] := by
  have hl : (markS mk st (xs.take i) k).length = i := by rw [markS_length, List.length_take]; omega
  have hl' : i < (midS mk st xs k i).length := by rw [midS_length _ _ _ _ _ (by omega)]; exact h
  rw [rows_get _ _ _ hl']
  congr 1
  have : (midS mk st xs k i)[i]? = some xs[i] := by
    unfold midS
    rw [List.getElem?_append_right (by omega), hl, Nat.sub_self]
    simp [h]
  exact Option.some.inj ((List.getElem?_eq_getElem hl').symm.trans this)
theorem midS_set (xs : List α) (k : Int) (i : Nat) (h : i < xs.length) : (rows e (midS mk st xs k i)).set i (e (mk xs[i] (k + stepS st (xs.take i)))) = rows e (midS mk st xs k (i + 1)) := by
  rw [rows_set]
  congr 1
  have hl : (markS mk st (xs.take i) k).length = i := by rw [markS_length, List.length_take]; omega
  unfold midS
  rw [List.set_append_right _ _ (by omega), hl, Nat.sub_self, drop_cons xs i h, List.set_cons_zero, markS_take_succ _ _ _ _ h, List.append_assoc]
  rfl
end

theorem set_same {α : Type} (l : List α) (i : Nat) (d : α) (h : i < l.length) (v : α) : (l.set i v).getD i d = v := by
  rw [set_getD _ _ _ _ _ h, if_pos rfl]

def mkE (_ : Entry) (k : Int) : Entry := ⟨k, k + 1⟩
def stE (_ : Entry) : Nat := 2
def mkA (_ : Action) (k : Int) : Action := ⟨k, k + 1, k + 1 + 1, k + 1 + 1 + 1⟩
def stA (_ : Action) : Nat := 4
def mkI (_ : Int) (k : Int) : Int := k
def stI (_ : Int) : Nat := 1

theorem c_laws_markEntryS (nn : Bool) (sz : Nat) (xs : List Entry) (k : Int) (hs : xs = [] ∨ sz = 2) (hx : xs.length < 2 ^ 62) (hk : 0 ≤ k ∧ k + stepS stE xs < 2 ^ 62) :
    FSpecM Try.prog 111 [.row 800 xs.length, .int .i64 k] [.osl nn sz (rows encE xs)] (fun r ls' => r = .int .i64 (k + stepS stE xs) ∧ ls' = [.osl nn sz (rows encE (markS mkE stE xs k))]) := by
  refine fspec_introM tab_ok Try.call111 Try.func111 rfl 27 Try.ntmps111 (of_decide_eq_true rfl) (of_decide_eq_true rfl) fun B => codeK_sound tab_ok _ _ _ ?_
  rcases hs with rfl | rfl
  · simp (config := { maxSteps := 4000000 }) only [go_sem, simprocAttr, ↓dnA, Try.f111]
    refine semL_for tab_ok (fun i : Nat => ⟨27, [(0, .row 800 0), (1, .int .i64 k), (5, .int .i64 0)], [(800, .row true nn sz (rows encE ([] : List Entry)))]⟩) (fun i => i) (fun _ => True) 0 [(800, 800)] (Weak.of (by rfl) ?_ ?_ (by rfl)) trivial ?_
    · simp (config := { maxSteps := 4000000 }) only [go_sem, simprocAttr, ↓dnA, Try.f111, frW, wk2, wk1, wkL, wkB, hpW, List.mem_cons, Prod.mk.injEq, exists_eq_left, exists_eq_right, exists_eq]
    · simp (config := { maxSteps := 4000000 }) only [go_sem, simprocAttr, ↓dnA, Try.f111, List.length_nil, nc0, frW, wk2, wk1, wkL, wkB, hpW, List.mem_cons, Prod.mk.injEq, exists_eq_left, exists_eq_right, exists_eq]
    · rintro i -
      simp (config := { maxSteps := 4000000 }) only [go_sem, simprocAttr, ↓dnA, Try.f111, List.length_nil, nc0, rows_length]
      simp [stepS, markS, rows]
  · simp (config := { maxSteps := 4000000 }) only [go_sem, simprocAttr, ↓dnA, Try.f111, rows_length]
    refine semL_for tab_ok (fun i : Nat => ⟨27, [(0, .row 800 xs.length), (1, .int .i64 (k + (stepS stE (xs.take i) : Int))), (5, .int .i64 i)], [(800, .row true nn 2 (rows encE (midS mkE stE xs k i)))]⟩) (fun i => xs.length - i)
      (fun i => i ≤ xs.length) 0 [(800, 800)] (Weak.of (by rfl) ?_ ?_ (by rfl)) (by omega) ?_
    · simp (config := { maxSteps := 4000000 }) only [go_sem, simprocAttr, ↓dnA, Try.f111, midS_zero, frW, wk2, wk1, wkL, wkB, hpW, List.mem_cons, Prod.mk.injEq, exists_eq_left, exists_eq_right, exists_eq]
    · simp (config := { maxSteps := 4000000 }) only [go_sem, simprocAttr, ↓dnA, Try.f111, List.take_zero, stepS, Int.add_zero, nc0, frW, wk2, wk1, wkL, wkB, hpW, List.mem_cons, Prod.mk.injEq, exists_eq_left, exists_eq_right, exists_eq]
    · rintro i hi
      by_cases h : i < xs.length
      · have hb := stepS_lt stE xs i h
        have hm : i < (rows encE (midS mkE stE xs k i)).length := by rw [rows_length, midS_length _ _ _ _ _ hi]; exact h
        have hst : stE xs[i] = 2 := rfl
        have hw1 : IntKind.i64.wrap ((k + (stepS stE (xs.take i) : Int)) + 1) = (k + (stepS stE (xs.take i) : Int)) + 1 := wrap_small _ (by omega) (by omega)
        have hw2 : IntKind.i64.wrap ((k + (stepS stE (xs.take i) : Int)) + 1 + 1) = (k + (stepS stE (xs.take i) : Int)) + 1 + 1 := wrap_small _ (by omega) (by omega)
        have hK : k + (stepS stE (xs.take (i + 1)) : Int) = (k + (stepS stE (xs.take i) : Int)) + 1 + 1 := by rw [stepS_take_succ _ _ _ h, hst]; omega
        simp (config := { maxSteps := 4000000 }) only [go_sem, simprocAttr, ↓dnA, Try.f111, rows_length, midS_length _ _ _ _ _ hi, List.length_set, nlt h, h, nn0, midS_get _ _ _ _ _ _ h, encE, set_same _ _ _ hm, List.set_set, spliceL, hw1, hw2, wsucc h hx]
        refine ⟨i + 1, [(800, 800)], by omega, by dsimp only; omega, Weak.of (by rfl) ?_ ?_ (by rfl)⟩
        · simp (config := { maxSteps := 4000000 }) only [go_sem, simprocAttr, ↓dnA, Try.f111, frW, wk2, wk1, wkL, wkB, hpW, List.mem_cons, Prod.mk.injEq, exists_eq_left, exists_eq_right, exists_eq]
          exact (midS_set encE mkE stE xs k i h).symm
        · simp (config := { maxSteps := 4000000 }) only [go_sem, simprocAttr, ↓dnA, Try.f111, hK, wsucc h hx, frW, wk2, wk1, wkL, wkB, hpW, List.mem_cons, Prod.mk.injEq, exists_eq_left, exists_eq_right, exists_eq]
      · have hi' : i = xs.length := by omega
        subst hi'
        simp (config := { maxSteps := 4000000 }) only [go_sem, simprocAttr, ↓dnA, Try.f111, nlf h, rows_length, midS_len, List.take_length, markS_length]

theorem c_laws_heldEntryS (n1 : Option Bool) (xs : List Entry) (k : Int) (hx : xs.length < 2 ^ 62) (hk : 0 ≤ k ∧ k + stepS stE xs < 2 ^ 62) :
    Det Try.prog 115 [.sl n1 (rows encE (markS mkE stE xs k)), .int .i64 k] (.int .i64 (k + stepS stE xs)) := by
  refine fspec_det tab_ok Try.call115 Try.func115 rfl 31 Try.ntmps115 (of_decide_eq_true rfl) fun B => codeK_sound tab_ok _ _ _ ?_
  simp (config := { maxSteps := 4000000 }) only [go_sem, simprocAttr, ↓dnA, Try.f115]
  refine semL_for tab_ok (fun i : Nat => ⟨31, [(0, .sl n1 (rows encE (markS mkE stE xs k))), (1, .int .i64 (k + (stepS stE (xs.take i) : Int))), (5, .int .i64 i)], []⟩) (fun i => xs.length - i)
    (fun i => i ≤ xs.length) 0 [] (Weak.of rfl trivial ?_ rfl) (by omega) ?_
  · simp (config := { maxSteps := 4000000 }) only [go_sem, simprocAttr, ↓dnA, Try.f115, List.take_zero, stepS, Int.add_zero, nc0, frW, wk2, wk1, wkL, wkB, hpW, List.mem_cons, Prod.mk.injEq, exists_eq_left, exists_eq_right, exists_eq]
  · rintro i hi
    by_cases h : i < xs.length
    · have hb := stepS_lt stE xs i h
      have hst : stE xs[i] = 2 := rfl
      have hw1 : IntKind.i64.wrap ((k + (stepS stE (xs.take i) : Int)) + 1) = (k + (stepS stE (xs.take i) : Int)) + 1 := wrap_small _ (by omega) (by omega)
      have hw2 : IntKind.i64.wrap ((k + (stepS stE (xs.take i) : Int)) + 1 + 1) = (k + (stepS stE (xs.take i) : Int)) + 1 + 1 := wrap_small _ (by omega) (by omega)
      have hK : k + (stepS stE (xs.take (i + 1)) : Int) = (k + (stepS stE (xs.take i) : Int)) + 1 + 1 := by rw [stepS_take_succ _ _ _ h, hst]; omega
      simp (config := { maxSteps := 4000000 }) only [go_sem, simprocAttr, ↓dnA, Try.f115, rows_length, markS_length, nlt h, h, nn0, markS_rget _ _ _ _ _ _ h, encE, mkE, hw1, hw2, wsucc h hx]
      refine ⟨i + 1, [], by omega, by dsimp only; omega, Weak.of rfl trivial ?_ rfl⟩
      simp (config := { maxSteps := 4000000 }) only [go_sem, simprocAttr, ↓dnA, Try.f115, hK, wsucc h hx, frW, wk2, wk1, wkL, wkB, hpW, List.mem_cons, Prod.mk.injEq, exists_eq_left, exists_eq_right, exists_eq]
    · have hi' : i = xs.length := by omega
      subst hi'
      simp (config := { maxSteps := 4000000 }) only [go_sem, simprocAttr, ↓dnA, Try.f115, nlf h, rows_length, List.take_length, markS_length]


theorem c_laws_markActionS (nn : Bool) (sz : Nat) (xs : List Action) (k : Int) (hs : xs = [] ∨ sz = 4) (hx : xs.length < 2 ^ 62) (hk : 0 ≤ k ∧ k + stepS stA xs < 2 ^ 62) :
    FSpecM Try.prog 114 [.row 800 xs.length, .int .i64 k] [.osl nn sz (rows encA xs)] (fun r ls' => r = .int .i64 (k + stepS stA xs) ∧ ls' = [.osl nn sz (rows encA (markS mkA stA xs k))]) := by
  refine fspec_introM tab_ok Try.call114 Try.func114 rfl 41 Try.ntmps114 (of_decide_eq_true rfl) (of_decide_eq_true rfl) fun B => codeK_sound tab_ok _ _ _ ?_
  rcases hs with rfl | rfl
  · simp (config := { maxSteps := 4000000 }) only [go_sem, simprocAttr, ↓dnA, Try.f114]
    refine semL_for tab_ok (fun i : Nat => ⟨41, [(0, .row 800 0), (1, .int .i64 k), (5, .int .i64 0)], [(800, .row true nn sz (rows encA ([] : List Action)))]⟩) (fun i => i) (fun _ => True) 0 [(800, 800)] (Weak.of (by rfl) ?_ ?_ (by rfl)) trivial ?_
    · simp (config := { maxSteps := 4000000 }) only [go_sem, simprocAttr, ↓dnA, Try.f114, frW, wk2, wk1, wkL, wkB, hpW, List.mem_cons, Prod.mk.injEq, exists_eq_left, exists_eq_right, exists_eq]
    · simp (config := { maxSteps := 4000000 }) only [go_sem, simprocAttr, ↓dnA, Try.f114, List.length_nil, nc0, frW, wk2, wk1, wkL, wkB, hpW, List.mem_cons, Prod.mk.injEq, exists_eq_left, exists_eq_right, exists_eq]
    · rintro i -
      simp (config := { maxSteps := 4000000 }) only [go_sem, simprocAttr, ↓dnA, Try.f114, List.length_nil, nc0, rows_length]
      simp [stepS, markS, rows]
  · simp (config := { maxSteps := 4000000 }) only [go_sem, simprocAttr, ↓dnA, Try.f114, rows_length]
    refine semL_for tab_ok (fun i : Nat => ⟨41, [(0, .row 800 xs.length), (1, .int .i64 (k + (stepS stA (xs.take i) : Int))), (5, .int .i64 i)], [(800, .row true nn 4 (rows encA (midS mkA stA xs k i)))]⟩) (fun i => xs.length - i)
      (fun i => i ≤ xs.length) 0 [(800, 800)] (Weak.of (by rfl) ?_ ?_ (by rfl)) (by omega) ?_
    · simp (config := { maxSteps := 4000000 }) only [go_sem, simprocAttr, ↓dnA, Try.f114, midS_zero, frW, wk2, wk1, wkL, wkB, hpW, List.mem_cons, Prod.mk.injEq, exists_eq_left, exists_eq_right, exists_eq]
    · simp (config := { maxSteps := 4000000 }) only [go_sem, simprocAttr, ↓dnA, Try.f114, List.take_zero, stepS, Int.add_zero, nc0, frW, wk2, wk1, wkL, wkB, hpW, List.mem_cons, Prod.mk.injEq, exists_eq_left, exists_eq_right, exists_eq]
    · rintro i hi
      by_cases h : i < xs.length
      · have hb := stepS_lt stA xs i h
        have hm : i < (rows encA (midS mkA stA xs k i)).length := by rw [rows_length, midS_length _ _ _ _ _ hi]; exact h
        have hst : stA xs[i] = 4 := rfl
        have hw1 : IntKind.i64.wrap ((k + (stepS stA (xs.take i) : Int)) + 1) = (k + (stepS stA (xs.take i) : Int)) + 1 := wrap_small _ (by omega) (by omega)
        have hw2 : IntKind.i64.wrap ((k + (stepS stA (xs.take i) : Int)) + 1 + 1) = (k + (stepS stA (xs.take i) : Int)) + 1 + 1 := wrap_small _ (by omega) (by omega)
        have hw3 : IntKind.i64.wrap ((k + (stepS stA (xs.take i) : Int)) + 1 + 1 + 1) = (k + (stepS stA (xs.take i) : Int)) + 1 + 1 + 1 := wrap_small _ (by omega) (by omega)
        have hw4 : IntKind.i64.wrap ((k + (stepS stA (xs.take i) : Int)) + 1 + 1 + 1 + 1) = (k + (stepS stA (xs.take i) : Int)) + 1 + 1 + 1 + 1 := wrap_small _ (by omega) (by omega)
        have hK : k + (stepS stA (xs.take (i + 1)) : Int) = (k + (stepS stA (xs.take i) : Int)) + 1 + 1 + 1 + 1 := by rw [stepS_take_succ _ _ _ h, hst]; omega
        simp (config := { maxSteps := 4000000 }) only [go_sem, simprocAttr, ↓dnA, Try.f114, rows_length, midS_length _ _ _ _ _ hi, List.length_set, nlt h, h, nn0, midS_get _ _ _ _ _ _ h, encA, set_same _ _ _ hm, List.set_set, spliceL, hw1, hw2, hw3, hw4, wsucc h hx]
        refine ⟨i + 1, [(800, 800)], by omega, by dsimp only; omega, Weak.of (by rfl) ?_ ?_ (by rfl)⟩
        · simp (config := { maxSteps := 4000000 }) only [go_sem, simprocAttr, ↓dnA, Try.f114, frW, wk2, wk1, wkL, wkB, hpW, List.mem_cons, Prod.mk.injEq, exists_eq_left, exists_eq_right, exists_eq]
          exact (midS_set encA mkA stA xs k i h).symm
        · simp (config := { maxSteps := 4000000 }) only [go_sem, simprocAttr, ↓dnA, Try.f114, hK, wsucc h hx, frW, wk2, wk1, wkL, wkB, hpW, List.mem_cons, Prod.mk.injEq, exists_eq_left, exists_eq_right, exists_eq]
      · have hi' : i = xs.length := by omega
        subst hi'
        simp (config := { maxSteps := 4000000 }) only [go_sem, simprocAttr, ↓dnA, Try.f114, nlf h, rows_length, midS_len, List.take_length, markS_length]

theorem c_laws_heldActionS (n1 : Option Bool) (xs : List Action) (k : Int) (hx : xs.length < 2 ^ 62) (hk : 0 ≤ k ∧ k + stepS stA xs < 2 ^ 62) :
    Det Try.prog 164 [.sl n1 (rows encA (markS mkA stA xs k)), .int .i64 k] (.int .i64 (k + stepS stA xs)) := by
  refine fspec_det tab_ok Try.call164 Try.func164 rfl 49 Try.ntmps164 (of_decide_eq_true rfl) fun B => codeK_sound tab_ok _ _ _ ?_
  simp (config := { maxSteps := 4000000 }) only [go_sem, simprocAttr, ↓dnA, Try.f164]
  refine semL_for tab_ok (fun i : Nat => ⟨49, [(0, .sl n1 (rows encA (markS mkA stA xs k))), (1, .int .i64 (k + (stepS stA (xs.take i) : Int))), (5, .int .i64 i)], []⟩) (fun i => xs.length - i)
    (fun i => i ≤ xs.length) 0 [] (Weak.of rfl trivial ?_ rfl) (by omega) ?_
  · simp (config := { maxSteps := 4000000 }) only [go_sem, simprocAttr, ↓dnA, Try.f164, List.take_zero, stepS, Int.add_zero, nc0, frW, wk2, wk1, wkL, wkB, hpW, List.mem_cons, Prod.mk.injEq, exists_eq_left, exists_eq_right, exists_eq]
  · rintro i hi
    by_cases h : i < xs.length
    · have hb := stepS_lt stA xs i h
      have hst : stA xs[i] = 4 := rfl
      have hw1 : IntKind.i64.wrap ((k + (stepS stA (xs.take i) : Int)) + 1) = (k + (stepS stA (xs.take i) : Int)) + 1 := wrap_small _ (by omega) (by omega)
      have hw2 : IntKind.i64.wrap ((k + (stepS stA (xs.take i) : Int)) + 1 + 1) = (k + (stepS stA (xs.take i) : Int)) + 1 + 1 := wrap_small _ (by omega) (by omega)
      have hw3 : IntKind.i64.wrap ((k + (stepS stA (xs.take i) : Int)) + 1 + 1 + 1) = (k + (stepS stA (xs.take i) : Int)) + 1 + 1 + 1 := wrap_small _ (by omega) (by omega)
      have hw4 : IntKind.i64.wrap ((k + (stepS stA (xs.take i) : Int)) + 1 + 1 + 1 + 1) = (k + (stepS stA (xs.take i) : Int)) + 1 + 1 + 1 + 1 := wrap_small _ (by omega) (by omega)
      have hK : k + (stepS stA (xs.take (i + 1)) : Int) = (k + (stepS stA (xs.take i) : Int)) + 1 + 1 + 1 + 1 := by rw [stepS_take_succ _ _ _ h, hst]; omega
      simp (config := { maxSteps := 4000000 }) only [go_sem, simprocAttr, ↓dnA, Try.f164, rows_length, markS_length, nlt h, h, nn0, markS_rget _ _ _ _ _ _ h, encA, mkA, hw1, hw2, hw3, hw4, wsucc h hx]
      refine ⟨i + 1, [], by omega, by dsimp only; omega, Weak.of rfl trivial ?_ rfl⟩
      simp (config := { maxSteps := 4000000 }) only [go_sem, simprocAttr, ↓dnA, Try.f164, hK, wsucc h hx, frW, wk2, wk1, wkL, wkB, hpW, List.mem_cons, Prod.mk.injEq, exists_eq_left, exists_eq_right, exists_eq]
    · have hi' : i = xs.length := by omega
      subst hi'
      simp (config := { maxSteps := 4000000 }) only [go_sem, simprocAttr, ↓dnA, Try.f164, nlf h, rows_length, List.take_length, markS_length]


theorem c_laws_markIntS (nn : Bool) (sz : Nat) (xs : List Int) (k : Int) (hs : xs = [] ∨ sz = 1) (hx : xs.length < 2 ^ 62) (hk : 0 ≤ k ∧ k + stepS stI xs < 2 ^ 62) :
    FSpecM Try.prog 113 [.row 800 xs.length, .int .i64 k] [.osl nn sz (rows encI xs)] (fun r ls' => r = .int .i64 (k + stepS stI xs) ∧ ls' = [.osl nn sz (rows encI (markS mkI stI xs k))]) := by
  refine fspec_introM tab_ok Try.call113 Try.func113 rfl 19 Try.ntmps113 (of_decide_eq_true rfl) (of_decide_eq_true rfl) fun B => codeK_sound tab_ok _ _ _ ?_
  rcases hs with rfl | rfl
  · simp (config := { maxSteps := 4000000 }) only [go_sem, simprocAttr, ↓dnA, Try.f113]
    refine semL_for tab_ok (fun i : Nat => ⟨19, [(0, .row 800 0), (1, .int .i64 k), (5, .int .i64 0)], [(800, .row true nn sz (rows encI ([] : List Int)))]⟩) (fun i => i) (fun _ => True) 0 [(800, 800)] (Weak.of (by rfl) ?_ ?_ (by rfl)) trivial ?_
    · simp (config := { maxSteps := 4000000 }) only [go_sem, simprocAttr, ↓dnA, Try.f113, frW, wk2, wk1, wkL, wkB, hpW, List.mem_cons, Prod.mk.injEq, exists_eq_left, exists_eq_right, exists_eq]
    · simp (config := { maxSteps := 4000000 }) only [go_sem, simprocAttr, ↓dnA, Try.f113, List.length_nil, nc0, frW, wk2, wk1, wkL, wkB, hpW, List.mem_cons, Prod.mk.injEq, exists_eq_left, exists_eq_right, exists_eq]
    · rintro i -
      simp (config := { maxSteps := 4000000 }) only [go_sem, simprocAttr, ↓dnA, Try.f113, List.length_nil, nc0, rows_length]
      simp [stepS, markS, rows]
  · simp (config := { maxSteps := 4000000 }) only [go_sem, simprocAttr, ↓dnA, Try.f113, rows_length]
    refine semL_for tab_ok (fun i : Nat => ⟨19, [(0, .row 800 xs.length), (1, .int .i64 (k + (stepS stI (xs.take i) : Int))), (5, .int .i64 i)], [(800, .row true nn 1 (rows encI (midS mkI stI xs k i)))]⟩) (fun i => xs.length - i)
      (fun i => i ≤ xs.length) 0 [(800, 800)] (Weak.of (by rfl) ?_ ?_ (by rfl)) (by omega) ?_
    · simp (config := { maxSteps := 4000000 }) only [go_sem, simprocAttr, ↓dnA, Try.f113, midS_zero, frW, wk2, wk1, wkL, wkB, hpW, List.mem_cons, Prod.mk.injEq, exists_eq_left, exists_eq_right, exists_eq]
    · simp (config := { maxSteps := 4000000 }) only [go_sem, simprocAttr, ↓dnA, Try.f113, List.take_zero, stepS, Int.add_zero, nc0, frW, wk2, wk1, wkL, wkB, hpW, List.mem_cons, Prod.mk.injEq, exists_eq_left, exists_eq_right, exists_eq]
    · rintro i hi
      by_cases h : i < xs.length
      · have hb := stepS_lt stI xs i h
        have hm : i < (rows encI (midS mkI stI xs k i)).length := by rw [rows_length, midS_length _ _ _ _ _ hi]; exact h
        have hst : stI xs[i] = 1 := rfl
        have hw1 : IntKind.i64.wrap ((k + (stepS stI (xs.take i) : Int)) + 1) = (k + (stepS stI (xs.take i) : Int)) + 1 := wrap_small _ (by omega) (by omega)
        have hK : k + (stepS stI (xs.take (i + 1)) : Int) = (k + (stepS stI (xs.take i) : Int)) + 1 := by rw [stepS_take_succ _ _ _ h, hst]; omega
        simp (config := { maxSteps := 4000000 }) only [go_sem, simprocAttr, ↓dnA, Try.f113, rows_length, midS_length _ _ _ _ _ hi, List.length_set, nlt h, h, nn0, midS_get _ _ _ _ _ _ h, encI, set_same _ _ _ hm, List.set_set, spliceL, hw1, wsucc h hx]
        refine ⟨i + 1, [(800, 800)], by omega, by dsimp only; omega, Weak.of (by rfl) ?_ ?_ (by rfl)⟩
        · simp (config := { maxSteps := 4000000 }) only [go_sem, simprocAttr, ↓dnA, Try.f113, frW, wk2, wk1, wkL, wkB, hpW, List.mem_cons, Prod.mk.injEq, exists_eq_left, exists_eq_right, exists_eq]
          exact (midS_set encI mkI stI xs k i h).symm
        · simp (config := { maxSteps := 4000000 }) only [go_sem, simprocAttr, ↓dnA, Try.f113, hK, wsucc h hx, frW, wk2, wk1, wkL, wkB, hpW, List.mem_cons, Prod.mk.injEq, exists_eq_left, exists_eq_right, exists_eq]
      · have hi' : i = xs.length := by omega
        subst hi'
        simp (config := { maxSteps := 4000000 }) only [go_sem, simprocAttr, ↓dnA, Try.f113, nlf h, rows_length, midS_len, List.take_length, markS_length]

theorem c_laws_heldIntS (n1 : Option Bool) (xs : List Int) (k : Int) (hx : xs.length < 2 ^ 62) (hk : 0 ≤ k ∧ k + stepS stI xs < 2 ^ 62) :
    Det Try.prog 117 [.sl n1 (rows encI (markS mkI stI xs k)), .int .i64 k] (.int .i64 (k + stepS stI xs)) := by
  refine fspec_det tab_ok Try.call117 Try.func117 rfl 21 Try.ntmps117 (of_decide_eq_true rfl) fun B => codeK_sound tab_ok _ _ _ ?_
  simp (config := { maxSteps := 4000000 }) only [go_sem, simprocAttr, ↓dnA, Try.f117]
  refine semL_for tab_ok (fun i : Nat => ⟨21, [(0, .sl n1 (rows encI (markS mkI stI xs k))), (1, .int .i64 (k + (stepS stI (xs.take i) : Int))), (5, .int .i64 i)], []⟩) (fun i => xs.length - i)
    (fun i => i ≤ xs.length) 0 [] (Weak.of rfl trivial ?_ rfl) (by omega) ?_
  · simp (config := { maxSteps := 4000000 }) only [go_sem, simprocAttr, ↓dnA, Try.f117, List.take_zero, stepS, Int.add_zero, nc0, frW, wk2, wk1, wkL, wkB, hpW, List.mem_cons, Prod.mk.injEq, exists_eq_left, exists_eq_right, exists_eq]
  · rintro i hi
    by_cases h : i < xs.length
    · have hb := stepS_lt stI xs i h
      have hst : stI xs[i] = 1 := rfl
      have hw1 : IntKind.i64.wrap ((k + (stepS stI (xs.take i) : Int)) + 1) = (k + (stepS stI (xs.take i) : Int)) + 1 := wrap_small _ (by omega) (by omega)
      have hK : k + (stepS stI (xs.take (i + 1)) : Int) = (k + (stepS stI (xs.take i) : Int)) + 1 := by rw [stepS_take_succ _ _ _ h, hst]; omega
      simp (config := { maxSteps := 4000000 }) only [go_sem, simprocAttr, ↓dnA, Try.f117, rows_length, markS_length, nlt h, h, nn0, markS_rget _ _ _ _ _ _ h, encI, mkI, hw1, wsucc h hx]
      refine ⟨i + 1, [], by omega, by dsimp only; omega, Weak.of rfl trivial ?_ rfl⟩
      simp (config := { maxSteps := 4000000 }) only [go_sem, simprocAttr, ↓dnA, Try.f117, hK, wsucc h hx, frW, wk2, wk1, wkL, wkB, hpW, List.mem_cons, Prod.mk.injEq, exists_eq_left, exists_eq_right, exists_eq]
    · have hi' : i = xs.length := by omega
      subst hi'
      simp (config := { maxSteps := 4000000 }) only [go_sem, simprocAttr, ↓dnA, Try.f117, nlf h, rows_length, List.take_length, markS_length]


end Go.Proofs.Ytmibclbinebnjaa

/- Contracts: reversed lists, the way to a block. -/
set_option linter.unusedSimpArgs false
set_option linter.unusedVariables false
set_option maxRecDepth 20000
set_option maxHeartbeats 4000000
namespace Go.Proofs.Ytmibclbinebnjaa
open Go Go.RowKit

theorem semL_ghost {P : Program} {B : Base} {c : Code} {s t : AState} {Kx : Exit → AState → Prop} (hg : Ghost s t) (h : @SemL P B c t ⟨Kx⟩) : @SemL P B c s ⟨Kx⟩ := by
  intro X a w hB hR
  obtain ⟨X', e, hR'⟩ := hg X a w hR
  exact h X' a w (e.trans hB) hR'

/-- The first i elements are exchanged with the last i. -/
def revTo {α : Type} (xs : List α) (i : Nat) : List α := (xs.drop (xs.length - i)).reverse ++ ((xs.take (xs.length - i)).drop i) ++ (xs.take i).reverse

theorem revTo_zero {α : Type} (xs : List α) : revTo xs 0 = xs := by simp [revTo]
theorem revTo_length {α : Type} (xs : List α) (i : Nat) (h : 2 * i ≤ xs.length) : (revTo xs i).length = xs.length := by
  simp only [revTo, List.length_append, List.length_reverse, List.length_drop, List.length_take]; omega
theorem revTo_getElem {α : Type} (xs : List α) (i k : Nat) (h : 2 * i ≤ xs.length) (hk : k < xs.length) :
    (revTo xs i)[k]? = if k < i ∨ xs.length - i ≤ k then xs[xs.length - 1 - k]? else xs[k]? := by
  unfold revTo
  have l1 : ((xs.drop (xs.length - i)).reverse).length = i := by rw [List.length_reverse, List.length_drop]; omega
  have l2 : ((xs.take (xs.length - i)).drop i).length = xs.length - i - i := by rw [List.length_drop, List.length_take]; omega
  by_cases h1 : k < i
  · rw [if_pos (.inl h1), List.append_assoc, List.getElem?_append_left (by omega), List.getElem?_reverse (by rw [List.length_drop]; omega), List.length_drop, List.getElem?_drop]
    congr 1; omega
  · by_cases h2 : xs.length - i ≤ k
    · rw [if_pos (.inr h2), List.getElem?_append_right (by rw [List.length_append]; omega), List.length_append, l1, l2, List.getElem?_reverse (by rw [List.length_take]; omega), List.length_take, List.getElem?_take, if_pos (by omega)]
      congr 1; omega
    · rw [if_neg (by omega), List.append_assoc, List.getElem?_append_right (by omega), List.getElem?_append_left (by omega), List.getElem?_drop, List.getElem?_take, l1, if_pos (by omega)]
      congr 1; omega
theorem revTo_step {α : Type} (xs : List α) (i : Nat) (h : i < xs.length - 1 - i) :
    ((revTo xs i).set i (xs[xs.length - 1 - i]'(by omega))).set (xs.length - 1 - i) (xs[i]'(by omega)) = revTo xs (i + 1) := by
  apply List.ext_getElem?
  intro k
  have hl := revTo_length xs i (by omega)
  have hl' := revTo_length xs (i + 1) (by omega)
  by_cases hk : k < xs.length
  · rw [List.getElem?_set, List.getElem?_set, revTo_getElem xs i k (by omega) hk, revTo_getElem xs (i + 1) k (by omega) hk]
    simp only [List.length_set, hl]
    by_cases h1 : xs.length - 1 - i = k
    · subst h1
      rw [if_pos rfl, if_pos (by omega), if_pos (.inr (by omega)), show xs.length - 1 - (xs.length - 1 - i) = i by omega, List.getElem?_eq_getElem (by omega)]
    · rw [if_neg h1]
      by_cases h2 : i = k
      · subst h2
        rw [if_pos rfl, if_pos (by omega), if_pos (.inl (by omega)), List.getElem?_eq_getElem (by omega)]
      · rw [if_neg h2]
        by_cases h3 : k < i ∨ xs.length - i ≤ k
        · rw [if_pos h3, if_pos (by omega)]
        · rw [if_neg h3, if_neg (by omega)]
  · rw [List.getElem?_eq_none (by simp; omega), List.getElem?_eq_none (by omega)]
theorem revTo_full {α : Type} (xs : List α) (i : Nat) (h : ¬ i < xs.length - 1 - i) (h2 : 2 * i ≤ xs.length) : revTo xs i = xs.reverse := by
  apply List.ext_getElem?
  intro k
  by_cases hk : k < xs.length
  · rw [revTo_getElem xs i k h2 hk, List.getElem?_reverse hk]
    split
    · rfl
    · rw [show xs.length - 1 - k = k by omega]
  · rw [List.getElem?_eq_none (by rw [revTo_length xs i h2]; omega), List.getElem?_eq_none (by simp; omega)]

theorem c_slices_Reverse_int (nn : Bool) (xs : List Int) (hx : xs.length < 2 ^ 62) :
    FSpecM Try.prog 183 [.row 800 xs.length] [.osl nn 1 (rows encI xs)] (fun r ls' => r = .tup [] ∧ ls' = [.osl nn 1 (rows encI xs.reverse)]) := by
  refine fspec_introM tab_ok Try.call183 Try.func183 rfl 28 Try.ntmps183 (of_decide_eq_true rfl) (of_decide_eq_true rfl) fun B => codeK_sound tab_ok _ _ _ ?_
  have hw0 : IntKind.i64.wrap ((xs.length : Int) - 1) = (xs.length : Int) - 1 := wrap_small _ (by omega) (by omega)
  simp (config := { maxSteps := 4000000 }) only [go_sem, simprocAttr, ↓dnA, Try.f183, rows_length, hw0]
  refine semL_for tab_ok (fun i : Nat => ⟨28, [(0, .row 800 xs.length), (2, .int .i64 i), (3, .int .i64 ((xs.length : Int) - 1 - i))], [(800, .row true nn 1 (rows encI (revTo xs i)))]⟩) (fun i => xs.length - i)
    (fun i => 2 * i ≤ xs.length) 0 [(800, 800)] (Weak.of (by rfl) ?_ ?_ (by rfl)) (by omega) ?_
  · simp (config := { maxSteps := 4000000 }) only [go_sem, simprocAttr, ↓dnA, Try.f183, revTo_zero, frW, wk2, wk1, wkL, wkB, hpW, List.mem_cons, Prod.mk.injEq, exists_eq_left, exists_eq_right, exists_eq]
  · simp (config := { maxSteps := 4000000 }) only [go_sem, simprocAttr, ↓dnA, Try.f183, nc0, Int.sub_zero, frW, wk2, wk1, wkL, wkB, hpW, List.mem_cons, Prod.mk.injEq, exists_eq_left, exists_eq_right, exists_eq]
  · rintro i hi
    have hl := revTo_length xs i hi
    by_cases h : (i : Int) < (xs.length : Int) - 1 - i
    · have hi1 : i < xs.length := by omega
      obtain ⟨j, hj⟩ : ∃ j : Nat, (xs.length : Int) - 1 - i = (j : Int) := ⟨((xs.length : Int) - 1 - i).toNat, by omega⟩
      have hj1 : j < xs.length := by omega
      have hje : j = xs.length - 1 - i := by omega
      have hij : ((i : Int) < (j : Int)) = True := by simp; omega
      have gi : (rows encI (revTo xs i)).getD i [] = encI xs[i] := by
        have := revTo_getElem xs i i hi hi1
        rw [if_neg (by omega), List.getElem?_eq_getElem hi1, List.getElem?_eq_getElem (by omega)] at this
        rw [rows_get _ _ _ (by omega), Option.some.inj this]
      have gj : (rows encI (revTo xs i)).getD j [] = encI xs[j] := by
        have := revTo_getElem xs i j hi hj1
        rw [if_neg (by omega), List.getElem?_eq_getElem hj1, List.getElem?_eq_getElem (by omega)] at this
        rw [rows_get _ _ _ (by omega), Option.some.inj this]
      have hs : ((rows encI (revTo xs i)).set i [.int .i64 xs[j]]).set j [.int .i64 xs[i]] = rows encI (revTo xs (i + 1)) := by
        have h3 := revTo_step xs i (by omega)
        subst hje
        rw [← h3, ← rows_set, ← rows_set]
        rfl
      have hj2 : ((rows encI (revTo xs i)).set i [.int .i64 xs[j]]).getD j [] = encI xs[j] := by
        rw [set_getD _ _ _ _ _ (by rw [rows_length, hl]; exact hi1), if_neg (by omega)]; exact gj
      have hw1 : IntKind.i64.wrap ((j : Int) - 1) = (xs.length : Int) - 1 - ((i + 1 : Nat) : Int) := by rw [wrap_small _ (by omega) (by omega)]; omega
      simp (config := { maxSteps := 4000000 }) only [go_sem, simprocAttr, ↓dnA, Try.f183, hj, hij, rows_length, hl]
      refine semL_draw tab_ok mixed_ rfl (ord := [(0, []), (1, []), (2, []), (3, []), (4, []), (5, []), (6, []), (7, []), (8, []), (9, []), (10, []), (11, []), (12, []), (13, [2, 3]), (14, []), (15, [])]) (by dsimp only; decide +kernel) ?_
      simp (config := { maxSteps := 4000000 }) only [go_sem, simprocAttr, ↓dnA, Try.f183, hj, rows_length, hl, List.length_set, nlt hi1, nlt hj1, hi1, hj1, nn0, gi, gj, encI, spliceL, hj2, hw1, wsucc hi1 hx]
      refine ⟨i + 1, [(800, 800)], by omega, by dsimp only; omega, Weak.of (by rfl) ?_ ?_ (by rfl)⟩
      · simp (config := { maxSteps := 4000000 }) only [go_sem, simprocAttr, ↓dnA, Try.f183, frW, wk2, wk1, wkL, wkB, hpW, List.mem_cons, Prod.mk.injEq, exists_eq_left, exists_eq_right, exists_eq]
        exact hs.symm
      · simp (config := { maxSteps := 4000000 }) only [go_sem, simprocAttr, ↓dnA, Try.f183, frW, wk2, wk1, wkL, wkB, hpW, List.mem_cons, Prod.mk.injEq, exists_eq_left, exists_eq_right, exists_eq]
    · simp (config := { maxSteps := 4000000 }) only [go_sem, simprocAttr, ↓dnA, Try.f183, eq_false h, rows_length, hl, revTo_full xs i (by omega) hi, List.length_reverse]

end Go.Proofs.Ytmibclbinebnjaa

/- Contracts: the way to a block. -/
set_option linter.unusedSimpArgs false
set_option linter.unusedVariables false
set_option maxRecDepth 20000
set_option maxHeartbeats 4000000
namespace Go.Proofs.Ytmibclbinebnjaa
open Go Go.RowKit

/-- The numbers of the blocks from one back to the first, at most f of them. -/
def backF (t : Tree) : Nat → Int → List Int
  | 0, _ => []
  | f + 1, n => if n < 0 then [] else n :: backF t f (t.bef n.toNat)
def back (t : Tree) (n : Int) : List Int := backF t (n.toNat + 1) n
def pathL (t : Tree) (n : Int) : List Int := (back t n).reverse

theorem backF_eq {t : Tree} (ht : TreeOk t) : ∀ (f : Nat) (n : Int), n < t.blocks.length → n + 1 ≤ f → backF t f n = back t n
  | 0, n, _, hf => by
    unfold back
    rw [show backF t 0 n = [] from rfl]
    unfold backF
    rw [if_pos (by omega)]
  | f + 1, n, hn, hf => by
    unfold back
    by_cases h : n < 0
    · unfold backF; rw [if_pos h, if_pos h]
    · unfold backF
      rw [if_neg h, if_neg h]
      obtain ⟨k, rfl⟩ : ∃ k : Nat, n = (k : Int) := ⟨n.toNat, by omega⟩
      rw [Int.toNat_natCast]
      have hb : t.bef k < k := by
        by_cases hk : k = 0
        · subst hk; rw [ht.bef0]; omega
        · exact (ht.link k (by omega) (by omega)).hi
      congr 1
      by_cases h2 : t.bef k < 0
      · have h0 : ∀ g, backF t g (t.bef k) = [] := fun g => by
          cases g with
          | zero => rfl
          | succ g => unfold backF; rw [if_pos h2]
        rw [h0, h0]
      · rw [backF_eq ht f (t.bef k) (by omega) (by omega), backF_eq ht k (t.bef k) (by omega) (by omega)]
termination_by f => f

theorem back_neg (t : Tree) (n : Int) (h : n < 0) : back t n = [] := by unfold back backF; rw [if_pos h]
theorem back_cons {t : Tree} (ht : TreeOk t) (k : Nat) (h : k < t.blocks.length) : back t (k : Int) = (k : Int) :: back t (t.bef k) ∧ t.bef k < k ∧ (t.bef k = -1 ∨ 0 ≤ t.bef k) := by
  have hb : t.bef k < k ∧ (t.bef k = -1 ∨ 0 ≤ t.bef k) := by
    by_cases hk : k = 0
    · subst hk; rw [ht.bef0]; omega
    · have := ht.link k (by omega) h
      exact ⟨this.hi, .inr this.lo⟩
  refine ⟨?_, hb⟩
  conv => lhs; unfold back backF
  rw [if_neg (by omega), Int.toNat_natCast]
  congr 1
  by_cases h2 : t.bef k < 0
  · rw [back_neg _ _ h2]
    cases k with
    | zero => rfl
    | succ k => unfold backF; rw [if_pos h2]
  · exact backF_eq ht k _ (by omega) (by omega)

theorem back_len {t : Tree} (ht : TreeOk t) : ∀ (m : Nat) (n : Int), n < m → n < t.blocks.length → ((back t n).length : Int) ≤ n + 1 ∨ n < 0
  | 0, n, h, _ => .inr (by omega)
  | m + 1, n, h, hn => by
    by_cases h0 : n < 0
    · exact .inr h0
    · obtain ⟨k, rfl⟩ : ∃ k : Nat, n = (k : Int) := ⟨n.toNat, by omega⟩
      obtain ⟨h1, h2, h3⟩ := back_cons ht k (by omega)
      rw [h1, List.length_cons]
      rcases back_len ht m (t.bef k) (by omega) (by omega) with h4 | h4
      · exact .inl (by omega)
      · rw [back_neg _ _ h4]; exact .inl (by simp; omega)

theorem pathL_len {t : Tree} (ht : TreeOk t) {n : Int} (hn : n < t.blocks.length) : (pathL t n).length ≤ 14 := by
  have h1 := back_len ht (n.toNat + 1) n (by omega) hn
  have h2 := ht.len
  unfold pathL
  rw [List.length_reverse]
  rcases h1 with h1 | h1
  · omega
  · rw [back_neg _ _ h1]; simp

theorem back_bd {t : Tree} (ht : TreeOk t) : ∀ (m : Nat) (n : Int), n < m → n < t.blocks.length → ∀ x, x ∈ back t n → 0 ≤ x ∧ x ≤ n
  | 0, n, h, _, x, hx => by rw [back_neg _ _ (by omega)] at hx; cases hx
  | m + 1, n, h, hn, x, hx => by
    by_cases h0 : n < 0
    · rw [back_neg _ _ h0] at hx; cases hx
    · obtain ⟨k, rfl⟩ : ∃ k : Nat, n = (k : Int) := ⟨n.toNat, by omega⟩
      obtain ⟨h1, h2, h3⟩ := back_cons ht k (by omega)
      rw [h1] at hx
      rcases List.mem_cons.1 hx with e | e
      · omega
      · have := back_bd ht m (t.bef k) (by omega) (by omega) x e
        omega
theorem pathL_bd {t : Tree} (ht : TreeOk t) {n : Int} (hn : n < t.blocks.length) : ∀ x, x ∈ pathL t n → 0 ≤ x ∧ x ≤ n := by
  intro x hx
  unfold pathL at hx
  rw [List.mem_reverse] at hx
  exact back_bd ht (n.toNat + 1) n (by omega) hn x hx

theorem c_impl_path (n1 n2 n3 : Option Bool) (t : Tree) (n : Int) (ht : TreeOk t) (hx : TreeSz t) (hn : n < t.blocks.length) :
    Det Try.prog 144 [.agg (encT n1 n2 n3 t), .int .i64 n] (.osl false 1 (rows encI (pathL t n))) := by
  refine fspec_det tab_ok Try.call144 Try.func144 rfl 20 Try.ntmps144 (of_decide_eq_true rfl) fun B => codeK_sound tab_ok _ _ _ ?_
  have hlen := ht.len
  simp (config := { maxSteps := 4000000 }) only [go_sem, simprocAttr, ↓dnA, Try.f144, encT]
  refine semL_nilA 5 5 1 true (by rfl) (by rfl) (by decide) (by decide) ?_
  refine semL_for tab_ok (fun p : Int × List Int => ⟨20, [(1, .int .i64 p.1), (2, .loc 2 0), (5, .row 5 p.2.length)], [(2, .var (encT n1 n2 n3 t)), (5, .row true false 1 (rows encI p.2))]⟩) (fun p => (p.1 + 1).toNat)
    (fun p => p.1 < t.blocks.length ∧ p.2.length + (p.1 + 1).toNat ≤ 30 ∧ p.2 ++ back t p.1 = back t n) (n, []) [(2, 2), (5, 5)] (Weak.of (by rfl) ?_ ?_ (by rfl)) ⟨hn, by simp; omega, rfl⟩ ?_
  · simp (config := { maxSteps := 4000000 }) only [go_sem, simprocAttr, ↓dnA, Try.f144, encT, frW, wk2, wk1, wkL, wkB, hpW, List.mem_cons, Prod.mk.injEq, exists_eq_left, exists_eq_right, exists_eq]
    rfl
  · simp (config := { maxSteps := 4000000 }) only [go_sem, simprocAttr, ↓dnA, Try.f144, frW, wk2, wk1, wkL, wkB, hpW, List.mem_cons, Prod.mk.injEq, exists_eq_left, exists_eq_right, exists_eq]
  · rintro ⟨m, acc⟩ ⟨hm, hac, hp⟩
    dsimp only at hm hac hp
    have htk := take_rows encI acc acc.length rfl
    by_cases h : m < 0
    · have hd : decide (m ≥ 0) = false := by simp; omega
      rw [back_neg _ _ h, List.append_nil] at hp
      subst hp
      simp (config := { maxSteps := 4000000 }) only [go_sem, simprocAttr, ↓dnA, Try.f144, hd, rows_length, List.nodup_cons]
      refine CallMTo.of (c_slices_Reverse_int false (back t n) (by omega)) ?_
      rintro r ls' ⟨rfl, rfl⟩
      simp (config := { maxSteps := 4000000 }) only [go_sem, simprocAttr, ↓dnA, Try.f144, rows_length, List.length_reverse, pathL]
    · have hd : decide (m ≥ 0) = true := by simp; omega
      obtain ⟨k, rfl⟩ : ∃ k : Nat, m = (k : Int) := ⟨m.toNat, by omega⟩
      have hk : k < t.blocks.length := by omega
      have hkb : k < t.before.length := by rw [ht.bef]; exact hk
      obtain ⟨h1, h2, h3⟩ := back_cons ht k hk
      have g1 : (rows encI t.before).getD k [] = encI (t.bef k) := by rw [rows_get _ _ k hkb, t.bef_get k hkb]
      simp (config := { maxSteps := 4000000 }) only [go_sem, simprocAttr, ↓dnA, Try.f144, encT, hd, rows_length, htk, nn0, nlt hkb, g1, encI]
      repeat refine And.intro (by first | omega | (simp; done) | (simp; omega) | assumption) ?_
      refine ⟨(t.bef k, acc ++ [(k : Int)]), [(2, 2), (16, 5)], ⟨by dsimp only; omega, by simp; omega, by rw [← hp, h1]; simp⟩, by dsimp only; omega, Weak.of (by rfl) ?_ ?_ (by rfl)⟩
      · simp (config := { maxSteps := 4000000 }) only [go_sem, simprocAttr, ↓dnA, Try.f144, encT, frW, wk2, wk1, wkL, wkB, hpW, List.mem_cons, Prod.mk.injEq, exists_eq_left, exists_eq_right, exists_eq]
        exact (rows_snoc encI _ _).symm
      · simp (config := { maxSteps := 4000000 }) only [go_sem, simprocAttr, ↓dnA, Try.f144, List.length_append, frW, wk2, wk1, wkL, wkB, hpW, List.mem_cons, Prod.mk.injEq, exists_eq_left, exists_eq_right, exists_eq]

theorem flatI (xs : List Int) : ((rows encI xs).all fun r => r.all AV.flat) = true := by
  simp [rows, encI, AV.flat]
theorem oneI (xs : List Int) : ((rows encI xs).all fun r => r.all AV.one) = true := by
  simp [rows, encI, AV.one]
theorem sz0I (xs : List Int) : xs.length = 0 ∨ ((rows encI xs).getD 0 []).length = 1 := by
  cases xs with
  | nil => exact .inl rfl
  | cons x r => exact .inr rfl

open Classical in
/-- The way to a block of a valid tree. -/
noncomputable def pathTo (t : Tree) (n : Int) : List Int := if treeValid t = true ∧ 0 ≤ n ∧ n < t.blocks.length then pathL t n else []

theorem pathTo_in {t : Tree} (h : treeValid t = true) {n : Int} (h1 : 0 ≤ n) (h2 : n < t.blocks.length) : pathTo t n = pathL t n := by
  unfold pathTo; rw [if_pos ⟨h, h1, h2⟩]

theorem c_spec_PathTo (n1 n2 n3 : Option Bool) (t : Tree) (n : Int) (hx : TreeSz t) :
    Det Try.prog 155 [.agg (encT n1 n2 n3 t), .int .i64 n] (.osl true 1 (rows encI (pathTo t n))) := by
  refine fspec_det tab_ok Try.call155 Try.func155 rfl 27 Try.ntmps155 (of_decide_eq_true rfl) fun B => codeK_sound tab_ok _ _ _ ?_
  have hb := hx.blocks
  have hw : IntKind.i64.wrap ((t.blocks.length : Int) - 1) = (t.blocks.length : Int) - 1 := wrap_small _ (by omega) (by omega)
  simp (config := { maxSteps := 4000000 }) only [go_sem, simprocAttr, ↓dnA, Try.f155, encT]
  by_cases hok : treeValid t = true ∧ 0 ≤ n ∧ n < t.blocks.length
  · obtain ⟨h0, hn0, hn⟩ := hok
    have ht := treeOk_of h0
    have hlen := ht.len
    have hp0 : pathTo t n = pathL t n := by unfold pathTo; rw [if_pos ⟨h0, hn0, hn⟩]
    rw [hp0]
    refine semL_for tab_ok (fun p : Int × List Int => ⟨27, [(1, .int .i64 p.1), (2, .loc 2 0), (5, .row 6 p.2.length)], [(2, .var (encT n1 n2 n3 t)), (6, .row true true 1 (rows encI p.2))]⟩) (fun p => (p.1 + 1).toNat)
      (fun p => p.1 < t.blocks.length ∧ (p.1 = -1 ∨ 0 ≤ p.1) ∧ p.2.length + (p.1 + 1).toNat ≤ 30 ∧ (back t p.1).reverse ++ p.2 = pathL t n) (n, []) [(2, 2), (6, 6)] (Weak.of (by rfl) ?_ ?_ (by rfl)) ⟨hn, .inr hn0, by simp; omega, by simp [pathL]⟩ ?_
    · simp (config := { maxSteps := 4000000 }) only [go_sem, simprocAttr, ↓dnA, Try.f155, encT, frW, wk2, wk1, wkL, wkB, hpW, List.mem_cons, Prod.mk.injEq, exists_eq_left, exists_eq_right, exists_eq]
      rfl
    · simp (config := { maxSteps := 4000000 }) only [go_sem, simprocAttr, ↓dnA, Try.f155, frW, wk2, wk1, wkL, wkB, hpW, List.mem_cons, Prod.mk.injEq, exists_eq_left, exists_eq_right, exists_eq]
    · rintro ⟨m, acc⟩ ⟨hm, hm1, hac, hp⟩
      dsimp only at hm hm1 hac hp
      have htk := take_rows encI acc acc.length rfl
      simp (config := { maxSteps := 4000000 }) only [go_sem, simprocAttr, ↓dnA, Try.f155, encT]
      refine CallTo.det (c_spec_BlockTreeValid n1 n2 n3 t hx) fun _ => ?_
      simp (config := { maxSteps := 4000000 }) only [go_sem, simprocAttr, ↓dnA, Try.f155, encT, h0, rows_length, hw]
      refine CallTo.det (c_l1In _ _ _) fun _ => ?_
      rcases hm1 with rfl | hm1
      · have hd : inB (-1) 0 ((t.blocks.length : Int) - 1) = false := by simp [inB]
        rw [back_neg _ _ (by omega), List.reverse_nil, List.nil_append] at hp
        simp (config := { maxSteps := 4000000 }) only [go_sem, simprocAttr, ↓dnA, Try.f155, encT, h0, rows_length, hw, hd, hp]
      · have hd : inB m 0 ((t.blocks.length : Int) - 1) = true := inB_iff.2 (by omega)
        obtain ⟨k, rfl⟩ : ∃ k : Nat, m = (k : Int) := ⟨m.toNat, by omega⟩
        have hk : k < t.blocks.length := by omega
        have hkb : k < t.before.length := by rw [ht.bef]; exact hk
        obtain ⟨h1, h2, h3⟩ := back_cons ht k hk
        have g1 : (rows encI t.before).getD k [] = encI (t.bef k) := by rw [rows_get _ _ k hkb, t.bef_get k hkb]
        have hfl := flatI acc
        have hon := oneI acc
        have hsz := sz0I acc
        simp (config := { maxSteps := 4000000 }) only [go_sem, simprocAttr, ↓dnA, Try.f155, encT, h0, rows_length, hw, hd, htk, nn0, nlt hkb, g1, encI]
        repeat refine And.intro (by first | omega | (simp; done) | (simp; omega) | assumption) ?_
        refine ⟨(t.bef k, (k : Int) :: acc), [(2, 2), (20, 6)], ⟨by dsimp only; omega, h3, by simp; omega, by rw [← hp, h1]; simp⟩, by dsimp only; omega, Weak.of (by rfl) ?_ ?_ (by rfl)⟩
        · simp (config := { maxSteps := 4000000 }) only [go_sem, simprocAttr, ↓dnA, Try.f155, encT, frW, wk2, wk1, wkL, wkB, hpW, List.mem_cons, Prod.mk.injEq, exists_eq_left, exists_eq_right, exists_eq]
          try rfl
        · simp (config := { maxSteps := 4000000 }) only [go_sem, simprocAttr, ↓dnA, Try.f155, List.length_cons, frW, wk2, wk1, wkL, wkB, hpW, List.mem_cons, Prod.mk.injEq, exists_eq_left, exists_eq_right, exists_eq]
          rw [Nat.add_comm]
  · have hp0 : pathTo t n = [] := by unfold pathTo; rw [if_neg hok]
    rw [hp0]
    refine semL_for tab_ok (fun _ : Nat => ⟨27, [(1, .int .i64 n), (2, .loc 2 0), (5, .row 6 0)], [(2, .var (encT n1 n2 n3 t)), (6, .row true true 1 (rows encI []))]⟩) (fun i => i) (fun _ => True) 0 [(2, 2), (6, 6)] (Weak.of (by rfl) ?_ ?_ (by rfl)) trivial ?_
    · simp (config := { maxSteps := 4000000 }) only [go_sem, simprocAttr, ↓dnA, Try.f155, encT, frW, wk2, wk1, wkL, wkB, hpW, List.mem_cons, Prod.mk.injEq, exists_eq_left, exists_eq_right, exists_eq]
      rfl
    · simp (config := { maxSteps := 4000000 }) only [go_sem, simprocAttr, ↓dnA, Try.f155, frW, wk2, wk1, wkL, wkB, hpW, List.mem_cons, Prod.mk.injEq, exists_eq_left, exists_eq_right, exists_eq]
    · rintro i -
      simp (config := { maxSteps := 4000000 }) only [go_sem, simprocAttr, ↓dnA, Try.f155, encT]
      refine CallTo.det (c_spec_BlockTreeValid n1 n2 n3 t hx) fun _ => ?_
      cases h0 : treeValid t with
      | false => simp (config := { maxSteps := 4000000 }) only [go_sem, simprocAttr, ↓dnA, Try.f155, encT, h0, rows_length, List.length_nil]
      | true =>
        simp (config := { maxSteps := 4000000 }) only [go_sem, simprocAttr, ↓dnA, Try.f155, encT, h0, rows_length, hw]
        refine CallTo.det (c_l1In _ _ _) fun _ => ?_
        have hd : inB n 0 ((t.blocks.length : Int) - 1) = false := by
          cases e : inB n 0 ((t.blocks.length : Int) - 1) with
          | false => rfl
          | true =>
            have := inB_iff.1 e
            exact absurd ⟨h0, by omega, by omega⟩ hok
        simp (config := { maxSteps := 4000000 }) only [go_sem, simprocAttr, ↓dnA, Try.f155, encT, h0, rows_length, hw, hd, List.length_nil]

noncomputable def isBefore (t : Tree) (a b : Int) : Bool := (pathTo t b).any fun x => a == x

theorem pathTo_len (t : Tree) (n : Int) : (pathTo t n).length ≤ 14 := by
  unfold pathTo
  split
  · rename_i h
    exact pathL_len (treeOk_of h.1) h.2.2
  · simp

end Go.Proofs.Ytmibclbinebnjaa

/- Contracts: leaves, and the blocks that are kept. -/
set_option linter.unusedSimpArgs false
set_option linter.unusedVariables false
set_option maxRecDepth 20000
set_option maxHeartbeats 4000000
namespace Go.Proofs.Ytmibclbinebnjaa
open Go Go.RowKit

/-- The numbers from i on, f of them, for which p holds. -/
def fltF (p : Nat → Bool) : Nat → Nat → List Int
  | 0, _ => []
  | f + 1, i => if p i then (i : Int) :: fltF p f (i + 1) else fltF p f (i + 1)

theorem fltF_len (p : Nat → Bool) : ∀ (f i : Nat), (fltF p f i).length ≤ f
  | 0, _ => by simp [fltF]
  | f + 1, i => by
    have := fltF_len p f (i + 1)
    unfold fltF
    split
    · simp; omega
    · omega

theorem fltF_step (p : Nat → Bool) (n i : Nat) (h : i < n) : fltF p (n - i) i = (if p i then [(i : Int)] else []) ++ fltF p (n - (i + 1)) (i + 1) := by
  rw [show n - i = (n - (i + 1)) + 1 by omega]
  conv => lhs; unfold fltF
  split <;> simp

def leafB (t : Tree) (n : Nat) : Bool := !t.before.any fun x => (n : Int) == x
noncomputable def leaves_ (t : Tree) : List Int := if treeValid t then fltF (leafB t) t.blocks.length 0 else []

end Go.Proofs.Ytmibclbinebnjaa

/- Contracts: the laws' marks of blocks and trees. -/
set_option linter.unusedSimpArgs false
set_option linter.unusedVariables false
set_option maxRecDepth 20000
set_option maxHeartbeats 4000000
namespace Go.Proofs.Ytmibclbinebnjaa
open Go Go.RowKit

theorem stepS_const {α : Type} (st : α → Nat) (c : Nat) (h : ∀ x, st x = c) : ∀ xs : List α, stepS st xs = c * xs.length
  | [] => by simp [stepS]
  | x :: r => by rw [stepS, stepS_const st c h r, h x, List.length_cons, Nat.mul_add, Nat.mul_one, Nat.add_comm]

theorem sz_of {α : Type} (e : α → List AV) (xs : List α) (n sz : Nat) (he : ∀ x, (e x).length = n) (h : ∀ r ∈ rows e xs, r.length = sz) : xs = [] ∨ sz = n := by
  cases xs with
  | nil => exact .inl rfl
  | cons x r => exact .inr ((h (e x) (by simp [rows])).symm.trans (he x))

def mkB (b : Block) (k : Int) : Block :=
  ⟨k, k + 1, k + 1 + 1, markS mkA stA b.list (k + 1 + 1 + 1), k + 1 + 1 + 1 + (stepS stA b.list : Int), k + 1 + 1 + 1 + (stepS stA b.list : Int) + 1⟩
def stB (b : Block) : Nat := 5 + stepS stA b.list

theorem c_laws_markBlockS (nn : Bool) (xs : List Block) (k : Int) (hx : xs.length < 2 ^ 62) (hk : 0 ≤ k ∧ k + stepS stB xs < 2 ^ 62) :
    FSpecM Try.prog 112 [.row 800 xs.length, .int .i64 k] [.osl nn 6 (rows encB1 xs)] (fun r ls' => r = .int .i64 (k + stepS stB xs) ∧ ls' = [.osl nn 6 (rows encB1 (markS mkB stB xs k))]) := by
  refine fspec_introM tab_ok Try.call112 Try.func112 rfl 55 Try.ntmps112 (of_decide_eq_true rfl) (of_decide_eq_true rfl) fun B => codeK_sound tab_ok _ _ _ ?_
  simp (config := { maxSteps := 4000000 }) only [go_sem, simprocAttr, ↓dnA, Try.f112, rows_length]
  refine semL_for tab_ok (fun i : Nat => ⟨55, [(0, .row 800 xs.length), (1, .int .i64 (k + (stepS stB (xs.take i) : Int))), (5, .int .i64 i)], [(800, .row true nn 6 (rows encB1 (midS mkB stB xs k i)))]⟩) (fun i => xs.length - i)
    (fun i => i ≤ xs.length) 0 [(800, 800)] (Weak.of (by rfl) ?_ ?_ (by rfl)) (by omega) ?_
  · simp (config := { maxSteps := 4000000 }) only [go_sem, simprocAttr, ↓dnA, Try.f112, midS_zero, frW, wk2, wk1, wkL, wkB, hpW, List.mem_cons, Prod.mk.injEq, exists_eq_left, exists_eq_right, exists_eq]
  · simp (config := { maxSteps := 4000000 }) only [go_sem, simprocAttr, ↓dnA, Try.f112, List.take_zero, stepS, Int.add_zero, nc0, frW, wk2, wk1, wkL, wkB, hpW, List.mem_cons, Prod.mk.injEq, exists_eq_left, exists_eq_right, exists_eq]
  · rintro i hi
    by_cases h : i < xs.length
    · have hb := stepS_lt stB xs i h
      have hm : i < (rows encB1 (midS mkB stB xs k i)).length := by rw [rows_length, midS_length _ _ _ _ _ hi]; exact h
      have hst : stB xs[i] = 5 + stepS stA xs[i].list := rfl
      have hl4 := stepS_const stA 4 (fun _ => rfl) xs[i].list
      have hK : k + (stepS stB (xs.take (i + 1)) : Int) = k + (stepS stB (xs.take i) : Int) + 1 + 1 + 1 + (stepS stA xs[i].list : Int) + 1 + 1 := by rw [stepS_take_succ _ _ _ h, hst]; omega
      have hs := midS_set encB1 mkB stB xs k i h
      unfold mkB at hs
      generalize hKe : k + (stepS stB (xs.take i) : Int) = K at *
      have hw1 : IntKind.i64.wrap (K + 1) = K + 1 := wrap_small _ (by omega) (by omega)
      have hw2 : IntKind.i64.wrap (K + 1 + 1) = K + 1 + 1 := wrap_small _ (by omega) (by omega)
      have hw3 : IntKind.i64.wrap (K + 1 + 1 + 1) = K + 1 + 1 + 1 := wrap_small _ (by omega) (by omega)
      have hw4 : IntKind.i64.wrap (K + 1 + 1 + 1 + (stepS stA xs[i].list : Int) + 1) = K + 1 + 1 + 1 + (stepS stA xs[i].list : Int) + 1 := wrap_small _ (by omega) (by omega)
      have hw5 : IntKind.i64.wrap (K + 1 + 1 + 1 + (stepS stA xs[i].list : Int) + 1 + 1) = K + 1 + 1 + 1 + (stepS stA xs[i].list : Int) + 1 + 1 := wrap_small _ (by omega) (by omega)
      simp (config := { maxSteps := 4000000 }) only [go_sem, simprocAttr, ↓dnA, Try.f112, rows_length, midS_length _ _ _ _ _ hi, List.length_set, nlt h, h, nn0, midS_get _ _ _ _ _ _ h, encB1, encBk, set_same _ _ _ hm, List.set_set, spliceL, hw1, hw2, hw3]
      intro sz2 hz2 hl2
      refine CallMTo.of (c_laws_markActionS false sz2 xs[i].list (K + 1 + 1 + 1) (sz_of encA xs[i].list 4 sz2 (fun _ => rfl) hl2) (by omega) (by omega)) ?_
      rintro r ls' ⟨rfl, rfl⟩ es2' he
      simp only [List.cons.injEq, AV.osl.injEq, and_true, true_and] at he
      subst he
      have hs' : (rows encB1 (midS mkB stB xs k i)).set i [.int .i64 K, .int .i64 (K + 1), .int .i64 (K + 1 + 1), .sl none (rows encA (markS mkA stA xs[i].list (K + 1 + 1 + 1))), .int .i64 (K + 1 + 1 + 1 + (stepS stA xs[i].list : Int)), .int .i64 (K + 1 + 1 + 1 + (stepS stA xs[i].list : Int) + 1)] = rows encB1 (midS mkB stB xs k (i + 1)) := hs
      simp (config := { maxSteps := 4000000 }) only [go_sem, simprocAttr, ↓dnA, Try.f112, rows_length, midS_length _ _ _ _ _ hi, List.length_set, nlt h, h, nn0, midS_get _ _ _ _ _ _ h, encB1, encBk, set_same _ _ _ hm, List.set_set, spliceL, hw4, hw5, wsucc h hx]
      refine ⟨i + 1, [(800, 800)], by omega, by dsimp only; omega, Weak.of (by rfl) ?_ ?_ (by rfl)⟩
      · simp (config := { maxSteps := 4000000 }) only [go_sem, simprocAttr, ↓dnA, Try.f112, frW, wk2, wk1, wkL, wkB, hpW, List.mem_cons, Prod.mk.injEq, exists_eq_left, exists_eq_right, exists_eq]
        exact hs'.symm
      · simp (config := { maxSteps := 4000000 }) only [go_sem, simprocAttr, ↓dnA, Try.f112, hK, wsucc h hx, frW, wk2, wk1, wkL, wkB, hpW, List.mem_cons, Prod.mk.injEq, exists_eq_left, exists_eq_right, exists_eq]
    · have hi' : i = xs.length := by omega
      subst hi'
      simp (config := { maxSteps := 4000000 }) only [go_sem, simprocAttr, ↓dnA, Try.f112, nlf h, rows_length, midS_len, List.take_length, markS_length]

theorem c_laws_heldBlockS (n1 : Option Bool) (xs : List Block) (k : Int) (hx : xs.length < 2 ^ 62) (hk : 0 ≤ k ∧ k + stepS stB xs < 2 ^ 62) :
    Det Try.prog 116 [.sl n1 (rows encB1 (markS mkB stB xs k)), .int .i64 k] (.int .i64 (k + stepS stB xs)) := by
  refine fspec_det tab_ok Try.call116 Try.func116 rfl 67 Try.ntmps116 (of_decide_eq_true rfl) fun B => codeK_sound tab_ok _ _ _ ?_
  simp (config := { maxSteps := 4000000 }) only [go_sem, simprocAttr, ↓dnA, Try.f116]
  refine semL_for tab_ok (fun i : Nat => ⟨67, [(0, .sl n1 (rows encB1 (markS mkB stB xs k))), (1, .int .i64 (k + (stepS stB (xs.take i) : Int))), (5, .int .i64 i)], []⟩) (fun i => xs.length - i)
    (fun i => i ≤ xs.length) 0 [] (Weak.of rfl trivial ?_ rfl) (by omega) ?_
  · simp (config := { maxSteps := 4000000 }) only [go_sem, simprocAttr, ↓dnA, Try.f116, List.take_zero, stepS, Int.add_zero, nc0, frW, wk2, wk1, wkL, wkB, hpW, List.mem_cons, Prod.mk.injEq, exists_eq_left, exists_eq_right, exists_eq]
  · rintro i hi
    by_cases h : i < xs.length
    · have hb := stepS_lt stB xs i h
      have hst : stB xs[i] = 5 + stepS stA xs[i].list := rfl
      have hl4 := stepS_const stA 4 (fun _ => rfl) xs[i].list
      have hK : k + (stepS stB (xs.take (i + 1)) : Int) = k + (stepS stB (xs.take i) : Int) + 1 + 1 + 1 + (stepS stA xs[i].list : Int) + 1 + 1 := by rw [stepS_take_succ _ _ _ h, hst]; omega
      have hg := markS_rget encB1 mkB stB xs i k h
      generalize hKe : k + (stepS stB (xs.take i) : Int) = K at *
      have hw1 : IntKind.i64.wrap (K + 1) = K + 1 := wrap_small _ (by omega) (by omega)
      have hw2 : IntKind.i64.wrap (K + 1 + 1) = K + 1 + 1 := wrap_small _ (by omega) (by omega)
      have hw3 : IntKind.i64.wrap (K + 1 + 1 + 1) = K + 1 + 1 + 1 := wrap_small _ (by omega) (by omega)
      have hw4 : IntKind.i64.wrap (K + 1 + 1 + 1 + (stepS stA xs[i].list : Int) + 1) = K + 1 + 1 + 1 + (stepS stA xs[i].list : Int) + 1 := wrap_small _ (by omega) (by omega)
      have hw5 : IntKind.i64.wrap (K + 1 + 1 + 1 + (stepS stA xs[i].list : Int) + 1 + 1) = K + 1 + 1 + 1 + (stepS stA xs[i].list : Int) + 1 + 1 := wrap_small _ (by omega) (by omega)
      have hd : decide (K + 1 + 1 + 1 + (stepS stA xs[i].list : Int) < 0) = false := by simp; omega
      simp (config := { maxSteps := 4000000 }) only [go_sem, simprocAttr, ↓dnA, Try.f116, rows_length, markS_length, nlt h, h, nn0, hg, encB1, encBk, mkB, hw1, hw2, hw3]
      refine CallTo.det (c_laws_heldActionS none xs[i].list (K + 1 + 1 + 1) (by omega) (by omega)) fun _ => ?_
      simp (config := { maxSteps := 4000000 }) only [go_sem, simprocAttr, ↓dnA, Try.f116, rows_length, markS_length, nlt h, h, nn0, hg, encB1, encBk, mkB, hw4, hw5, hd, wsucc h hx]
      refine ⟨i + 1, [], by omega, by dsimp only; omega, Weak.of rfl trivial ?_ rfl⟩
      simp (config := { maxSteps := 4000000 }) only [go_sem, simprocAttr, ↓dnA, Try.f116, hK, wsucc h hx, frW, wk2, wk1, wkL, wkB, hpW, List.mem_cons, Prod.mk.injEq, exists_eq_left, exists_eq_right, exists_eq]
    · have hi' : i = xs.length := by omega
      subst hi'
      simp (config := { maxSteps := 4000000 }) only [go_sem, simprocAttr, ↓dnA, Try.f116, nlf h, rows_length, List.take_length, markS_length]

def stT (t : Tree) : Nat := stepS stE t.base + stepS stB t.blocks + stepS stI t.before
def mkT (t : Tree) (k : Int) : Tree :=
  ⟨markS mkE stE t.base k, markS mkB stB t.blocks (k + (stepS stE t.base : Int)), markS mkI stI t.before (k + (stepS stE t.base : Int) + (stepS stB t.blocks : Int))⟩

theorem c_laws_markBlockTree (n1 n2 n3 : Bool) (t : Tree) (k : Int) (hx : TreeSz t) (hk : 0 ≤ k ∧ k + stT t < 2 ^ 62) :
    FSpecM Try.prog 46 [.agg [.row 800 t.base.length, .row 801 t.blocks.length, .row 802 t.before.length], .int .i64 k] [.osl n1 2 (rows encE t.base), .osl n2 6 (rows encB1 t.blocks), .osl n3 1 (rows encI t.before)]
      (fun r ls' => r = .int .i64 (k + stT t) ∧ ls' = [.osl n1 2 (rows encE (mkT t k).base), .osl n2 6 (rows encB1 (mkT t k).blocks), .osl n3 1 (rows encI (mkT t k).before)]) := by
  refine fspec_introM tab_ok Try.call46 Try.func46 rfl 18 Try.ntmps46 (of_decide_eq_true rfl) (of_decide_eq_true rfl) fun B => codeK_sound tab_ok _ _ _ ?_
  unfold stT at hk ⊢
  have he : k + ((stepS stE t.base + stepS stB t.blocks + stepS stI t.before : Nat) : Int) = k + (stepS stE t.base : Int) + (stepS stB t.blocks : Int) + (stepS stI t.before : Int) := by omega
  simp (config := { maxSteps := 4000000 }) only [go_sem, simprocAttr, ↓dnA, Try.f46, List.nodup_cons, rows_length]
  refine CallMTo.of (c_laws_markEntryS n1 2 t.base k (.inr rfl) hx.base ⟨hk.1, by omega⟩) ?_
  rintro r ls' ⟨rfl, rfl⟩
  simp (config := { maxSteps := 4000000 }) only [go_sem, simprocAttr, ↓dnA, Try.f46, List.nodup_cons, rows_length]
  refine CallMTo.of (c_laws_markBlockS n2 t.blocks _ hx.blocks ⟨by omega, by omega⟩) ?_
  rintro r ls' ⟨rfl, rfl⟩
  simp (config := { maxSteps := 4000000 }) only [go_sem, simprocAttr, ↓dnA, Try.f46, List.nodup_cons, rows_length]
  refine CallMTo.of (c_laws_markIntS n3 1 t.before _ (.inr rfl) hx.before ⟨by omega, by omega⟩) ?_
  rintro r ls' ⟨rfl, rfl⟩
  simp (config := { maxSteps := 4000000 }) only [go_sem, simprocAttr, ↓dnA, Try.f46, List.nodup_cons, rows_length, markS_length, mkT, he]

theorem c_laws_heldBlockTree (n1 n2 n3 : Option Bool) (t : Tree) (k : Int) (hx : TreeSz t) (hk : 0 ≤ k ∧ k + stT t < 2 ^ 62) :
    Det Try.prog 48 [.agg (encT n1 n2 n3 (mkT t k)), .int .i64 k] (.int .i64 (k + stT t)) := by
  refine fspec_det tab_ok Try.call48 Try.func48 rfl 24 Try.ntmps48 (of_decide_eq_true rfl) fun B => codeK_sound tab_ok _ _ _ ?_
  unfold stT at hk ⊢
  have he : k + ((stepS stE t.base + stepS stB t.blocks + stepS stI t.before : Nat) : Int) = k + (stepS stE t.base : Int) + (stepS stB t.blocks : Int) + (stepS stI t.before : Int) := by omega
  have d1 : decide (k + (stepS stE t.base : Int) < 0) = false := by simp; omega
  have d2 : decide (k + (stepS stE t.base : Int) + (stepS stB t.blocks : Int) < 0) = false := by simp; omega
  have d3 : decide (k + (stepS stE t.base : Int) + (stepS stB t.blocks : Int) + (stepS stI t.before : Int) < 0) = false := by simp; omega
  unfold encT mkT
  simp (config := { maxSteps := 4000000 }) only [go_sem, simprocAttr, ↓dnA, Try.f48, List.nodup_cons]
  refine CallTo.det (c_laws_heldEntryS n1 t.base k hx.base ⟨hk.1, by omega⟩) fun _ => ?_
  simp (config := { maxSteps := 4000000 }) only [go_sem, simprocAttr, ↓dnA, Try.f48, List.nodup_cons, d1]
  refine CallTo.det (c_laws_heldBlockS n2 t.blocks _ hx.blocks ⟨by omega, by omega⟩) fun _ => ?_
  simp (config := { maxSteps := 4000000 }) only [go_sem, simprocAttr, ↓dnA, Try.f48, List.nodup_cons, d1, d2]
  refine CallTo.det (c_laws_heldIntS n3 t.before _ hx.before ⟨by omega, by omega⟩) fun _ => ?_
  simp (config := { maxSteps := 4000000 }) only [go_sem, simprocAttr, ↓dnA, Try.f48, List.nodup_cons, d1, d2, d3, he]

theorem c_laws_markBlock (nn : Bool) (b : Block) (k : Int) (hx : b.list.length < 2 ^ 62) (hk : 0 ≤ k ∧ k + stepS stA b.list < 2 ^ 62) :
    FSpecM Try.prog 47 [.agg [.int .i64 b.before, .int .i64 b.height, .int .i64 b.view, .row 800 b.list.length, .int .i64 b.root, .int .i64 b.effects], .int .i64 k] [.osl nn 4 (rows encA b.list)]
      (fun r ls' => r = .int .i64 (k + stepS stA b.list) ∧ ls' = [.osl nn 4 (rows encA (markS mkA stA b.list k))]) := by
  refine fspec_introM tab_ok Try.call47 Try.func47 rfl 10 Try.ntmps47 (of_decide_eq_true rfl) (of_decide_eq_true rfl) fun B => codeK_sound tab_ok _ _ _ ?_
  simp (config := { maxSteps := 4000000 }) only [go_sem, simprocAttr, ↓dnA, Try.f47, List.nodup_cons, rows_length]
  refine CallMTo.of (c_laws_markActionS nn 4 b.list k (.inr rfl) hx hk) ?_
  rintro r ls' ⟨rfl, rfl⟩
  simp (config := { maxSteps := 4000000 }) only [go_sem, simprocAttr, ↓dnA, Try.f47, List.nodup_cons, rows_length, markS_length]

end Go.Proofs.Ytmibclbinebnjaa

/- Contracts: FnExactLeavesOf. -/
set_option linter.unusedSimpArgs false
set_option linter.unusedVariables false
set_option maxRecDepth 20000
set_option maxHeartbeats 4000000
namespace Go.Proofs.Ytmibclbinebnjaa
open Go Go.RowKit

theorem stB_sum : ∀ bs : List Block, stepS stB bs = 5 * bs.length + 4 * lsum bs
  | [] => rfl
  | b :: r => by
    have h1 := stepS_const stA 4 (fun _ => rfl) b.list
    have h2 := stB_sum r
    unfold stepS lsum
    rw [h2, List.length_cons]
    show 5 + stepS stA b.list + _ = _
    rw [h1]; omega

/-- The marks of a tree of a law's size stay small. -/
theorem stT_small {t : Tree} (h : TreeS32 t) : stT t ≤ 5 * 1048576 := by
  have h0 := h.sum
  unfold tsz at h0
  unfold stT
  rw [stepS_const stE 2 (fun _ => rfl), stepS_const stI 1 (fun _ => rfl), stB_sum]
  omega

theorem intsEq (xs : List Int) : decide (xs = xs) = true := by simp

end Go.Proofs.Ytmibclbinebnjaa

/- How much a tree is: plain. -/
set_option linter.unusedSimpArgs false
set_option linter.unusedVariables false
set_option maxRecDepth 20000
set_option maxHeartbeats 4000000
namespace Go.Proofs.Ytmibclbinebnjaa
open Go Go.RowKit

theorem stT_le (t : Tree) : stT t ≤ 5 * tsz t := by
  unfold stT tsz
  rw [stepS_const stE 2 (fun _ => rfl), stepS_const stI 1 (fun _ => rfl), stB_sum]
  omega
theorem tsz_sz {t : Tree} {m : Nat} (h : tsz t ≤ m) (hm : m < 2 ^ 62) : TreeSz t :=
  ⟨by unfold tsz at h; omega, by unfold tsz at h; omega, by unfold tsz at h; omega, fun b hb => by have := lsum_mem t.blocks b hb; unfold tsz at h; omega⟩
theorem lsum_snoc : ∀ (bs : List Block) (b : Block), lsum (bs ++ [b]) = lsum bs + b.list.length
  | [], b => by simp [lsum]
  | c :: r, b => by
    simp only [List.cons_append, lsum, lsum_snoc r b]
    omega

end Go.Proofs.Ytmibclbinebnjaa

/- Contracts: engines, and their copies. -/
set_option linter.unusedSimpArgs false
set_option linter.unusedVariables false
set_option maxRecDepth 20000
set_option maxHeartbeats 4000000
namespace Go.Proofs.Ytmibclbinebnjaa
open Go Go.RowKit

theorem semL_nilVA {P : Program} {B : Base} {c : Code} {s : AState} {Kx : Exit → AState → Prop} (vid j id sz : Nat) (own : Bool) {cs : List AV} (h0 : s.blk vid = .var cs) (hj : j < cs.length) (h1 : cs.getD j .top = .sl (some false) []) (h2 : s.blk id = .none) (h3 : nF id) (h4 : 0 < sz)
    (h : @SemL P B c { s with hp := (vid, .var (cs.set j (.row id 0))) :: (id, .row own false sz []) :: s.hp } ⟨Kx⟩) : @SemL P B c s ⟨Kx⟩ := @semL_nilV _ _ _ _ ⟨Kx⟩ vid j id sz own _ h0 hj h1 h2 h3 h4 h

structure Version where
  key : Int
  by_ : Int
  value : Int
deriving DecidableEq, Inhabited
def encR (v : Version) : List AV := [.int .i64 v.key, .int .i64 v.by_, .int .i64 v.value]

structure Effect where
  done : Bool
  reads : List Entry
  writes : List Entry
deriving DecidableEq, Inhabited
def encF (n1 n2 : Option Bool) (e : Effect) : List AV := [.bool e.done, .sl n1 (rows encE e.reads), .sl n2 (rows encE e.writes)]

structure Slot where
  stage : Int
  tries : Int
  fr : List Int
  res : Effect
deriving DecidableEq, Inhabited
def encS (n1 n2 n3 : Option Bool) (s : Slot) : List AV := [.int .i64 s.stage, .int .i64 s.tries, .sl n1 (rows encI s.fr), .bool s.res.done, .sl n2 (rows encE s.res.reads), .sl n3 (rows encE s.res.writes)]
def encS1 (s : Slot) : List AV := encS none none none s

structure Engine where
  base : List Entry
  list : List Action
  versions : List Version
  slots : List Slot
deriving DecidableEq, Inhabited
def encG (n1 n2 n3 n4 : Option Bool) (e : Engine) : List AV := [.sl n1 (rows encE e.base), .sl n2 (rows encA e.list), .sl n3 (rows encR e.versions), .sl n4 (rows encS1 e.slots)]
def encGO (e : Engine) : List AV := [.osl true 2 (rows encE e.base), .osl true 4 (rows encA e.list), .osl true 3 (rows encR e.versions), .osl true 6 (rows encS1 e.slots)]
def encGF (e : Engine) : List AV := [.osl false 2 (rows encE e.base), .osl false 4 (rows encA e.list), .osl false 3 (rows encR e.versions), .osl false 6 (rows encS1 e.slots)]

/-- The sizes of a slot's lists. -/
structure SlotSz (n : Nat) (s : Slot) : Prop where
  fr : s.fr.length < n
  reads : s.res.reads.length < n
  writes : s.res.writes.length < n
structure EngSz (n : Nat) (e : Engine) : Prop where
  base : e.base.length < n
  list : e.list.length < n
  versions : e.versions.length < n
  slots : e.slots.length < n
  each : ∀ s, s ∈ e.slots → SlotSz n s

section
variable {α : Type} (e : α → List AV)
theorem all_rows (p : AV → Bool) (h : ∀ x, (e x).all p = true) (xs : List α) : ((rows e xs).all fun r => r.all p) = true := by
  rw [List.all_eq_true]
  intro r hr
  obtain ⟨x, _, rfl⟩ := List.mem_map.1 hr
  exact h x
theorem sz0_rows (n : Nat) (h : ∀ x, (e x).length = n) (xs : List α) : xs.length = 0 ∨ ((rows e xs).getD 0 []).length = n := by
  cases xs with
  | nil => exact .inl rfl
  | cons x r => exact .inr (h x)
end

theorem c_impl_cloneEntries (n1 : Option Bool) (xs : List Entry) (hx : xs.length < 2 ^ 32) : Det Try.prog 69 [.sl n1 (rows encE xs)] (.osl false 2 (rows encE xs)) := by
  refine fspec_det tab_ok Try.call69 Try.func69 rfl 5 Try.ntmps69 (of_decide_eq_true rfl) fun B => codeK_sound tab_ok _ _ _ ?_
  have h1 := all_rows encE AV.flat (fun _ => rfl) xs
  have h2 := all_rows encE AV.one (fun _ => rfl) xs
  have h3 := sz0_rows encE 2 (fun _ => rfl) xs
  simp (config := { maxSteps := 4000000 }) only [go_sem, simprocAttr, ↓dnA, Try.f69, rows_length]
  repeat refine And.intro (by first | omega | (simp; done) | (simp; omega) | assumption) ?_
  omega

theorem c_impl_Effect_clone (n1 n2 : Option Bool) (e : Effect) (h1 : e.reads.length < 2 ^ 32) (h2 : e.writes.length < 2 ^ 32) : Det Try.prog 165 [.agg (encF n1 n2 e)] (.agg [.bool e.done, .osl false 2 (rows encE e.reads), .osl false 2 (rows encE e.writes)]) := by
  refine fspec_det tab_ok Try.call165 Try.func165 rfl 12 Try.ntmps165 (of_decide_eq_true rfl) fun B => codeK_sound tab_ok _ _ _ ?_
  simp (config := { maxSteps := 4000000 }) only [go_sem, simprocAttr, ↓dnA, Try.f165, rows_length, encF]
  refine semL_draw tab_ok mixed_ rfl (ord := [(0, []), (1, []), (2, []), (3, []), (5, []), (6, []), (4, [0, 1, 5, 6]), (7, [0, 1]), (8, []), (9, [])]) (by dsimp only; decide +kernel) ?_
  simp (config := { maxSteps := 4000000 }) only [go_sem, simprocAttr, ↓dnA, Try.f165, rows_length, encF]
  refine CallTo.det (c_impl_cloneEntries n1 e.reads h1) fun _ => ?_
  simp (config := { maxSteps := 4000000 }) only [go_sem, simprocAttr, ↓dnA, Try.f165, rows_length, encF]
  refine CallTo.det (c_impl_cloneEntries n2 e.writes h2) fun _ => ?_
  simp (config := { maxSteps := 4000000 }) only [go_sem, simprocAttr, ↓dnA, Try.f165, rows_length, encF]

theorem c_impl_Engine_clone (n1 n2 n3 n4 : Option Bool) (e : Engine) (hx : EngSz (2 ^ 32) e) : Det Try.prog 118 [.agg (encG n1 n2 n3 n4 e)] (.agg (encGF e)) := by
  refine fspec_det tab_ok Try.call118 Try.func118 rfl 41 Try.ntmps118 (of_decide_eq_true rfl) fun B => codeK_sound tab_ok _ _ _ ?_
  have a1 := all_rows encA AV.flat (fun _ => rfl) e.list
  have a2 := all_rows encA AV.one (fun _ => rfl) e.list
  have a3 := sz0_rows encA 4 (fun _ => rfl) e.list
  have r1 := all_rows encR AV.flat (fun _ => rfl) e.versions
  have r2 := all_rows encR AV.one (fun _ => rfl) e.versions
  have r3 := sz0_rows encR 3 (fun _ => rfl) e.versions
  have q1 := hx.list
  have q2 := hx.versions
  have q3 := hx.slots
  simp (config := { maxSteps := 4000000 }) only [go_sem, simprocAttr, ↓dnA, Try.f118, rows_length, encG]
  refine semL_draw tab_ok mixed_ rfl (ord := [(0, []), (1, []), (3, []), (4, []), (6, []), (7, []), (2, [3, 4, 6, 7]), (5, [6, 7]), (8, []), (9, []), (10, [0, 1, 3, 4, 6, 7, 9]), (11, [])]) (by dsimp only; decide +kernel) ?_
  simp (config := { maxSteps := 4000000 }) only [go_sem, simprocAttr, ↓dnA, Try.f118, rows_length, encG]
  refine CallTo.det (c_impl_cloneEntries n1 e.base hx.base) fun _ => ?_
  simp (config := { maxSteps := 4000000 }) only [go_sem, simprocAttr, ↓dnA, Try.f118, rows_length, encG]
  repeat refine And.intro (by first | omega | (simp; done) | (simp; omega) | assumption) ?_
  refine semL_nilVA 3 3 600 6 true (by rfl) (by simp) (by rfl) (by rfl) (by decide) (by decide) ?_
  refine semL_for tab_ok (fun i : Nat => ⟨41, [(2, .loc 2 0), (3, .loc 3 0), (17, .sl n4 (rows encS1 e.slots)), (18, .int .i64 e.slots.length), (19, .int .i64 i)],
      [(2, .var [.sl (some false) [], .sl (some false) [], .sl (some false) [], .sl (some false) []]), (3, .var [.row 9000 e.base.length, .row 11 e.list.length, .row 14 e.versions.length, .row 600 i]),
        (14, .row true false 3 (rows encR e.versions)), (11, .row true false 4 (rows encA e.list)), (9000, .row true false 2 (rows encE e.base)), (600, .row true false 6 (rows encS1 (e.slots.take i)))]⟩) (fun i => e.slots.length - i)
    (fun i => i ≤ e.slots.length) 0 [(2, 2), (3, 3), (14, 14), (11, 11), (9000, 9000), (600, 600)] (Weak.of (by rfl) ?_ ?_ (by rfl)) (by omega) ?_
  · simp (config := { maxSteps := 4000000 }) only [go_sem, simprocAttr, ↓dnA, Try.f118, rows_length, frW, wk2, wk1, wkL, wkB, hpW, List.mem_cons, Prod.mk.injEq, exists_eq_left, exists_eq_right, exists_eq]
    try rfl
  · simp (config := { maxSteps := 4000000 }) only [go_sem, simprocAttr, ↓dnA, Try.f118, rows_length, frW, wk2, wk1, wkL, wkB, hpW, List.mem_cons, Prod.mk.injEq, exists_eq_left, exists_eq_right, exists_eq]
  · rintro i hi
    by_cases h : i < e.slots.length
    · have hs := hx.each _ (List.getElem_mem h)
      have hs1 := hs.fr
      have i1 := all_rows encI AV.flat (fun _ => rfl) e.slots[i].fr
      have i2 := all_rows encI AV.one (fun _ => rfl) e.slots[i].fr
      have i3 := sz0_rows encI 1 (fun _ => rfl) e.slots[i].fr
      have htk : (rows encS1 (e.slots.take i)).take i = rows encS1 (e.slots.take i) := by
        rw [List.take_of_length_le]; rw [rows_length, List.length_take]; omega
      have hl : min i e.slots.length = i := by omega
      have hw : IntKind.i64.wrap ((i : Int) + 1) = ((i + 1 : Nat) : Int) := wsucc h (by omega)
      simp (config := { maxSteps := 4000000 }) only [go_sem, simprocAttr, ↓dnA, Try.f118, rows_length, nlt h, rows_get _ _ _ h, encS1, encS, nn0]
      refine semL_draw tab_ok mixed_ rfl (ord := [(0, []), (1, []), (2, []), (3, []), (4, []), (5, []), (6, []), (7, []), (9, []), (10, []), (8, [0, 1, 2, 3, 4, 5, 9, 10]), (11, [0, 1, 2, 3, 4, 5]), (12, []), (13, [0, 1]), (14, []), (15, []), (16, [])]) (by dsimp only; decide +kernel) ?_
      simp (config := { maxSteps := 4000000 }) only [go_sem, simprocAttr, ↓dnA, Try.f118, rows_length, List.length_take, hl, htk]
      repeat refine And.intro (by first | omega | (simp; done) | (simp; omega) | assumption) ?_
      refine CallTo.det (c_impl_Effect_clone none none e.slots[i].res hs.reads hs.writes) fun _ => ?_
      simp (config := { maxSteps := 4000000 }) only [go_sem, simprocAttr, ↓dnA, Try.f118, rows_length, List.length_take, hl, htk, hw]
      repeat refine And.intro (by first | omega | (simp; done) | (simp; omega) | assumption) ?_
      refine ⟨i + 1, [(2, 2), (3, 3), (14, 14), (11, 11), (9000, 9000), (37, 600)], by omega, by dsimp only; omega, Weak.of (by rfl) ?_ ?_ (by rfl)⟩
      · simp (config := { maxSteps := 4000000 }) only [go_sem, simprocAttr, ↓dnA, Try.f118, rows_length, frW, wk2, wk1, wkL, wkB, hpW, List.mem_cons, Prod.mk.injEq, exists_eq_left, exists_eq_right, exists_eq]
        rw [take_snoc _ _ h, ← rows_snoc]
        rfl
      · simp (config := { maxSteps := 4000000 }) only [go_sem, simprocAttr, ↓dnA, Try.f118, rows_length, frW, wk2, wk1, wkL, wkB, hpW, List.mem_cons, Prod.mk.injEq, exists_eq_left, exists_eq_right, exists_eq]
    · have hi' : i = e.slots.length := by omega
      subst hi'
      simp (config := { maxSteps := 4000000 }) only [go_sem, simprocAttr, ↓dnA, Try.f118, rows_length, nlf h, encGF, List.take_length]

def slot0 : Slot := ⟨0, 0, [], ⟨false, [], []⟩⟩
/-- The engine in which nothing has been tried. -/
def engineOf (s : List Entry) (l : List Action) : Engine := if storeValid s && actionsValid l then ⟨s, l, [], List.replicate l.length slot0⟩ else ⟨[], [], [], []⟩

theorem slot0_rows (n : Nat) : List.replicate n (encS1 slot0) = rows encS1 (List.replicate n slot0) := rows_replicate _ _ _

theorem c_impl_EngineOf (n1 n2 : Option Bool) (s : List Entry) (l : List Action) (hs : s.length < 2 ^ 32) (hl : l.length < 2 ^ 32) : Det Try.prog 50 [.sl n1 (rows encE s), .sl n2 (rows encA l)] (.agg (encGF (engineOf s l))) := by
  refine fspec_det tab_ok Try.call50 Try.func50 rfl 21 Try.ntmps50 (of_decide_eq_true rfl) fun B => codeK_sound tab_ok _ _ _ ?_
  unfold engineOf
  simp (config := { maxSteps := 4000000 }) only [go_sem, simprocAttr, ↓dnA, Try.f50, rows_length]
  refine CallTo.det (c_impl_StoreValid n1 s (by omega)) fun _ => ?_
  cases h1 : storeValid s with
  | false => simp (config := { maxSteps := 4000000 }) only [go_sem, simprocAttr, ↓dnA, Try.f50, rows_length, h1, encGF, rows_nil]
  | true =>
    simp (config := { maxSteps := 4000000 }) only [go_sem, simprocAttr, ↓dnA, Try.f50, rows_length, h1]
    refine CallTo.det (c_impl_ActionsValid n2 l (by omega)) fun _ => ?_
    cases h2 : actionsValid l with
    | false => simp (config := { maxSteps := 4000000 }) only [go_sem, simprocAttr, ↓dnA, Try.f50, rows_length, h1, h2, encGF, rows_nil]
    | true =>
      have h10 : l.length ≤ 10 := by
        unfold actionsValid at h2
        rw [Bool.and_eq_true] at h2
        exact of_decide_eq_true h2.1
      have hb : (0 ≤ (l.length : Int) ∧ (l.length : Int) ≤ 9223372036854775807) := by omega
      have hz : List.replicate l.length ([.int .i64 0, .int .i64 0, .sl none [], .bool false, .sl none [], .sl none []] : List AV) = rows encS1 (List.replicate l.length slot0) := slot0_rows _
      simp (config := { maxSteps := 4000000 }) only [go_sem, simprocAttr, ↓dnA, Try.f50, rows_length, h1, h2, hz]
      repeat refine And.intro (by first | omega | (simp; done) | (simp; omega) | assumption) ?_
      have hsz : EngSz (2 ^ 32) ⟨s, l, [], List.replicate l.length slot0⟩ := ⟨hs, hl, by simp, by simp; omega, fun x hx => by rw [List.eq_of_mem_replicate hx]; exact ⟨by decide, by decide, by decide⟩⟩
      refine CallTo.det (c_impl_Engine_clone n1 n2 (some false) (some true) ⟨s, l, [], List.replicate l.length slot0⟩ hsz) fun _ => ?_
      simp (config := { maxSteps := 4000000 }) only [go_sem, simprocAttr, ↓dnA, Try.f50, rows_length, encGF, h1, h2]

theorem c_spec_EngineOf (n1 n2 : Option Bool) (s : List Entry) (l : List Action) (hs : s.length < 2 ^ 32) (hl : l.length < 2 ^ 32) : Det Try.prog 52 [.sl n1 (rows encE s), .sl n2 (rows encA l)] (.agg (encGF (engineOf s l))) := by
  refine fspec_det tab_ok Try.call52 Try.func52 rfl 24 Try.ntmps52 (of_decide_eq_true rfl) fun B => codeK_sound tab_ok _ _ _ ?_
  unfold engineOf
  simp (config := { maxSteps := 4000000 }) only [go_sem, simprocAttr, ↓dnA, Try.f52, rows_length]
  refine CallTo.det (c_spec_StoreValid n1 s (by omega)) fun _ => ?_
  cases h1 : storeValid s with
  | false => simp (config := { maxSteps := 4000000 }) only [go_sem, simprocAttr, ↓dnA, Try.f52, rows_length, h1, encGF, rows_nil]
  | true =>
    simp (config := { maxSteps := 4000000 }) only [go_sem, simprocAttr, ↓dnA, Try.f52, rows_length, h1]
    refine CallTo.det (c_spec_ActionsValid n2 l (by omega)) fun _ => ?_
    cases h2 : actionsValid l with
    | false => simp (config := { maxSteps := 4000000 }) only [go_sem, simprocAttr, ↓dnA, Try.f52, rows_length, h1, h2, encGF, rows_nil]
    | true =>
      have h10 : l.length ≤ 10 := by
        unfold actionsValid at h2
        rw [Bool.and_eq_true] at h2
        exact of_decide_eq_true h2.1
      have hz : List.replicate l.length ([.int .i64 0, .int .i64 0, .sl none [], .bool false, .sl none [], .sl none []] : List AV) = rows encS1 (List.replicate l.length slot0) := slot0_rows _
      have e1 := all_rows encE AV.flat (fun _ => rfl) s
      have e2 := all_rows encE AV.one (fun _ => rfl) s
      have e3 := sz0_rows encE 2 (fun _ => rfl) s
      have a1 := all_rows encA AV.flat (fun _ => rfl) l
      have a2 := all_rows encA AV.one (fun _ => rfl) l
      have a3 := sz0_rows encA 4 (fun _ => rfl) l
      simp (config := { maxSteps := 4000000 }) only [go_sem, simprocAttr, ↓dnA, Try.f52, rows_length, h1, h2]
      refine semL_draw tab_ok mixed_ rfl (ord := [(1, []), (4, []), (6, []), (7, [8]), (0, [1, 4, 6, 7, 8]), (2, [4, 6, 7, 8]), (3, [1, 4, 6, 7, 8]), (5, [6, 7, 8]), (8, [1, 4]), (9, []), (10, [])]) (by dsimp only; decide +kernel) ?_
      simp (config := { maxSteps := 4000000 }) only [go_sem, simprocAttr, ↓dnA, Try.f52, rows_length, h1, h2, hz, encGF, rows_nil]
      repeat refine And.intro (by first | omega | (simp; done) | (simp; omega) | assumption) ?_
      simp


end Go.Proofs.Ytmibclbinebnjaa

/- Contracts: copies of blocks and trees. -/
set_option linter.unusedSimpArgs false
set_option linter.unusedVariables false
set_option maxRecDepth 20000
set_option maxHeartbeats 4000000
namespace Go.Proofs.Ytmibclbinebnjaa
open Go Go.RowKit

def encBkF (b : Block) : List AV := [.int .i64 b.before, .int .i64 b.height, .int .i64 b.view, .osl false 4 (rows encA b.list), .int .i64 b.root, .int .i64 b.effects]

def encTF (t : Tree) : List AV := [.osl false 2 (rows encE t.base), .osl false 6 (rows encB1 t.blocks), .osl false 1 (rows encI t.before)]

theorem c_impl_Block_clone (n : Option Bool) (b : Block) (hl : b.list.length < 2 ^ 32) : Det Try.prog 85 [.agg (encBk n b)] (.agg (encBkF b)) := by
  refine fspec_det tab_ok Try.call85 Try.func85 rfl 8 Try.ntmps85 (of_decide_eq_true rfl) fun B => codeK_sound tab_ok _ _ _ ?_
  have a1 := all_rows encA AV.flat (fun _ => rfl) b.list
  have a2 := all_rows encA AV.one (fun _ => rfl) b.list
  have a3 := sz0_rows encA 4 (fun _ => rfl) b.list
  simp (config := { maxSteps := 4000000 }) only [go_sem, simprocAttr, ↓dnA, Try.f85, rows_length, encBk, encBkF]
  repeat refine And.intro (by first | omega | (simp; done) | (simp; omega) | assumption) ?_
  omega

theorem c_impl_Tree_clone (n1 n2 n3 : Option Bool) (t : Tree) (hx : TreeS32 t) : Det Try.prog 72 [.agg (encT n1 n2 n3 t)] (.agg (encTF t)) := by
  refine fspec_det tab_ok Try.call72 Try.func72 rfl 29 Try.ntmps72 (of_decide_eq_true rfl) fun B => codeK_sound tab_ok _ _ _ ?_
  have q1 := hx.base
  have q2 := hx.blocks
  have q3 := hx.before
  have a1 := all_rows encI AV.flat (fun _ => rfl) t.before
  have a2 := all_rows encI AV.one (fun _ => rfl) t.before
  have a3 := sz0_rows encI 1 (fun _ => rfl) t.before
  simp (config := { maxSteps := 4000000 }) only [go_sem, simprocAttr, ↓dnA, Try.f72, rows_length, encT]
  refine semL_draw tab_ok mixed_ rfl (ord := [(0, []), (1, []), (3, []), (4, []), (2, [3, 4]), (5, []), (6, []), (7, [0, 1, 3, 4, 6]), (8, [])]) (by dsimp only; decide +kernel) ?_
  simp (config := { maxSteps := 4000000 }) only [go_sem, simprocAttr, ↓dnA, Try.f72, rows_length, encT]
  refine CallTo.det (c_impl_cloneEntries n1 t.base q1) fun _ => ?_
  simp (config := { maxSteps := 4000000 }) only [go_sem, simprocAttr, ↓dnA, Try.f72, rows_length, encT]
  repeat refine And.intro (by first | omega | (simp; done) | (simp; omega) | assumption) ?_
  refine semL_nilVA 3 1 600 6 true (by rfl) (by simp) (by rfl) (by rfl) (by decide) (by decide) ?_
  refine semL_for tab_ok (fun i : Nat => ⟨29, [(2, .loc 2 0), (3, .loc 3 0), (14, .sl n2 (rows encB1 t.blocks)), (15, .int .i64 t.blocks.length), (16, .int .i64 i)],
      [(2, .var [.sl (some false) [], .sl (some false) [], .sl (some false) []]), (3, .var [.row 9000 t.base.length, .row 600 i, .row 11 t.before.length]),
        (11, .row true false 1 (rows encI t.before)), (9000, .row true false 2 (rows encE t.base)), (600, .row true false 6 (rows encB1 (t.blocks.take i)))]⟩) (fun i => t.blocks.length - i)
    (fun i => i ≤ t.blocks.length) 0 [(2, 2), (3, 3), (11, 11), (9000, 9000), (600, 600)] (Weak.of (by rfl) ?_ ?_ (by rfl)) (by omega) ?_
  · simp (config := { maxSteps := 4000000 }) only [go_sem, simprocAttr, ↓dnA, Try.f72, rows_length, frW, wk2, wk1, wkL, wkB, hpW, List.mem_cons, Prod.mk.injEq, exists_eq_left, exists_eq_right, exists_eq]
    try rfl
  · simp (config := { maxSteps := 4000000 }) only [go_sem, simprocAttr, ↓dnA, Try.f72, rows_length, frW, wk2, wk1, wkL, wkB, hpW, List.mem_cons, Prod.mk.injEq, exists_eq_left, exists_eq_right, exists_eq]
  · rintro i hi
    by_cases h : i < t.blocks.length
    · have hb := hx.list _ (List.getElem_mem h)
      have htk : (rows encB1 (t.blocks.take i)).take i = rows encB1 (t.blocks.take i) := by
        rw [List.take_of_length_le]; rw [rows_length, List.length_take]; omega
      have hl : min i t.blocks.length = i := by omega
      have hw : IntKind.i64.wrap ((i : Int) + 1) = ((i + 1 : Nat) : Int) := wsucc h (by omega)
      simp (config := { maxSteps := 4000000 }) only [go_sem, simprocAttr, ↓dnA, Try.f72, rows_length, nlt h, h, rows_get _ _ _ h, encB1, encBk, nn0]
      refine semL_draw tab_ok mixed_ rfl (ord := [(0, []), (1, []), (2, []), (3, [0, 1]), (4, [0, 1]), (5, []), (6, []), (7, [])]) (by dsimp only; decide +kernel) ?_
      simp (config := { maxSteps := 4000000 }) only [go_sem, simprocAttr, ↓dnA, Try.f72, rows_length, encBk]
      refine CallTo.det (c_impl_Block_clone none t.blocks[i] hb) fun _ => ?_
      simp (config := { maxSteps := 4000000 }) only [go_sem, simprocAttr, ↓dnA, Try.f72, rows_length, List.length_take, hl, htk, hw, encBkF]
      repeat refine And.intro (by first | omega | (simp; done) | (simp; omega) | assumption) ?_
      refine ⟨i + 1, [(2, 2), (3, 3), (11, 11), (9000, 9000), (25, 600)], by omega, by dsimp only; omega, Weak.of (by rfl) ?_ ?_ (by rfl)⟩
      · simp (config := { maxSteps := 4000000 }) only [go_sem, simprocAttr, ↓dnA, Try.f72, rows_length, frW, wk2, wk1, wkL, wkB, hpW, List.mem_cons, Prod.mk.injEq, exists_eq_left, exists_eq_right, exists_eq]
        rw [take_snoc _ _ h, ← rows_snoc]
        rfl
      · simp (config := { maxSteps := 4000000 }) only [go_sem, simprocAttr, ↓dnA, Try.f72, rows_length, frW, wk2, wk1, wkL, wkB, hpW, List.mem_cons, Prod.mk.injEq, exists_eq_left, exists_eq_right, exists_eq]
    · have hi' : i = t.blocks.length := by omega
      subst hi'
      simp (config := { maxSteps := 4000000 }) only [go_sem, simprocAttr, ↓dnA, Try.f72, rows_length, nlf h, encTF, List.take_length]

theorem c_spec_l13Copy (n1 n2 n3 : Option Bool) (t : Tree) (hx : TreeS32 t) : Det Try.prog 94 [.agg (encT n1 n2 n3 t)] (.agg (encTF t)) := by
  refine fspec_det tab_ok Try.call94 Try.func94 rfl 39 Try.ntmps94 (of_decide_eq_true rfl) fun B => codeK_sound tab_ok _ _ _ ?_
  have q1 := hx.base
  have q2 := hx.blocks
  have q3 := hx.before
  have a1 := all_rows encI AV.flat (fun _ => rfl) t.before
  have a2 := all_rows encI AV.one (fun _ => rfl) t.before
  have a3 := sz0_rows encI 1 (fun _ => rfl) t.before
  have b1 := all_rows encE AV.flat (fun _ => rfl) t.base
  have b2 := all_rows encE AV.one (fun _ => rfl) t.base
  have b3 := sz0_rows encE 2 (fun _ => rfl) t.base
  simp (config := { maxSteps := 4000000 }) only [go_sem, simprocAttr, ↓dnA, Try.f94, rows_length, encT]
  refine semL_draw tab_ok mixed_ rfl (ord := [(1, []), (2, []), (5, []), (6, []), (0, [1, 2, 5, 6]), (3, [5, 6]), (4, [1, 2, 5, 6]), (7, []), (8, []), (9, [1, 2, 5, 6, 8]), (10, [])]) (by dsimp only; decide +kernel) ?_
  simp (config := { maxSteps := 4000000 }) only [go_sem, simprocAttr, ↓dnA, Try.f94, rows_length, encT]
  repeat refine And.intro (by first | omega | (simp; done) | (simp; omega) | assumption) ?_
  refine semL_nilVA 3 1 600 6 true (by rfl) (by simp) (by rfl) (by rfl) (by decide) (by decide) ?_
  refine semL_for tab_ok (fun i : Nat => ⟨39, [(1, .loc 1 0), (2, .loc 2 0), (3, .loc 3 0), (4, .int .i64 i)],
      [(1, .var (encT n1 n2 n3 t)), (2, .var [.sl (some false) [], .sl (some false) [], .sl (some false) []]), (3, .var [.row 9 t.base.length, .row 600 i, .row 13 t.before.length]),
        (13, .row true true 1 (rows encI t.before)), (9, .row true true 2 (rows encE t.base)), (600, .row true false 6 (rows encB1 (t.blocks.take i)))]⟩) (fun i => t.blocks.length - i)
    (fun i => i ≤ t.blocks.length) 0 [(1, 1), (2, 2), (3, 3), (9, 9), (13, 13), (600, 600)] (Weak.of (by rfl) ?_ ?_ (by rfl)) (by omega) ?_
  · simp (config := { maxSteps := 4000000 }) only [go_sem, simprocAttr, ↓dnA, Try.f94, rows_length, encT, frW, wk2, wk1, wkL, wkB, hpW, List.mem_cons, Prod.mk.injEq, exists_eq_left, exists_eq_right, exists_eq]
    try rfl
  · simp (config := { maxSteps := 4000000 }) only [go_sem, simprocAttr, ↓dnA, Try.f94, rows_length, frW, wk2, wk1, wkL, wkB, hpW, List.mem_cons, Prod.mk.injEq, exists_eq_left, exists_eq_right, exists_eq]
  · rintro i hi
    by_cases h : i < t.blocks.length
    · have hb := hx.list _ (List.getElem_mem h)
      have htk : (rows encB1 (t.blocks.take i)).take i = rows encB1 (t.blocks.take i) := by
        rw [List.take_of_length_le]; rw [rows_length, List.length_take]; omega
      have hl : min i t.blocks.length = i := by omega
      have hw : IntKind.i64.wrap ((i : Int) + 1) = ((i + 1 : Nat) : Int) := wsucc h (by omega)
      have c1 := all_rows encA AV.flat (fun _ => rfl) t.blocks[i].list
      have c2 := all_rows encA AV.one (fun _ => rfl) t.blocks[i].list
      have c3 := sz0_rows encA 4 (fun _ => rfl) t.blocks[i].list
      simp (config := { maxSteps := 4000000 }) only [go_sem, simprocAttr, ↓dnA, Try.f94, rows_length, encT, nlt h, h, rows_get _ _ _ h, encB1, encBk, nn0, List.length_take, hl, htk, hw]
      repeat refine And.intro (by first | omega | (simp; done) | (simp; omega) | assumption) ?_
      refine ⟨i + 1, [(1, 1), (2, 2), (3, 3), (13, 13), (9, 9), (36, 600)], by omega, by dsimp only; omega, Weak.of (by rfl) ?_ ?_ (by rfl)⟩
      · simp (config := { maxSteps := 4000000 }) only [go_sem, simprocAttr, ↓dnA, Try.f94, rows_length, encT, frW, wk2, wk1, wkL, wkB, hpW, List.mem_cons, Prod.mk.injEq, exists_eq_left, exists_eq_right, exists_eq]
        rw [take_snoc _ _ h, ← rows_snoc]
        rfl
      · simp (config := { maxSteps := 4000000 }) only [go_sem, simprocAttr, ↓dnA, Try.f94, rows_length, frW, wk2, wk1, wkL, wkB, hpW, List.mem_cons, Prod.mk.injEq, exists_eq_left, exists_eq_right, exists_eq]
    · have hi' : i = t.blocks.length := by omega
      subst hi'
      simp (config := { maxSteps := 4000000 }) only [go_sem, simprocAttr, ↓dnA, Try.f94, rows_length, encT, nlf h, encTF, List.take_length]

end Go.Proofs.Ytmibclbinebnjaa

/- Contracts: what actions read, write and do. -/
set_option linter.unusedSimpArgs false
set_option linter.unusedVariables false
set_option maxRecDepth 20000
set_option maxHeartbeats 4000000
namespace Go.Proofs.Ytmibclbinebnjaa
open Go Go.RowKit

section
variable {P : Program} {T : Tab} {B : Base} {ops : Array Oper}

theorem guardAt_addDep (b a j : Nat) : guardAt (addDep ops b a).toList j = guardAt ops.toList j := by
  unfold guardAt
  rw [Array.getElem?_toList, Array.getElem?_toList, addDep_get]
  by_cases h : j = b
  · rw [if_pos h]; cases ops[j]? <;> rfl
  · rw [if_neg h]

theorem stillStep_addDep (b a : Nat) (o : Oper) (s : AState) (Φ : AState → Prop) : stillStep T (addDep ops b a).toList o s Φ = stillStep T ops.toList o s Φ := by
  unfold stillStep
  simp only [guardAt_addDep]
theorem stepK_addDep (b a : Nat) (o : Oper) (s : AState) (Φ : AState → Prop) : stepK P T (addDep ops b a).toList o s Φ = stepK P T ops.toList o s Φ := by
  unfold stepK
  simp only [guardAt_addDep]

theorem recheck_addDep (b a : Nat) (s : AState) : ∀ re : List Nat, recheck T (addDep ops b a).toList s re = recheck T ops.toList s re
  | [] => rfl
  | x :: r => by
    unfold recheck
    rw [recheck_addDep b a s r, Array.getElem?_toList, Array.getElem?_toList, addDep_get]
    simp only [stillStep_addDep]
    by_cases h : x = b
    · rw [if_pos h]; cases ops[x]? <;> rfl
    · rw [if_neg h]

theorem drawK_addDep (b a : Nat) (Φ : AState → Prop) : ∀ (ord : List (Nat × List Nat)) (s : AState), drawK P T (addDep ops b a).toList Φ ord s = drawK P T ops.toList Φ ord s
  | [], s => rfl
  | (i, re) :: rest, s => by
    unfold drawK
    simp only [recheck_addDep, drawK_addDep b a Φ rest, Array.getElem?_toList, addDep_get, stillStep_addDep, stepK_addDep]
    by_cases h : i = b
    · rw [if_pos h]; cases ops[i]? <;> rfl
    · rw [if_neg h]

/-- As 'semL_two', the region's own operations in sight. -/
theorem semL_two' (hT : TabOk P T) {Kx : Exit → AState → Prop} {s : AState} {id n : Nat} (a b : Nat) {ord1 ord2 : List (Nat × List Nat)} (hm : P.follows .mixedOrders = true) (hn : s.nt = n) (hab : a ≠ b)
    (hk1 : drawOkS (rkS (0, 0)) T (addDep ops b a) n ord1 = true) (hk2 : drawOkS (rkS (a, b)) T (addDep ops a b) n ord2 = true)
    (h : drawK P T ops.toList (Kx .normal) ord1 s ∧ drawK P T ops.toList (Kx .normal) ord2 s) : @SemL P B (.region id ops true) s ⟨Kx⟩ :=
  semL_two hT a b hm hn hab hk1 hk2 (by rw [drawK_addDep]; exact h.1) (by rw [drawK_addDep]; exact h.2)
end

/-- The value of a key. -/
def valK (v : List Int) (k : Int) : Int := v.getD k.toNat 0

theorem cellsI_at (v : List Int) (k : Int) (h0 : 0 ≤ k) (h : k.toNat < v.length) (o n : Nat) (ho : o = k.toNat) (hn : n = 1) : (((cellsI v).drop o).take n).getD 0 .top = .int .i64 (valK v k) := by
  subst ho; subst hn
  have : ((cellsI v).drop k.toNat).take 1 = [(cellsI v).getD k.toNat .top] := by
    rw [List.getD_eq_getElem?_getD, List.getElem?_eq_getElem (by rw [cellsI_length]; exact h), List.drop_eq_getElem_cons (by rw [cellsI_length]; exact h)]
    rfl
  rw [this, cellsI_get _ _ _ h]
  rfl

def readsA (a : Action) : List Int := if a.kind = 1 then [] else if a.kind = 3 ∨ a.kind = 6 ∨ a.fr = a.to then [a.fr] else [a.fr, a.to]
def writesA (a : Action) : List Int := if a.kind = 1 ∨ a.kind = 6 then [a.fr] else if a.kind = 3 ∨ a.kind = 5 ∨ a.fr = a.to then [a.to] else [min a.fr a.to, max a.fr a.to]

theorem c_impl_reads (a : Action) : Det Try.prog 167 [.agg (encA a)] (.osl false 1 (rows encI (readsA a))) := by
  refine fspec_det tab_ok Try.call167 Try.func167 rfl 31 Try.ntmps167 (of_decide_eq_true rfl) fun B => codeK_sound tab_ok _ _ _ ?_
  unfold encA readsA
  by_cases h1 : a.kind = 1
  · have e1 : (a.kind == 1) = true := by simp [h1]
    simp (config := { maxSteps := 4000000 }) only [go_sem, simprocAttr, ↓dnA, Try.f167, e1, h1, rows_nil]
  · have e1 : (a.kind == 1) = false := by simp [h1]
    by_cases h3 : a.kind = 3
    · have e3 : (a.kind == 3) = true := by simp [h3]
      simp (config := { maxSteps := 4000000 }) only [go_sem, simprocAttr, ↓dnA, Try.f167, e1, h1, e3, h3, rows, encI]
    · have e3 : (a.kind == 3) = false := by simp [h3]
      by_cases h6 : a.kind = 6
      · have e6 : (a.kind == 6) = true := by simp [h6]
        simp (config := { maxSteps := 4000000 }) only [go_sem, simprocAttr, ↓dnA, Try.f167, e1, h1, e3, h3, e6, h6, rows, encI]
      · have e6 : (a.kind == 6) = false := by simp [h6]
        by_cases hf : a.fr = a.to
        · have ef : (a.fr == a.to) = true := by simp [hf]
          simp (config := { maxSteps := 4000000 }) only [go_sem, simprocAttr, ↓dnA, Try.f167, e1, h1, e3, h3, e6, h6, ef, hf, rows, encI]
        · have ef : (a.fr == a.to) = false := by simp [hf]
          simp (config := { maxSteps := 4000000 }) only [go_sem, simprocAttr, ↓dnA, Try.f167, e1, h1, e3, h3, e6, h6, ef, hf, rows, encI]

theorem min_if (a b : Int) : (if b < a then b else a) = min a b := by
  rw [Int.min_def]; split <;> split <;> omega
theorem max_if2 (a b : Int) : (if b > a then b else a) = max a b := by
  rw [Int.max_def]; split <;> split <;> omega

theorem c_impl_writes (a : Action) : Det Try.prog 179 [.agg (encA a)] (.osl false 1 (rows encI (writesA a))) := by
  refine fspec_det tab_ok Try.call179 Try.func179 rfl 45 Try.ntmps179 (of_decide_eq_true rfl) fun B => codeK_sound tab_ok _ _ _ ?_
  unfold encA writesA
  by_cases h1 : a.kind = 1
  · have e1 : (a.kind == 1) = true := by simp [h1]
    simp (config := { maxSteps := 4000000 }) only [go_sem, simprocAttr, ↓dnA, Try.f179, e1, h1, rows, encI]
  · have e1 : (a.kind == 1) = false := by simp [h1]
    by_cases h6 : a.kind = 6
    · have e6 : (a.kind == 6) = true := by simp [h6]
      simp (config := { maxSteps := 4000000 }) only [go_sem, simprocAttr, ↓dnA, Try.f179, e1, h1, e6, h6, rows, encI]
    · have e6 : (a.kind == 6) = false := by simp [h6]
      by_cases h3 : a.kind = 3
      · have e3 : (a.kind == 3) = true := by simp [h3]
        simp (config := { maxSteps := 4000000 }) only [go_sem, simprocAttr, ↓dnA, Try.f179, e1, h1, e3, h3, e6, h6, rows, encI]
      · have e3 : (a.kind == 3) = false := by simp [h3]
        by_cases h5 : a.kind = 5
        · have e5 : (a.kind == 5) = true := by simp [h5]
          simp (config := { maxSteps := 4000000 }) only [go_sem, simprocAttr, ↓dnA, Try.f179, e1, h1, e3, h3, e5, h5, e6, h6, rows, encI]
        · have e5 : (a.kind == 5) = false := by simp [h5]
          by_cases hf : a.fr = a.to
          · have ef : (a.fr == a.to) = true := by simp [hf]
            simp (config := { maxSteps := 4000000 }) only [go_sem, simprocAttr, ↓dnA, Try.f179, e1, h1, e3, h3, e5, h5, e6, h6, ef, hf, rows, encI]
          · have ef : (a.fr == a.to) = false := by simp [hf]
            simp (config := { maxSteps := 4000000 }) only [go_sem, simprocAttr, ↓dnA, Try.f179, e1, h1, e3, h3, e5, h5, e6, h6, ef, hf, rows, encI, min_if, max_if2]

/-- Is an action done, with these values of From and To. -/
def doneA (a : Action) (f t : Int) : Bool :=
  if a.kind = 5 then decide (f + t ≤ 1000000) else if a.kind = 2 then (if a.fr = a.to then decide (f ≥ a.amount) else decide (f ≥ a.amount) && decide (t + a.amount ≤ 1000000)) else true
/-- The new value of a key that an action writes. -/
def newV (a : Action) (f t k : Int) : Int :=
  if a.kind = 1 then a.amount else if a.kind = 6 then max 0 (f - a.amount) else if a.kind = 3 then f else if a.kind = 5 then f + t else
    if a.kind = 4 then (if k = a.to then f else t) else if a.fr = a.to then f else if k = a.to then t + a.amount else f - a.amount

def ResQ (a : Action) (f t : Int) (r : AV) (b : List AV) : Prop := ∃ n D, r = .tup [.mp Try.prog 3 3 n D, .bool (doneA a f t)] ∧ b = [] ∧
  ∀ k, k ∈ writesA a → DataW.atKey D (.int .i64 k) (.lit (.int .i64 0)) = .lit (.int .i64 (newV a f t k))

structure ActOk (a : Action) : Prop where
  fr : 0 ≤ a.fr ∧ a.fr ≤ 31
  to : 0 ≤ a.to ∧ a.to ≤ 31
  amount : 0 ≤ a.amount ∧ a.amount ≤ 1000000
  kind : a.kind = 1 ∨ a.kind = 2 ∨ a.kind = 3 ∨ a.kind = 4 ∨ a.kind = 5 ∨ a.kind = 6
  z : a.kind = 1 ∨ a.kind = 6 → a.to = 0

theorem actOk_of {a : Action} (h : actionValid a = true) : ActOk a := by
  unfold actionValid at h
  simp only [Bool.and_eq_true] at h
  obtain ⟨⟨⟨h1, h2⟩, h3⟩, h4⟩ := h
  refine ⟨inB_iff.1 h1, inB_iff.1 h2, inB_iff.1 h3, ?_, ?_⟩
  · have := kindOk_bd h4; omega
  · intro hk
    unfold kindOk at h4
    rw [if_pos (by rcases hk with h | h <;> simp [h])] at h4
    simpa using h4

def ValsOk (v : List Int) : Prop := v.length = 32 ∧ ∀ k : Nat, 0 ≤ v.getD k 0 ∧ v.getD k 0 ≤ 1000000

theorem ValsOk.at {v : List Int} (h : ValsOk v) (k : Int) : 0 ≤ valK v k ∧ valK v k ≤ 1000000 := h.2 _

open Go.Maps in
theorem put_same (D : DataW Unit) (hD : IsMap D) (k x : Int) : DataW.atKey (D.put (.int .i64 k) (.lit (.int .i64 x))) (.int .i64 k) (.lit (.int .i64 0)) = .lit (.int .i64 x) := atKey_put_same hD (by trivial) _ _
open Go.Maps in
theorem put_other (D : DataW Unit) (k j : Int) (x : DataW Unit) (h : j ≠ k) : DataW.atKey (D.put (.int .i64 k) x) (.int .i64 j) (.lit (.int .i64 0)) = DataW.atKey D (.int .i64 j) (.lit (.int .i64 0)) := atKey_put_other (by intro e; cases e; exact h rfl) _ _

open Go.Maps in
theorem put1 (k x : Int) : DataW.atKey ((DataW.map [] : DataW Unit).put (.int .i64 k) (.lit (.int .i64 x))) (.int .i64 k) (.lit (.int .i64 0)) = .lit (.int .i64 x) := put_same _ isMap_empty _ _
open Go.Maps in
theorem put2 (a b x y k : Int) (hk : k = a ∨ k = b) : DataW.atKey (((DataW.map [] : DataW Unit).put (.int .i64 a) (.lit (.int .i64 x))).put (.int .i64 b) (.lit (.int .i64 y))) (.int .i64 k) (.lit (.int .i64 0)) = .lit (.int .i64 (if k = b then y else x)) := by
  by_cases h : k = b
  · subst h; rw [if_pos rfl]; exact put_same _ (isMap_empty.put _ _) _ _
  · rw [if_neg h, put_other _ _ _ _ h]
    rcases hk with rfl | rfl
    · exact put1 _ _
    · exact absurd rfl h

theorem mem_writes {a : Action} {k : Int} (h : k ∈ writesA a) : k = a.fr ∨ k = a.to := by
  unfold writesA at h
  split at h
  · simp at h; exact .inl h
  · split at h
    · simp at h; exact .inr h
    · simp at h
      rcases h with h | h
      · rw [Int.min_def] at h; split at h <;> simp [h]
      · rw [Int.max_def] at h; split at h <;> simp [h]

theorem c_impl_result (a : Action) (v : List Int) (ha : ActOk a) (hv : ValsOk v) : FSpec Try.prog 178 [.agg (encA a), .agg (cellsI v)] false [] (ResQ a (valK v a.fr) (valK v a.to)) := by
  refine fspec_rel tab_ok Try.call178 Try.func178 rfl 106 Try.ntmps178 (of_decide_eq_true rfl) fun B => codeK_sound tab_ok _ _ _ ?_
  have cl : (cellsI v).length = 32 := by rw [cellsI_length, hv.1]
  have hfr := ha.fr
  have hto := ha.to
  have ham := ha.amount
  have hf := hv.at a.fr
  have ht := hv.at a.to
  have g1 := cellsI_at v a.fr hfr.1 (by rw [hv.1]; omega) a.fr.toNat 1 rfl rfl
  have g2 := cellsI_at v a.to hto.1 (by rw [hv.1]; omega) a.to.toNat 1 rfl rfl
  simp (config := { maxSteps := 4000000 }) only [go_sem, simprocAttr, ↓dnA, Try.f178, encA]
  refine semL_draw tab_ok mixed_ rfl (ord := [(0, []), (1, []), (2, []), (3, []), (4, []), (5, []), (6, []), (7, []), (8, []), (9, [])]) (by dsimp only; decide +kernel) ?_
  obtain ⟨kd, fr, to, am⟩ := a
  dsimp only at hfr hto ham hf ht g1 g2 ⊢
  have hkd := ha.kind
  have hz := ha.z
  dsimp only at hkd hz
  have w1 : IntKind.i64.wrap (valK v fr - am) = valK v fr - am := wrap_small _ (by omega) (by omega)
  have w2 : IntKind.i64.wrap (valK v fr + valK v to) = valK v fr + valK v to := wrap_small _ (by omega) (by omega)
  have w3 : IntKind.i64.wrap (valK v to + am) = valK v to + am := wrap_small _ (by omega) (by omega)
  rcases hkd with rfl | rfl | rfl | rfl | rfl | rfl
  · simp (config := { maxSteps := 4000000 }) only [go_sem, simprocAttr, ↓dnA, Try.f178, cl, g1, g2, Nat.mul_one, w1, w2, w3]
    repeat refine And.intro (by first | omega | (simp; done) | (simp; omega) | assumption) ?_
    refine ExitR.same ⟨_, _, rfl, rfl, fun k hk => ?_⟩
    have hk : k = fr := by simpa [writesA] using hk
    subst hk
    exact put1 _ _
  · by_cases he : fr = to
    · subst he
      have e1 : (fr == fr) = true := by simp
      simp (config := { maxSteps := 4000000 }) only [go_sem, simprocAttr, ↓dnA, Try.f178, cl, g1, g2, Nat.mul_one, w1, w2, w3, e1]
      repeat refine And.intro (by first | omega | (simp; done) | (simp; omega) | assumption) ?_
      refine semL_draw tab_ok mixed_ rfl (ord := [(1, []), (2, []), (3, []), (6, []), (7, []), (8, []), (9, []), (0, [1, 2, 3, 6, 7, 8, 9]), (4, [6, 7, 8, 9]), (5, []), (10, []), (11, [])]) (by dsimp only; decide +kernel) ?_
      simp (config := { maxSteps := 4000000 }) only [go_sem, simprocAttr, ↓dnA, Try.f178, cl, g1, g2, Nat.mul_one, w1, w2, w3]
      repeat refine And.intro (by first | omega | (simp; done) | (simp; omega) | assumption) ?_
      have hd : decide (valK v fr ≥ am) = doneA ⟨2, fr, fr, am⟩ (valK v fr) (valK v fr) := by simp [doneA]
      rw [hd]
      refine ExitR.same ⟨_, _, rfl, rfl, fun k hk => ?_⟩
      have hk : k = fr := by simpa [writesA] using hk
      subst hk
      rw [put1]
      simp [newV]
    · have e1 : (fr == to) = false := by simp [he]
      have hdn : ∀ c1, decide (valK v fr ≥ am) = c1 → ∀ c2, decide (valK v to + am ≤ 1000000) = c2 → doneA ⟨2, fr, to, am⟩ (valK v fr) (valK v to) = (c1 && c2) := by
        intro c1 h1 c2 h2
        subst h1; subst h2
        simp [doneA, he]
      have hnv : ∀ k, newV ⟨2, fr, to, am⟩ (valK v fr) (valK v to) k = if k = to then valK v to + am else valK v fr - am := by
        intro k; simp [newV, he]
      simp (config := { maxSteps := 4000000 }) only [go_sem, simprocAttr, ↓dnA, Try.f178, cl, g1, g2, Nat.mul_one, w1, w2, w3, e1]
      repeat refine And.intro (by first | omega | (simp; done) | (simp; omega) | assumption) ?_
      refine semL_two' tab_ok 7 14 mixed_ rfl (by decide) (ord1 := [(1, []), (2, []), (3, []), (4, []), (5, []), (6, []), (8, []), (9, []), (10, []), (11, []), (12, []), (13, []), (16, []), (17, []), (18, []), (19, []), (20, []), (21, []), (22, []), (23, []), (24, []), (25, []), (26, []), (0, [1, 2, 3, 4, 5, 6, 8, 9, 10, 11, 12, 13, 16, 17, 18, 19, 20, 21, 22, 23, 24, 25, 26]), (7, [8, 9, 10, 11, 12, 13, 16, 17, 18, 19, 20, 21, 22, 23, 24, 25, 26]), (14, [16, 17, 18, 19, 20, 21, 22, 23, 24, 25, 26]), (15, []), (27, []), (28, [])]) (ord2 := [(1, []), (2, []), (3, []), (4, []), (5, []), (6, []), (8, []), (9, []), (10, []), (11, []), (12, []), (13, []), (16, []), (17, []), (18, []), (19, []), (20, []), (21, []), (22, []), (23, []), (24, []), (25, []), (26, []), (0, [1, 2, 3, 4, 5, 6, 8, 9, 10, 11, 12, 13, 16, 17, 18, 19, 20, 21, 22, 23, 24, 25, 26]), (14, [1, 2, 3, 4, 5, 6, 16, 17, 18, 19, 20, 21, 22, 23, 24, 25, 26]), (7, [16, 17, 18, 19, 20, 21, 22, 23, 24, 25, 26]), (15, []), (27, []), (28, [])]) (by dsimp only; decide +kernel) (by dsimp only; decide +kernel) ?_
      cases h1 : decide (valK v fr ≥ am) with
      | false =>
        have hd := hdn _ h1 _ rfl
        simp (config := { maxSteps := 4000000 }) only [go_sem, simprocAttr, ↓dnA, Try.f178, cl, g1, g2, Nat.mul_one, w1, w2, w3, h1]
        refine ⟨?_, ?_⟩
        all_goals repeat refine And.intro (by first | omega | (simp; done) | (simp; omega) | assumption) ?_
        all_goals refine ExitR.same ⟨_, _, by rw [hd]; rfl, rfl, fun k hk => ?_⟩
        all_goals (rw [put2 _ _ _ _ _ (by have := mem_writes hk; dsimp only at this; omega), hnv])
        all_goals (rcases mem_writes hk with e | e <;> dsimp only at e <;> subst e <;> simp [he, Ne.symm he])
      | true =>
        have hd := hdn _ h1 _ rfl
        simp (config := { maxSteps := 4000000 }) only [go_sem, simprocAttr, ↓dnA, Try.f178, cl, g1, g2, Nat.mul_one, w1, w2, w3, h1]
        refine ⟨?_, ?_⟩
        all_goals repeat refine And.intro (by first | omega | (simp; done) | (simp; omega) | assumption) ?_
        all_goals refine ExitR.same ⟨_, _, by rw [hd]; rfl, rfl, fun k hk => ?_⟩
        all_goals (rw [put2 _ _ _ _ _ (by have := mem_writes hk; dsimp only at this; omega), hnv])
        all_goals (rcases mem_writes hk with e | e <;> dsimp only at e <;> subst e <;> simp [he, Ne.symm he])
  · simp (config := { maxSteps := 4000000 }) only [go_sem, simprocAttr, ↓dnA, Try.f178, cl, g1, g2, Nat.mul_one, w1, w2, w3]
    repeat refine And.intro (by first | omega | (simp; done) | (simp; omega) | assumption) ?_
    refine ExitR.same ⟨_, _, rfl, rfl, fun k hk => ?_⟩
    have hk : k = to := by simpa [writesA] using hk
    subst hk
    exact put1 _ _
  · have hnv : ∀ k, newV ⟨4, fr, to, am⟩ (valK v fr) (valK v to) k = if k = to then valK v fr else valK v to := by
      intro k; simp [newV]
    simp (config := { maxSteps := 4000000 }) only [go_sem, simprocAttr, ↓dnA, Try.f178, cl, g1, g2, Nat.mul_one, w1, w2, w3]
    repeat refine And.intro (by first | omega | (simp; done) | (simp; omega) | assumption) ?_
    refine semL_two' tab_ok 4 8 mixed_ rfl (by decide) (ord1 := [(1, []), (2, []), (3, []), (5, []), (6, []), (7, []), (0, [1, 2, 3, 5, 6, 7]), (4, [5, 6, 7]), (8, []), (9, []), (10, []), (11, [])]) (ord2 := [(1, []), (2, []), (3, []), (5, []), (6, []), (7, []), (0, [1, 2, 3, 5, 6, 7]), (8, [1, 2, 3]), (4, []), (9, []), (10, []), (11, [])]) (by dsimp only; decide +kernel) (by dsimp only; decide +kernel) ?_
    simp (config := { maxSteps := 4000000 }) only [go_sem, simprocAttr, ↓dnA, Try.f178, cl, g1, g2, Nat.mul_one, w1, w2, w3]
    refine ⟨?_, ?_⟩
    all_goals repeat refine And.intro (by first | omega | (simp; done) | (simp; omega) | assumption) ?_
    all_goals refine ExitR.same ⟨_, _, rfl, rfl, fun k hk => ?_⟩
    all_goals (rw [put2 _ _ _ _ _ (by have := mem_writes hk; dsimp only at this; omega), hnv])
    all_goals (rcases mem_writes hk with e | e <;> dsimp only at e <;> subst e <;> simp)
    all_goals (intro h; subst h; rfl)
  · simp (config := { maxSteps := 4000000 }) only [go_sem, simprocAttr, ↓dnA, Try.f178, cl, g1, g2, Nat.mul_one, w1, w2, w3]
    repeat refine And.intro (by first | omega | (simp; done) | (simp; omega) | assumption) ?_
    refine ExitR.same ⟨_, _, rfl, rfl, fun k hk => ?_⟩
    have hk : k = to := by simpa [writesA] using hk
    subst hk
    exact put1 _ _
  · simp (config := { maxSteps := 4000000 }) only [go_sem, simprocAttr, ↓dnA, Try.f178, cl, g1, g2, Nat.mul_one, w1, w2, w3]
    repeat refine And.intro (by first | omega | (simp; done) | (simp; omega) | assumption) ?_
    refine ExitR.same ⟨_, _, rfl, rfl, fun k hk => ?_⟩
    have hk : k = fr := by simpa [writesA] using hk
    subst hk
    rw [put1]
    simp only [newV, if_neg (show ¬((6:Int) = 1) by omega), if_true]
    congr 2
    rw [Int.max_def]
    split <;> split <;> omega

end Go.Proofs.Ytmibclbinebnjaa

/- Contracts: running one action. -/
set_option linter.unusedSimpArgs false
set_option linter.unusedVariables false
set_option maxRecDepth 20000
set_option maxHeartbeats 4000000
namespace Go.Proofs.Ytmibclbinebnjaa
open Go Go.RowKit

theorem cellsI_noT (Tb : Nat → Prop) : ∀ v : List Int, noT Tb (cellsI v) = True
  | [] => rfl
  | x :: v => cellsI_noT Tb v
theorem cellsI_argL (s : AState) : ∀ (v : List Int) (K : List AV → Bool → Prop), argL s (cellsI v) K = K (cellsI v) false
  | [], K => rfl
  | x :: v, K => by
    show argC s (.int .i64 x) (fun c' u => argL s (cellsI v) fun cs' us => K (c' :: cs') (u || us)) = _
    rw [show (fun (c' : AV) (u : Bool) => argL s (cellsI v) fun cs' us => K (c' :: cs') (u || us)) = fun c' u => K (c' :: cellsI v) (u || false) from funext fun c' => funext fun u => cellsI_argL s v _]
    rfl

/-- The effect of an action. -/
def runE (a : Action) (v : List Int) : Effect := ⟨doneA a (valK v a.fr) (valK v a.to), (readsA a).map fun k => ⟨k, valK v k⟩, if doneA a (valK v a.fr) (valK v a.to) then (writesA a).map fun k => ⟨k, newV a (valK v a.fr) (valK v a.to) k⟩ else []⟩
def encFO (e : Effect) : List AV := [.bool e.done, .osl false 2 (rows encE e.reads), .osl false 2 (rows encE e.writes)]

theorem readsA_len (a : Action) : (readsA a).length ≤ 2 := by
  unfold readsA; split <;> (try split) <;> simp
theorem writesA_len (a : Action) : (writesA a).length ≤ 2 := by
  unfold writesA; split <;> (try split) <;> simp
theorem mem_reads {a : Action} {k : Int} (h : k ∈ readsA a) : k = a.fr ∨ k = a.to := by
  unfold readsA at h
  split at h
  · simp at h
  · split at h
    · simp at h; exact .inl h
    · simpa using h

theorem c_impl_run (a : Action) (v : List Int) (ha : ActOk a) (hv : ValsOk v) : Det Try.prog 135 [.agg (encA a), .agg (cellsI v)] (.agg (encFO (runE a v))) := by
  refine fspec_det tab_ok Try.call135 Try.func135 rfl 58 Try.ntmps135 (of_decide_eq_true rfl) fun B => codeK_sound tab_ok _ _ _ ?_
  have cl : (cellsI v).length = 32 := by rw [cellsI_length, hv.1]
  have hfr := ha.fr
  have hto := ha.to
  have h2 := readsA_len a
  have h3 := writesA_len a
  simp (config := { maxSteps := 4000000 }) only [go_sem, simprocAttr, ↓dnA, Try.f135, rows_length, cl, encA]
  refine CallTo.det (c_impl_reads a) fun _ => ?_
  simp (config := { maxSteps := 4000000 }) only [go_sem, simprocAttr, ↓dnA, Try.f135, rows_length, cl, encA]
  refine semL_nilVA 5 1 600 2 true (by rfl) (by simp) (by rfl) (by rfl) (by decide) (by decide) ?_
  generalize hrs : readsA a = rs at h2
  have hmr : ∀ k, k ∈ rs → k = a.fr ∨ k = a.to := fun k hk => mem_reads (by rw [hrs]; exact hk)
  refine semL_for tab_ok (fun i : Nat => ⟨58, [(2, .loc 2 0), (3, .loc 3 0), (4, .loc 4 0), (5, .loc 5 0), (13, .row 14000 rs.length), (14, .int .i64 rs.length), (15, .int .i64 i)],
      [(14000, .row true false 1 (rows encI rs)), (5, .var [.bool false, .row 600 i, .sl (some false) []]), (4, .var [.bool false, .sl (some false) [], .sl (some false) []]), (3, .var (cellsI v)), (2, .var (encA a)),
        (600, .row true false 2 (rows encE ((rs.take i).map fun k => ⟨k, valK v k⟩)))]⟩) (fun i => rs.length - i)
    (fun i => i ≤ rs.length) 0 [(2, 2), (3, 3), (4, 4), (5, 5), (14000, 14000), (600, 600)] (Weak.of (by rfl) ?_ ?_ (by rfl)) (by omega) ?_
  · simp (config := { maxSteps := 4000000 }) only [go_sem, simprocAttr, ↓dnA, Try.f135, rows_length, encA, cellsI_wk, frW, wk2, wk1, wkL, wkB, hpW, List.mem_cons, Prod.mk.injEq, exists_eq_left, exists_eq_right, exists_eq]
    try rfl
  · simp (config := { maxSteps := 4000000 }) only [go_sem, simprocAttr, ↓dnA, Try.f135, rows_length, encA, cellsI_wk, frW, wk2, wk1, wkL, wkB, hpW, List.mem_cons, Prod.mk.injEq, exists_eq_left, exists_eq_right, exists_eq]
  · rintro i hi
    by_cases h : i < rs.length
    · have hk := hmr _ (List.getElem_mem h)
      have hb : 0 ≤ rs[i] ∧ rs[i] < 32 := by rcases hk with e | e <;> rw [e] <;> omega
      have hb1 := hb.1
      have hb2 := hb.2
      have g1 := cellsI_at v rs[i] hb.1 (by rw [hv.1]; omega) rs[i].toNat 1 rfl rfl
      have htk : (rows encE ((rs.take i).map fun k => (⟨k, valK v k⟩ : Entry))).take i = rows encE ((rs.take i).map fun k => ⟨k, valK v k⟩) := by
        rw [List.take_of_length_le]; rw [rows_length, List.length_map, List.length_take]; omega
      have hl : min i rs.length = i := by omega
      have hw : IntKind.i64.wrap ((i : Int) + 1) = ((i + 1 : Nat) : Int) := wsucc h (by omega)
      simp (config := { maxSteps := 4000000 }) only [go_sem, simprocAttr, ↓dnA, Try.f135, rows_length, nlt h, rows_get _ _ _ h, encI, nn0]
      refine ⟨h, ?_⟩
      refine semL_draw tab_ok mixed_ rfl (ord := [(0, []), (1, []), (2, []), (3, []), (4, []), (5, []), (6, []), (7, [0, 1]), (8, []), (9, []), (10, [])]) (by dsimp only; decide +kernel) ?_
      simp (config := { maxSteps := 4000000 }) only [go_sem, simprocAttr, ↓dnA, Try.f135, rows_length, List.length_take, List.length_map, hl, htk, hw, cl, g1, hb1, hb2, Nat.mul_one]
      repeat refine And.intro (by first | omega | (simp; done) | (simp; omega) | assumption) ?_
      refine ⟨i + 1, [(2, 2), (3, 3), (4, 4), (5, 5), (14000, 14000), (27, 600)], by omega, by dsimp only; omega, Weak.of (by rfl) ?_ ?_ (by rfl)⟩
      · simp (config := { maxSteps := 4000000 }) only [go_sem, simprocAttr, ↓dnA, Try.f135, rows_length, encA, cellsI_wk, frW, wk2, wk1, wkL, wkB, hpW, List.mem_cons, Prod.mk.injEq, exists_eq_left, exists_eq_right, exists_eq]
        rw [take_snoc _ _ h, List.map_append, List.map_singleton, ← rows_snoc]
        rfl
      · simp (config := { maxSteps := 4000000 }) only [go_sem, simprocAttr, ↓dnA, Try.f135, rows_length, encA, cellsI_wk, frW, wk2, wk1, wkL, wkB, hpW, List.mem_cons, Prod.mk.injEq, exists_eq_left, exists_eq_right, exists_eq]
    · have hi' : i = rs.length := by omega
      subst hi'
      have hct : (cellsI v).take 32 = cellsI v := cellsI_take _ 32 hv.1
      simp (config := { maxSteps := 4000000 }) only [go_sem, simprocAttr, ↓dnA, Try.f135, rows_length, nlf h, encA, cl, hct, cellsI_noT, cellsI_argL]
      refine CallTo.of (c_impl_result a v ha hv) ?_
      rintro r ls ⟨n, D, rfl, rfl, hD⟩
      have hrd : (runE a v).reads = rs.map fun k => ⟨k, valK v k⟩ := by rw [← hrs]; rfl
      cases hdn : doneA a (valK v a.fr) (valK v a.to) with
      | false =>
        have hwr : (runE a v).writes = [] := by unfold runE; rw [hdn]; rfl
        have hde : (runE a v).done = false := hdn
        simp (config := { maxSteps := 4000000 }) only [go_sem, simprocAttr, ↓dnA, Try.f135, rows_length, nlf h, encA, cl, hdn, encFO, hwr, hrd, hde, List.length_map, rows_nil]
      | true =>
        have hwr : (runE a v).writes = (writesA a).map fun k => ⟨k, newV a (valK v a.fr) (valK v a.to) k⟩ := by unfold runE; rw [hdn]; rfl
        have hde : (runE a v).done = true := hdn
        simp (config := { maxSteps := 4000000 }) only [go_sem, simprocAttr, ↓dnA, Try.f135, rows_length, nlf h, encA, cl, hdn]
        refine CallTo.det (c_impl_writes a) fun _ => ?_
        simp (config := { maxSteps := 4000000 }) only [go_sem, simprocAttr, ↓dnA, Try.f135, rows_length, nlf h, encA, cl]
        refine semL_nilVA 5 2 601 2 true (by rfl) (by simp) (by rfl) (by rfl) (by decide) (by decide) ?_
        generalize hws : writesA a = ws at h3 hD hwr
        generalize hnw : (fun k => (⟨k, newV a (valK v a.fr) (valK v a.to) k⟩ : Entry)) = nw at hwr
        refine semL_for tab_ok (fun i : Nat => ⟨58, [(4, .loc 4 0), (5, .loc 5 0), (8, .mp Try.prog 3 3 n D), (40, .row 41000 ws.length), (41, .int .i64 ws.length), (42, .int .i64 i)],
            [(41000, .row true false 1 (rows encI ws)), (5, .var [.bool true, .row 600 rs.length, .row 601 i]), (4, .var [.bool false, .sl (some false) [], .sl (some false) []]),
              (600, .row true false 2 (rows encE (rs.map fun k => ⟨k, valK v k⟩))), (601, .row true false 2 (rows encE ((ws.take i).map nw)))]⟩) (fun i => ws.length - i)
          (fun i => i ≤ ws.length) 0 [(4, 4), (5, 5), (41000, 41000), (600, 600), (601, 601)] (Weak.of (by rfl) ?_ ?_ (by rfl)) (by omega) ?_
        · simp (config := { maxSteps := 4000000 }) only [go_sem, simprocAttr, ↓dnA, Try.f135, rows_length, encA, cellsI_wk, frW, wk2, wk1, wkL, wkB, hpW, List.mem_cons, Prod.mk.injEq, exists_eq_left, exists_eq_right, exists_eq]
          try rfl
        · simp (config := { maxSteps := 4000000 }) only [go_sem, simprocAttr, ↓dnA, Try.f135, rows_length, encA, cellsI_wk, frW, wk2, wk1, wkL, wkB, hpW, List.mem_cons, Prod.mk.injEq, exists_eq_left, exists_eq_right, exists_eq]
        · rintro i hi
          by_cases h : i < ws.length
          · have hk := hD _ (List.getElem_mem h)
            have htk : (rows encE ((ws.take i).map nw)).take i = rows encE ((ws.take i).map nw) := by
              rw [List.take_of_length_le]; rw [rows_length, List.length_map, List.length_take]; omega
            have hl : min i ws.length = i := by omega
            have hw : IntKind.i64.wrap ((i : Int) + 1) = ((i + 1 : Nat) : Int) := wsucc h (by omega)
            simp (config := { maxSteps := 4000000 }) only [go_sem, simprocAttr, ↓dnA, Try.f135, rows_length, nlt h, h, rows_get _ _ _ h, encI, nn0, List.length_take, List.length_map, hl, htk, hw, hk]
            have hkw := mem_writes (a := a) (by rw [hws]; exact List.getElem_mem h)
            have hb : 0 ≤ ws[i] ∧ ws[i] < 32 := by rcases hkw with e | e <;> rw [e] <;> omega
            refine ⟨by omega, fun c hc => ?_⟩
            cases hc
            repeat refine And.intro (by first | omega | (simp; done) | (simp; omega) | assumption) ?_
            refine ⟨i + 1, [(4, 4), (5, 5), (41000, 41000), (600, 600), (54, 601)], by omega, by dsimp only; omega, Weak.of (by rfl) ?_ ?_ (by rfl)⟩
            · simp (config := { maxSteps := 4000000 }) only [go_sem, simprocAttr, ↓dnA, Try.f135, rows_length, encA, cellsI_wk, frW, wk2, wk1, wkL, wkB, hpW, List.mem_cons, Prod.mk.injEq, exists_eq_left, exists_eq_right, exists_eq]
              rw [take_snoc _ _ h, List.map_append, List.map_singleton, ← rows_snoc, ← hnw]
              rfl
            · simp (config := { maxSteps := 4000000 }) only [go_sem, simprocAttr, ↓dnA, Try.f135, rows_length, encA, cellsI_wk, frW, wk2, wk1, wkL, wkB, hpW, List.mem_cons, Prod.mk.injEq, exists_eq_left, exists_eq_right, exists_eq]
          · have hi' : i = ws.length := by omega
            subst hi'
            simp (config := { maxSteps := 4000000 }) only [go_sem, simprocAttr, ↓dnA, Try.f135, rows_length, nlf h, encFO, hwr, hrd, hde, List.length_map, List.take_length]

end Go.Proofs.Ytmibclbinebnjaa

/- Contracts: running many actions. -/
set_option linter.unusedSimpArgs false
set_option linter.unusedVariables false
set_option maxRecDepth 20000
set_option maxHeartbeats 4000000
namespace Go.Proofs.Ytmibclbinebnjaa
open Go Go.RowKit

def encF1 (e : Effect) : List AV := encF none none e
/-- Values with entries written. -/
def applyW (v : List Int) (ws : List Entry) : List Int := ws.foldl putV v
/-- One action more. -/
def stepR (p : List Int × List Effect) (a : Action) : List Int × List Effect := (applyW p.1 (runE a p.1).writes, p.2 ++ [runE a p.1])
def runAllE (v : List Int) (l : List Action) : List Int × List Effect := l.foldl stepR (v, [])

def WritesOk (ws : List Entry) : Prop := ∀ w, w ∈ ws → (0 ≤ w.key ∧ w.key ≤ 31) ∧ 0 ≤ w.value ∧ w.value ≤ 1000000

theorem runE_writesOk {a : Action} {v : List Int} (ha : ActOk a) (hv : ValsOk v) : WritesOk (runE a v).writes := by
  intro w hw
  unfold runE at hw
  dsimp only at hw
  split at hw
  · rename_i hd
    obtain ⟨k, hk, rfl⟩ := List.mem_map.1 hw
    have hfr := ha.fr
    have hto := ha.to
    have ham := ha.amount
    have hf := hv.at a.fr
    have ht := hv.at a.to
    have hkd := ha.kind
    refine ⟨by rcases mem_writes hk with e | e <;> dsimp only <;> rw [e] <;> omega, ?_⟩
    unfold newV
    unfold doneA at hd
    dsimp only
    rcases hkd with e | e | e | e | e | e <;> simp [e] at hd ⊢
    · omega
    · by_cases h : a.fr = a.to
      · simp [h] at hd ⊢; rw [h] at hf; omega
      · simp [h] at hd ⊢; split <;> omega
    · omega
    · split <;> omega
    · omega
    · omega
  · cases hw

theorem applyW_ok : ∀ (ws : List Entry) (v : List Int), ValsOk v → WritesOk ws → ValsOk (applyW v ws)
  | [], v, hv, _ => hv
  | w :: ws, v, hv, hw => by
    refine applyW_ok ws (putV v w) ⟨by unfold putV; rw [List.length_set]; exact hv.1, fun k => ?_⟩ fun x hx => hw x (List.mem_cons_of_mem _ hx)
    have h1 := hw w (List.mem_cons_self ..)
    unfold putV
    rw [List.getD_eq_getElem?_getD, List.getElem?_set]
    split
    · split
      · exact h1.2
      · simp
    · rw [← List.getD_eq_getElem?_getD]; exact hv.2 k

theorem applyW_take (v : List Int) (ws : List Entry) (i : Nat) (h : i < ws.length) : applyW v (ws.take (i + 1)) = putV (applyW v (ws.take i)) ws[i] := by
  unfold applyW
  rw [take_snoc _ _ h, List.foldl_append]
  rfl

theorem runAllE_take (v : List Int) (l : List Action) (i : Nat) (h : i < l.length) : runAllE v (l.take (i + 1)) = stepR (runAllE v (l.take i)) l[i] := by
  unfold runAllE
  rw [take_snoc _ _ h, List.foldl_append]
  rfl

theorem runAllE_ok {v : List Int} {l : List Action} (hl : ∀ a, a ∈ l → ActOk a) (hv : ValsOk v) : ∀ i, i ≤ l.length → ValsOk (runAllE v (l.take i)).1 ∧ (runAllE v (l.take i)).2.length = i
  | 0, _ => ⟨by simpa [runAllE] using hv, by simp [runAllE]⟩
  | i + 1, hi => by
    have ih := runAllE_ok hl hv i (by omega)
    rw [runAllE_take _ _ _ (by omega)]
    exact ⟨applyW_ok _ _ ih.1 (runE_writesOk (hl _ (List.getElem_mem _)) ih.1), by simp [stepR, ih.2]⟩

theorem c_impl_runAll (n1 : Option Bool) (v : List Int) (l : List Action) (hl : ∀ a, a ∈ l → ActOk a) (h10 : l.length ≤ 10) (hv : ValsOk v) :
    Det Try.prog 61 [.agg (cellsI v), .sl n1 (rows encA l)] (.tup [.agg (cellsI (runAllE v l).1), .osl false 3 (rows encF1 (runAllE v l).2)]) := by
  refine fspec_det tab_ok Try.call61 Try.func61 rfl 41 Try.ntmps61 (of_decide_eq_true rfl) fun B => codeK_sound tab_ok _ _ _ ?_
  have cl : (cellsI v).length = 32 := by rw [cellsI_length, hv.1]
  simp (config := { maxSteps := 4000000 }) only [go_sem, simprocAttr, ↓dnA, Try.f61, rows_length, cl, cellsI_impL, cellsI_impLB]
  refine semL_nilA 6 600 3 true (by rfl) (by rfl) (by decide) (by decide) ?_
  refine semL_for tab_ok (fun i : Nat => ⟨41, [(2, .loc 2 0), (4, .loc 4 0), (6, .row 600 i), (12, .sl n1 (rows encA l)), (13, .int .i64 l.length), (14, .int .i64 i)],
      [(2, .var (cellsI (runAllE v (l.take i)).1)), (4, .var (cellsI zeros32)), (600, .row true false 3 (rows encF1 (runAllE v (l.take i)).2))]⟩) (fun i => l.length - i)
    (fun i => i ≤ l.length) 0 [(2, 2), (4, 4), (600, 600)] (Weak.of (by rfl) ?_ ?_ (by rfl)) (by omega) ?_
  · simp (config := { maxSteps := 4000000 }) only [go_sem, simprocAttr, ↓dnA, Try.f61, rows_length, frW, wk2, wk1, wkL, wkB, hpW, List.mem_cons, Prod.mk.injEq, exists_eq_left, exists_eq_right, exists_eq]
    exact ⟨of_eq_true (cellsI_wk _ v), of_eq_true (cellsI_wk _ zeros32), rfl⟩
  · simp (config := { maxSteps := 4000000 }) only [go_sem, simprocAttr, ↓dnA, Try.f61, rows_length, frW, wk2, wk1, wkL, wkB, hpW, List.mem_cons, Prod.mk.injEq, exists_eq_left, exists_eq_right, exists_eq]
  · rintro i hi
    obtain ⟨hV, hL⟩ := runAllE_ok hl hv i hi
    generalize hp : runAllE v (l.take i) = p at hV hL
    obtain ⟨u, es⟩ := p
    dsimp only at hV hL
    have cu : (cellsI u).length = 32 := by rw [cellsI_length, hV.1]
    by_cases h : i < l.length
    · have ha := hl _ (List.getElem_mem h)
      have hcu : (cellsI u).take 32 = cellsI u := cellsI_take _ 32 hV.1
      simp (config := { maxSteps := 4000000 }) only [go_sem, simprocAttr, ↓dnA, Try.f61, rows_length, nlt h, h, hp, rows_get _ _ _ h, encA, nn0, cu, hcu, cellsI_noT, cellsI_argL]
      refine CallTo.det (c_impl_run l[i] u ha hV) fun _ => ?_
      simp (config := { maxSteps := 4000000 }) only [go_sem, simprocAttr, ↓dnA, Try.f61, rows_length, encFO, nn0, cu]
      have hW := runE_writesOk ha hV
      have hWl : (runE l[i] u).writes.length ≤ 2 := by
        unfold runE
        dsimp only
        split
        · rw [List.length_map]; exact writesA_len _
        · simp
      have hW0 : applyW u ((runE l[i] u).writes.take 0) = u := rfl
      have hstep : runAllE v (l.take (i + 1)) = (applyW u (runE l[i] u).writes, es ++ [runE l[i] u]) := by rw [runAllE_take _ _ _ h, hp]; rfl
      have hee : encF1 (runE l[i] u) = [.bool (runE l[i] u).done, .sl none (rows encE (runE l[i] u).reads), .sl none (rows encE (runE l[i] u).writes)] := rfl
      generalize hr : runE l[i] u = r at hW hWl hW0 hstep hee
      refine semL_for tab_ok (fun j : Nat => ⟨41, [(2, .loc 2 0), (4, .loc 4 0), (6, .row 600 i), (9, .loc 9 0), (12, .sl n1 (rows encA l)), (13, .int .i64 l.length), (14, .int .i64 i), (22, .row 21002 r.writes.length), (23, .int .i64 r.writes.length), (24, .int .i64 j)],
          [(2, .var (cellsI (applyW u (r.writes.take j)))), (4, .var (cellsI zeros32)), (600, .row true false 3 (rows encF1 es)), (9, .var [.bool r.done, .row 21001 r.reads.length, .row 21002 r.writes.length]),
            (21001, .row true false 2 (rows encE r.reads)), (21002, .row true false 2 (rows encE r.writes))]⟩) (fun j => r.writes.length - j)
        (fun j => j ≤ r.writes.length) 0 [(2, 2), (4, 4), (600, 600), (9, 9), (21001, 21001), (21002, 21002)] (Weak.of (by rfl) ?_ ?_ (by rfl)) (by omega) ?_
      · simp (config := { maxSteps := 4000000 }) only [go_sem, simprocAttr, ↓dnA, Try.f61, rows_length, frW, wk2, wk1, wkL, wkB, hpW, List.mem_cons, Prod.mk.injEq, exists_eq_left, exists_eq_right, exists_eq]
        exact ⟨of_eq_true (cellsI_wk _ u), of_eq_true (cellsI_wk _ _)⟩
      · simp (config := { maxSteps := 4000000 }) only [go_sem, simprocAttr, ↓dnA, Try.f61, rows_length, cellsI_wk, frW, wk2, wk1, wkL, wkB, hpW, List.mem_cons, Prod.mk.injEq, exists_eq_left, exists_eq_right, exists_eq]
      · rintro j hj
        have hA : ValsOk (applyW u (r.writes.take j)) := applyW_ok _ _ hV fun w hw => hW w (List.mem_of_mem_take hw)
        by_cases h2 : j < r.writes.length
        · have hw1 := hW _ (List.getElem_mem h2)
          have hw0 := applyW_take u _ _ h2
          generalize applyW u (r.writes.take j) = x at hA hw0
          have cx : (cellsI x).length = 32 := by rw [cellsI_length, hA.1]
          have hk0 := hw1.1.1
          have hk1 : r.writes[j].key < 32 := by omega
          have hw : IntKind.i64.wrap ((j : Int) + 1) = ((j + 1 : Nat) : Int) := wsucc h2 (by omega)
          simp (config := { maxSteps := 4000000 }) only [go_sem, simprocAttr, ↓dnA, Try.f61, rows_length, nlt h2, h2, rows_get _ _ _ h2, encE, nn0, cx, hw, hk0, hk1, cellsI_set, Nat.mul_one, show ¬ (1 = 32) by decide]
          repeat refine And.intro (by first | omega | (simp; done) | (simp; omega) | assumption) ?_
          refine ⟨j + 1, [(2, 2), (4, 4), (600, 600), (9, 9), (21001, 21001), (21002, 21002)], by omega, by dsimp only; omega, Weak.of (by rfl) ?_ ?_ (by rfl)⟩
          · simp (config := { maxSteps := 4000000 }) only [go_sem, simprocAttr, ↓dnA, Try.f61, rows_length, hw0, frW, wk2, wk1, wkL, wkB, hpW, List.mem_cons, Prod.mk.injEq, exists_eq_left, exists_eq_right, exists_eq]
            exact ⟨of_eq_true (cellsI_wk _ (putV x r.writes[j])), of_eq_true (cellsI_wk _ _)⟩
          · simp (config := { maxSteps := 4000000 }) only [go_sem, simprocAttr, ↓dnA, Try.f61, rows_length, frW, wk2, wk1, wkL, wkB, hpW, List.mem_cons, Prod.mk.injEq, exists_eq_left, exists_eq_right, exists_eq]
        · have hj' : j = r.writes.length := by omega
          subst hj'
          have hte : (rows encF1 es).take i = rows encF1 es := by rw [List.take_of_length_le]; rw [rows_length, hL]; omega
          have hw : IntKind.i64.wrap ((i : Int) + 1) = ((i + 1 : Nat) : Int) := wsucc h (by omega)
          simp (config := { maxSteps := 4000000 }) only [go_sem, simprocAttr, ↓dnA, Try.f61, rows_length, nlf h2, hL, hte, hw]
          repeat refine And.intro (by first | omega | (simp; done) | (simp; omega) | assumption) ?_
          refine ⟨i + 1, [(2, 2), (4, 4), (37, 600)], by omega, by dsimp only; omega, Weak.of (by rfl) ?_ ?_ (by rfl)⟩
          · simp (config := { maxSteps := 4000000 }) only [go_sem, simprocAttr, ↓dnA, Try.f61, rows_length, hstep, ← rows_snoc, hee, frW, wk2, wk1, wkL, wkB, hpW, List.mem_cons, Prod.mk.injEq, exists_eq_left, exists_eq_right, exists_eq]
            exact ⟨of_eq_true (cellsI_wk _ _), of_eq_true (cellsI_wk _ _)⟩
          · simp (config := { maxSteps := 4000000 }) only [go_sem, simprocAttr, ↓dnA, Try.f61, rows_length, frW, wk2, wk1, wkL, wkB, hpW, List.mem_cons, Prod.mk.injEq, exists_eq_left, exists_eq_right, exists_eq]
    · have hi' : i = l.length := by omega
      subst hi'
      rw [List.take_length] at hp
      have hcu : (cellsI u).take 32 = cellsI u := cellsI_take _ 32 hV.1
      have cz : (cellsI zeros32).length = 32 := rfl
      simp (config := { maxSteps := 4000000 }) only [go_sem, simprocAttr, ↓dnA, Try.f61, rows_length, nlf h, hp, List.take_length, cu, hcu, cz, hL, cellsI_exp, cellsI_rw, cellsI_one]

end Go.Proofs.Ytmibclbinebnjaa

/- Contracts: stores of values, serial runs (the program's). -/
set_option linter.unusedSimpArgs false
set_option linter.unusedVariables false
set_option maxRecDepth 20000
set_option maxHeartbeats 4000000
namespace Go.Proofs.Ytmibclbinebnjaa
open Go Go.RowKit

/-- The entries of the first n values. -/
def storeUp (v : List Int) (n : Nat) : List Entry := (List.range n).filterMap fun k => if v.getD k 0 > 0 then some ⟨(k : Int), v.getD k 0⟩ else none
def storeL (v : List Int) : List Entry := storeUp v 32
theorem storeUp_pos (v : List Int) (n : Nat) (h : v.getD n 0 > 0) : storeUp v (n + 1) = storeUp v n ++ [⟨(n : Int), v.getD n 0⟩] := by
  unfold storeUp
  rw [List.range_succ, List.filterMap_append]
  simp only [List.filterMap_cons, List.filterMap_nil, if_pos h]
theorem storeUp_neg (v : List Int) (n : Nat) (h : ¬ v.getD n 0 > 0) : storeUp v (n + 1) = storeUp v n := by
  unfold storeUp
  rw [List.range_succ, List.filterMap_append]
  simp only [List.filterMap_cons, List.filterMap_nil, if_neg h, List.append_nil]
theorem storeUp_len (v : List Int) (n : Nat) : (storeUp v n).length ≤ n := by
  have := List.length_filterMap_le (fun k : Nat => if v.getD k 0 > 0 then some (⟨(k : Int), v.getD k 0⟩ : Entry) else none) (List.range n)
  rw [List.length_range] at this
  exact this

theorem c_impl_store (v : List Int) (hv : ValsOk v) : Det Try.prog 63 [.agg (cellsI v)] (.osl false 2 (rows encE (storeL v))) := by
  refine fspec_det tab_ok Try.call63 Try.func63 rfl 21 Try.ntmps63 (of_decide_eq_true rfl) fun B => codeK_sound tab_ok _ _ _ ?_
  have cl : (cellsI v).length = 32 := by rw [cellsI_length, hv.1]
  have hcv : (cellsI v).take 32 = cellsI v := cellsI_take _ 32 hv.1
  simp (config := { maxSteps := 4000000 }) only [go_sem, simprocAttr, ↓dnA, Try.f63, rows_length, cl, hcv, cellsI_impL, cellsI_impLB]
  refine semL_nilA 3 600 2 true (by rfl) (by rfl) (by decide) (by decide) ?_
  refine semL_for tab_ok (fun i : Nat => ⟨21, [(1, .loc 1 0), (3, .row 600 (storeUp v i).length), (6, .agg (cellsI v)), (7, .int .i64 i)],
      [(1, .var (cellsI v)), (600, .row true false 2 (rows encE (storeUp v i)))]⟩) (fun i => 32 - i)
    (fun i => i ≤ 32) 0 [(1, 1), (600, 600)] (Weak.of (by rfl) ?_ ?_ (by rfl)) (by omega) ?_
  · simp (config := { maxSteps := 4000000 }) only [go_sem, simprocAttr, ↓dnA, Try.f63, rows_length, cellsI_wk, frW, wk2, wk1, wkL, wkB, hpW, List.mem_cons, Prod.mk.injEq, exists_eq_left, exists_eq_right, exists_eq]
    try rfl
  · simp (config := { maxSteps := 4000000 }) only [go_sem, simprocAttr, ↓dnA, Try.f63, rows_length, cellsI_wk, frW, wk2, wk1, wkL, wkB, hpW, List.mem_cons, Prod.mk.injEq, exists_eq_left, exists_eq_right, exists_eq]
    try rfl
  · rintro i hi
    have hl := storeUp_len v i
    by_cases h : i < 32
    · have hg := cellsI_get v i .top (by rw [hv.1]; exact h)
      have hw : IntKind.i64.wrap ((i : Int) + 1) = ((i + 1 : Nat) : Int) := wsucc h (by omega)
      have hn : decide ((i : Int) < 32) = true := by simp; omega
      have htk : (rows encE (storeUp v i)).take (storeUp v i).length = rows encE (storeUp v i) := by
        rw [List.take_of_length_le]; rw [rows_length]; omega
      cases hp : decide (v.getD i 0 > 0) with
      | true =>
        have hsu := storeUp_pos v i (of_decide_eq_true hp)
        simp (config := { maxSteps := 4000000 }) only [go_sem, simprocAttr, ↓dnA, Try.f63, rows_length, hn, h, nn0, cl, hg, hp, hw, htk]
        repeat refine And.intro (by first | omega | (simp; done) | (simp; omega) | assumption) ?_
        refine ⟨i + 1, [(1, 1), (18, 600)], by omega, by dsimp only; omega, Weak.of (by rfl) ?_ ?_ (by rfl)⟩
        · simp (config := { maxSteps := 4000000 }) only [go_sem, simprocAttr, ↓dnA, Try.f63, rows_length, hsu, ← rows_snoc, List.length_append, frW, wk2, wk1, wkL, wkB, hpW, List.mem_cons, Prod.mk.injEq, exists_eq_left, exists_eq_right, exists_eq]
          exact ⟨of_eq_true (cellsI_wk _ v), rfl⟩
        · simp (config := { maxSteps := 4000000 }) only [go_sem, simprocAttr, ↓dnA, Try.f63, rows_length, hsu, ← rows_snoc, List.length_append, frW, wk2, wk1, wkL, wkB, hpW, List.mem_cons, Prod.mk.injEq, exists_eq_left, exists_eq_right, exists_eq]
          try exact of_eq_true (cellsI_wk _ v)
      | false =>
        have hsu := storeUp_neg v i (of_decide_eq_false hp)
        simp (config := { maxSteps := 4000000 }) only [go_sem, simprocAttr, ↓dnA, Try.f63, rows_length, hn, h, nn0, cl, hg, hp, hw]
        repeat refine And.intro (by first | omega | (simp; done) | (simp; omega) | assumption) ?_
        refine ⟨i + 1, [(1, 1), (600, 600)], by omega, by dsimp only; omega, Weak.of (by rfl) ?_ ?_ (by rfl)⟩
        · simp (config := { maxSteps := 4000000 }) only [go_sem, simprocAttr, ↓dnA, Try.f63, rows_length, hsu, frW, wk2, wk1, wkL, wkB, hpW, List.mem_cons, Prod.mk.injEq, exists_eq_left, exists_eq_right, exists_eq]
          exact of_eq_true (cellsI_wk _ v)
        · simp (config := { maxSteps := 4000000 }) only [go_sem, simprocAttr, ↓dnA, Try.f63, rows_length, hsu, frW, wk2, wk1, wkL, wkB, hpW, List.mem_cons, Prod.mk.injEq, exists_eq_left, exists_eq_right, exists_eq]
          exact of_eq_true (cellsI_wk _ v)
    · have hi' : i = 32 := by omega
      subst hi'
      simp (config := { maxSteps := 4000000 }) only [go_sem, simprocAttr, ↓dnA, Try.f63, rows_length]
      rfl

/-- A serial run. -/
def runSerial (s : List Entry) (l : List Action) : List Entry × List Effect :=
  if storeValid s && actionsValid l then (storeL (runAllE (valuesL s) l).1, (runAllE (valuesL s) l).2) else ([], [])

theorem valuesL_ok {xs : List Entry} (h : storeValid xs = true) : ValsOk (valuesL xs) := by
  obtain ⟨h1, h2⟩ := entOk_spec 1 xs (-1) h
  refine applyW_ok xs zeros32 ⟨rfl, fun k => ?_⟩ fun w hw => ?_
  · rw [List.getD_eq_getElem?_getD, zeros32, List.getElem?_replicate]
    split <;> simp
  · have := h1 w hw
    omega

theorem actionsValid_ok {l : List Action} (h : actionsValid l = true) : (∀ a, a ∈ l → ActOk a) ∧ l.length ≤ 10 := by
  unfold actionsValid at h
  rw [Bool.and_eq_true] at h
  exact ⟨fun a ha => actOk_of (List.all_eq_true.1 h.2 a ha), of_decide_eq_true h.1⟩

theorem c_impl_RunSerial (n1 n2 : Option Bool) (s : List Entry) (l : List Action) (hs : s.length < 2 ^ 32) (hl : l.length < 2 ^ 32) :
    Det Try.prog 11 [.sl n1 (rows encE s), .sl n2 (rows encA l)] (.tup [.osl false 2 (rows encE (runSerial s l).1), .osl false 3 (rows encF1 (runSerial s l).2)]) := by
  refine fspec_det tab_ok Try.call11 Try.func11 rfl 26 Try.ntmps11 (of_decide_eq_true rfl) fun B => codeK_sound tab_ok _ _ _ ?_
  unfold runSerial
  simp (config := { maxSteps := 4000000 }) only [go_sem, simprocAttr, ↓dnA, Try.f11, rows_length]
  refine CallTo.det (c_impl_StoreValid n1 s (by omega)) fun _ => ?_
  cases h1 : storeValid s with
  | false => simp (config := { maxSteps := 4000000 }) only [go_sem, simprocAttr, ↓dnA, Try.f11, rows_length, h1, rows_nil]
  | true =>
    simp (config := { maxSteps := 4000000 }) only [go_sem, simprocAttr, ↓dnA, Try.f11, rows_length, h1]
    refine CallTo.det (c_impl_ActionsValid n2 l (by omega)) fun _ => ?_
    cases h2 : actionsValid l with
    | false => simp (config := { maxSteps := 4000000 }) only [go_sem, simprocAttr, ↓dnA, Try.f11, rows_length, h1, h2, rows_nil]
    | true =>
      obtain ⟨ha, h10⟩ := actionsValid_ok h2
      have hV := valuesL_ok h1
      have cl : (cellsI (valuesL s)).length = 32 := by rw [cellsI_length, hV.1]
      have hcv : (cellsI (valuesL s)).take 32 = cellsI (valuesL s) := cellsI_take _ 32 hV.1
      have hO := runAllE_ok ha hV l.length (Nat.le_refl _)
      rw [List.take_length] at hO
      obtain ⟨h3, h4⟩ := entOk_spec 1 s (-1) h1
      simp (config := { maxSteps := 4000000 }) only [go_sem, simprocAttr, ↓dnA, Try.f11, rows_length, h1, h2]
      refine CallTo.det (c_impl_valuesOf n1 s (by omega) (fun e he => by have := h3 e he; omega)) fun _ => ?_
      simp (config := { maxSteps := 4000000 }) only [go_sem, simprocAttr, ↓dnA, Try.f11, rows_length, h1, h2, cl, hcv, cellsI_impL, cellsI_impLB, cellsI_noT, cellsI_argL]
      refine CallTo.det (c_impl_runAll n2 (valuesL s) l ha h10 hV) fun _ => ?_
      generalize hp : runAllE (valuesL s) l = p at hO
      have cp : (cellsI p.1).length = 32 := by rw [cellsI_length, hO.1.1]
      have hcp : (cellsI p.1).take 32 = cellsI p.1 := cellsI_take _ 32 hO.1.1
      simp (config := { maxSteps := 4000000 }) only [go_sem, simprocAttr, ↓dnA, Try.f11, rows_length, h1, h2, cl, hcv, cp, hcp, cellsI_impL, cellsI_impLB, cellsI_noT, cellsI_argL, cellsI_one, cellsI_exp]
      repeat refine And.intro (by first | omega | (simp; done) | (simp; omega) | assumption) ?_
      refine CallTo.det (c_impl_store p.1 hO.1) fun _ => ?_
      simp (config := { maxSteps := 4000000 }) only [go_sem, simprocAttr, ↓dnA, Try.f11, rows_length, h1, h2, cl, hcv, cp, hcp, cellsI_impL, cellsI_impLB, cellsI_noT, cellsI_argL, cellsI_one, cellsI_exp]

end Go.Proofs.Ytmibclbinebnjaa

/- Contracts: the reference's stores with entries put. -/
set_option linter.unusedSimpArgs false
set_option linter.unusedVariables false
set_option maxRecDepth 20000
set_option maxHeartbeats 4000000
namespace Go.Proofs.Ytmibclbinebnjaa
open Go Go.RowKit

/-- One entry more, while k is put. -/
def putS (k x : Int) (p : List Entry × Bool) (e : Entry) : List Entry × Bool :=
  let q := if !p.2 && decide (e.key ≥ k) then (p.1 ++ [⟨k, x⟩], true) else p
  if (e.key != k) = true then (q.1 ++ [e], q.2) else q
def putF (k x : Int) (d : Bool) (s : List Entry) : List Entry × Bool := s.foldl (putS k x) ([], d)
def putD (k x : Int) (d : Bool) (s : List Entry) : List Entry := if (putF k x d s).2 then (putF k x d s).1 else (putF k x d s).1 ++ [⟨k, x⟩]

theorem putF_take (k x : Int) (d : Bool) (s : List Entry) (i : Nat) (h : i < s.length) : putF k x d (s.take (i + 1)) = putS k x (putF k x d (s.take i)) s[i] := by
  unfold putF
  rw [take_snoc _ _ h, List.foldl_append]
  rfl
theorem putF_len (k x : Int) (d : Bool) (s : List Entry) : ∀ i, i ≤ s.length → (putF k x d (s.take i)).1.length ≤ 2 * i
  | 0, _ => by simp [putF]
  | i + 1, hi => by
    have ih := putF_len k x d s i (by omega)
    rw [putF_take _ _ _ _ _ (by omega)]
    unfold putS
    dsimp only
    split <;> split <;> simp <;> omega

theorem c_spec_l4Put (n1 : Option Bool) (s : List Entry) (k x : Int) (hs : s.length < 2 ^ 32) : Det Try.prog 181 [.sl n1 (rows encE s), .int .i64 k, .int .i64 x] (.osl true 2 (rows encE (putD k x false s))) := by
  refine fspec_det tab_ok Try.call181 Try.func181 rfl 57 Try.ntmps181 (of_decide_eq_true rfl) fun B => codeK_sound tab_ok _ _ _ ?_
  simp (config := { maxSteps := 4000000 }) only [go_sem, simprocAttr, ↓dnA, Try.f181, rows_length]
  refine semL_for tab_ok (fun i : Nat => ⟨57, [(0, .sl n1 (rows encE s)), (1, .int .i64 k), (2, .int .i64 x), (7, .row 600 (putF k x false (s.take i)).1.length), (8, .bool (putF k x false (s.take i)).2), (9, .int .i64 i)],
      [(600, .row true true 2 (rows encE (putF k x false (s.take i)).1))]⟩) (fun i => s.length - i)
    (fun i => i ≤ s.length) 0 [(10, 600)] (Weak.of (by rfl) ?_ ?_ (by rfl)) (by omega) ?_
  · simp (config := { maxSteps := 4000000 }) only [go_sem, simprocAttr, ↓dnA, Try.f181, rows_length, frW, wk2, wk1, wkL, wkB, hpW, List.mem_cons, Prod.mk.injEq, exists_eq_left, exists_eq_right, exists_eq]
    rfl
  · simp (config := { maxSteps := 4000000 }) only [go_sem, simprocAttr, ↓dnA, Try.f181, rows_length, frW, wk2, wk1, wkL, wkB, hpW, List.mem_cons, Prod.mk.injEq, exists_eq_left, exists_eq_right, exists_eq]
    exact ⟨rfl, rfl⟩
  · rintro i hi
    have hl := putF_len k x false s i hi
    by_cases h : i < s.length
    · have hw : IntKind.i64.wrap ((i : Int) + 1) = ((i + 1 : Nat) : Int) := wsucc h (by omega)
      have hst := putF_take k x false s i h
      generalize hp : putF k x false (s.take i) = p at hl hst
      obtain ⟨acc, dn⟩ := p
      dsimp only at hl
      have htk : (rows encE acc).take acc.length = rows encE acc := by rw [List.take_of_length_le]; rw [rows_length]; omega
      have hlk : List.length (rows encE acc ++ [[AV.int IntKind.i64 k, AV.int IntKind.i64 x]]) = acc.length + 1 := by simp [rows_length]
      have htk2 : (rows encE acc ++ [[AV.int IntKind.i64 k, AV.int IntKind.i64 x]]).take (acc.length + 1) = rows encE acc ++ [[AV.int IntKind.i64 k, AV.int IntKind.i64 x]] := by rw [List.take_of_length_le]; rw [hlk]; omega
      cases dn <;> cases h1 : decide (s[i].key ≥ k) <;> cases h2 : (s[i].key != k)
      all_goals (simp only [putS, h1, h2, Bool.not_true, Bool.not_false, Bool.and_true, Bool.and_false, Bool.false_eq_true, if_true, if_false] at hst)
      all_goals (simp (config := { maxSteps := 4000000 }) only [go_sem, simprocAttr, ↓dnA, Try.f181, rows_length, nlt h, h, rows_get _ _ _ h, encE, nn0, hp, h1, h2, htk, hlk, htk2, hw])
      all_goals repeat refine And.intro (by first | omega | (simp; done) | (simp; omega) | assumption) ?_
      all_goals first
        | (refine ⟨i + 1, [(47, 600)], by omega, by dsimp only; omega, Weak.of (by rfl) ?_ ?_ (by rfl)⟩
           · simp (config := { maxSteps := 4000000 }) only [go_sem, simprocAttr, ↓dnA, Try.f181, rows_length, hst, List.length_append, frW, wk2, wk1, wkL, wkB, hpW, List.mem_cons, Prod.mk.injEq, exists_eq_left, exists_eq_right, exists_eq]
             simp [rows, encE]
           · simp (config := { maxSteps := 4000000 }) only [go_sem, simprocAttr, ↓dnA, Try.f181, rows_length, hst, List.length_append, frW, wk2, wk1, wkL, wkB, hpW, List.mem_cons, Prod.mk.injEq, exists_eq_left, exists_eq_right, exists_eq])
        | (refine ⟨i + 1, [(33, 600)], by omega, by dsimp only; omega, Weak.of (by rfl) ?_ ?_ (by rfl)⟩
           · simp (config := { maxSteps := 4000000 }) only [go_sem, simprocAttr, ↓dnA, Try.f181, rows_length, hst, List.length_append, frW, wk2, wk1, wkL, wkB, hpW, List.mem_cons, Prod.mk.injEq, exists_eq_left, exists_eq_right, exists_eq]
             simp [rows, encE]
           · simp (config := { maxSteps := 4000000 }) only [go_sem, simprocAttr, ↓dnA, Try.f181, rows_length, hst, List.length_append, frW, wk2, wk1, wkL, wkB, hpW, List.mem_cons, Prod.mk.injEq, exists_eq_left, exists_eq_right, exists_eq])
        | (refine ⟨i + 1, [(600, 600)], by omega, by dsimp only; omega, Weak.of (by rfl) ?_ ?_ (by rfl)⟩
           · simp (config := { maxSteps := 4000000 }) only [go_sem, simprocAttr, ↓dnA, Try.f181, rows_length, hst, List.length_append, frW, wk2, wk1, wkL, wkB, hpW, List.mem_cons, Prod.mk.injEq, exists_eq_left, exists_eq_right, exists_eq]
           · simp (config := { maxSteps := 4000000 }) only [go_sem, simprocAttr, ↓dnA, Try.f181, rows_length, hst, List.length_append, frW, wk2, wk1, wkL, wkB, hpW, List.mem_cons, Prod.mk.injEq, exists_eq_left, exists_eq_right, exists_eq])
    · have hi' : i = s.length := by omega
      subst hi'
      rw [List.take_length] at hl
      unfold putD
      generalize hp : putF k x false s = p at hl
      obtain ⟨acc, dn⟩ := p
      dsimp only at hl
      have htk : (rows encE acc).take acc.length = rows encE acc := by rw [List.take_of_length_le]; rw [rows_length]; omega
      cases dn with
      | true =>
        simp (config := { maxSteps := 4000000 }) only [go_sem, simprocAttr, ↓dnA, Try.f181, rows_length, nlf h, hp, List.take_length, htk]
        try rfl
      | false =>
        simp (config := { maxSteps := 4000000 }) only [go_sem, simprocAttr, ↓dnA, Try.f181, rows_length, nlf h, hp, List.take_length, htk]
        repeat refine And.intro (by first | omega | (simp; done) | (simp; omega) | assumption) ?_
        exact ⟨by simp [rows_length], by simp [rows, encE]⟩

theorem c_spec_l2Put (n1 : Option Bool) (s : List Entry) (k x : Int) (hs : s.length < 2 ^ 32) : Det Try.prog 139 [.sl n1 (rows encE s), .int .i64 k, .int .i64 x] (.osl true 2 (rows encE (putD k x (x == 0) s))) := by
  refine fspec_det tab_ok Try.call139 Try.func139 rfl 59 Try.ntmps139 (of_decide_eq_true rfl) fun B => codeK_sound tab_ok _ _ _ ?_
  simp (config := { maxSteps := 4000000 }) only [go_sem, simprocAttr, ↓dnA, Try.f139, rows_length]
  refine semL_for tab_ok (fun i : Nat => ⟨59, [(0, .sl n1 (rows encE s)), (1, .int .i64 k), (2, .int .i64 x), (7, .row 600 (putF k x (x == 0) (s.take i)).1.length), (8, .bool (putF k x (x == 0) (s.take i)).2), (9, .int .i64 i)],
      [(600, .row true true 2 (rows encE (putF k x (x == 0) (s.take i)).1))]⟩) (fun i => s.length - i)
    (fun i => i ≤ s.length) 0 [(10, 600)] (Weak.of (by rfl) ?_ ?_ (by rfl)) (by omega) ?_
  · simp (config := { maxSteps := 4000000 }) only [go_sem, simprocAttr, ↓dnA, Try.f139, rows_length, frW, wk2, wk1, wkL, wkB, hpW, List.mem_cons, Prod.mk.injEq, exists_eq_left, exists_eq_right, exists_eq]
    rfl
  · simp (config := { maxSteps := 4000000 }) only [go_sem, simprocAttr, ↓dnA, Try.f139, rows_length, frW, wk2, wk1, wkL, wkB, hpW, List.mem_cons, Prod.mk.injEq, exists_eq_left, exists_eq_right, exists_eq]
    exact ⟨rfl, rfl⟩
  · rintro i hi
    have hl := putF_len k x (x == 0) s i hi
    by_cases h : i < s.length
    · have hw : IntKind.i64.wrap ((i : Int) + 1) = ((i + 1 : Nat) : Int) := wsucc h (by omega)
      have hst := putF_take k x (x == 0) s i h
      generalize hp : putF k x (x == 0) (s.take i) = p at hl hst
      obtain ⟨acc, dn⟩ := p
      dsimp only at hl
      have htk : (rows encE acc).take acc.length = rows encE acc := by rw [List.take_of_length_le]; rw [rows_length]; omega
      have hlk : List.length (rows encE acc ++ [[AV.int IntKind.i64 k, AV.int IntKind.i64 x]]) = acc.length + 1 := by simp [rows_length]
      have htk2 : (rows encE acc ++ [[AV.int IntKind.i64 k, AV.int IntKind.i64 x]]).take (acc.length + 1) = rows encE acc ++ [[AV.int IntKind.i64 k, AV.int IntKind.i64 x]] := by rw [List.take_of_length_le]; rw [hlk]; omega
      cases dn <;> cases h1 : decide (s[i].key ≥ k) <;> cases h2 : (s[i].key != k)
      all_goals (simp only [putS, h1, h2, Bool.not_true, Bool.not_false, Bool.and_true, Bool.and_false, Bool.false_eq_true, if_true, if_false] at hst)
      all_goals (simp (config := { maxSteps := 4000000 }) only [go_sem, simprocAttr, ↓dnA, Try.f139, rows_length, nlt h, h, rows_get _ _ _ h, encE, nn0, hp, h1, h2, htk, hlk, htk2, hw])
      all_goals repeat refine And.intro (by first | omega | (simp; done) | (simp; omega) | assumption) ?_
      all_goals first
        | (refine ⟨i + 1, [(49, 600)], by omega, by dsimp only; omega, Weak.of (by rfl) ?_ ?_ (by rfl)⟩
           · simp (config := { maxSteps := 4000000 }) only [go_sem, simprocAttr, ↓dnA, Try.f139, rows_length, hst, List.length_append, frW, wk2, wk1, wkL, wkB, hpW, List.mem_cons, Prod.mk.injEq, exists_eq_left, exists_eq_right, exists_eq]
             simp [rows, encE]
           · simp (config := { maxSteps := 4000000 }) only [go_sem, simprocAttr, ↓dnA, Try.f139, rows_length, hst, List.length_append, frW, wk2, wk1, wkL, wkB, hpW, List.mem_cons, Prod.mk.injEq, exists_eq_left, exists_eq_right, exists_eq])
        | (refine ⟨i + 1, [(35, 600)], by omega, by dsimp only; omega, Weak.of (by rfl) ?_ ?_ (by rfl)⟩
           · simp (config := { maxSteps := 4000000 }) only [go_sem, simprocAttr, ↓dnA, Try.f139, rows_length, hst, List.length_append, frW, wk2, wk1, wkL, wkB, hpW, List.mem_cons, Prod.mk.injEq, exists_eq_left, exists_eq_right, exists_eq]
             simp [rows, encE]
           · simp (config := { maxSteps := 4000000 }) only [go_sem, simprocAttr, ↓dnA, Try.f139, rows_length, hst, List.length_append, frW, wk2, wk1, wkL, wkB, hpW, List.mem_cons, Prod.mk.injEq, exists_eq_left, exists_eq_right, exists_eq])
        | (refine ⟨i + 1, [(600, 600)], by omega, by dsimp only; omega, Weak.of (by rfl) ?_ ?_ (by rfl)⟩
           · simp (config := { maxSteps := 4000000 }) only [go_sem, simprocAttr, ↓dnA, Try.f139, rows_length, hst, List.length_append, frW, wk2, wk1, wkL, wkB, hpW, List.mem_cons, Prod.mk.injEq, exists_eq_left, exists_eq_right, exists_eq]
           · simp (config := { maxSteps := 4000000 }) only [go_sem, simprocAttr, ↓dnA, Try.f139, rows_length, hst, List.length_append, frW, wk2, wk1, wkL, wkB, hpW, List.mem_cons, Prod.mk.injEq, exists_eq_left, exists_eq_right, exists_eq])
    · have hi' : i = s.length := by omega
      subst hi'
      rw [List.take_length] at hl
      unfold putD
      generalize hp : putF k x (x == 0) s = p at hl
      obtain ⟨acc, dn⟩ := p
      dsimp only at hl
      have htk : (rows encE acc).take acc.length = rows encE acc := by rw [List.take_of_length_le]; rw [rows_length]; omega
      cases dn with
      | true =>
        simp (config := { maxSteps := 4000000 }) only [go_sem, simprocAttr, ↓dnA, Try.f139, rows_length, nlf h, hp, List.take_length, htk]
        try rfl
      | false =>
        simp (config := { maxSteps := 4000000 }) only [go_sem, simprocAttr, ↓dnA, Try.f139, rows_length, nlf h, hp, List.take_length, htk]
        repeat refine And.intro (by first | omega | (simp; done) | (simp; omega) | assumption) ?_
        exact ⟨by simp [rows_length], by simp [rows, encE]⟩

end Go.Proofs.Ytmibclbinebnjaa

/- Contracts: the reference's runs of one action. -/
set_option linter.unusedSimpArgs false
set_option linter.unusedVariables false
set_option maxRecDepth 20000
set_option maxHeartbeats 4000000
namespace Go.Proofs.Ytmibclbinebnjaa
open Go Go.RowKit

theorem c_spec_l4Writes (n1 : Option Bool) (xs : List Entry) (hx : xs.length < 2 ^ 62) : Det Try.prog 138 [.sl n1 (rows encE xs)] (.bool (entOk 0 (-1) xs)) := by
  refine fspec_det tab_ok Try.call138 Try.func138 rfl 44 Try.ntmps138 (of_decide_eq_true rfl) fun B => codeK_sound tab_ok _ _ _ ?_
  simp (config := { maxSteps := 4000000 }) only [go_sem, simprocAttr, ↓dnA, Try.f138, rows_length]
  refine semL_for tab_ok (fun i : Nat => ⟨44, [(0, .sl n1 (rows encE xs)), (3, .int .i64 i)], []⟩) (fun i => xs.length - i)
    (fun i => i ≤ xs.length ∧ ∃ last : Int, -1 ≤ last ∧ (i = 0 → last = -1) ∧ (∀ j (h : j < xs.length), i = j + 1 → last = xs[j].key) ∧ entOk 0 last (xs.drop i) = entOk 0 (-1) xs) 0 [] (Weak.of rfl trivial ?_ rfl) ⟨by omega, -1, by omega, fun _ => rfl, fun j h hj => by omega, rfl⟩ ?_
  · simp (config := { maxSteps := 4000000 }) only [go_sem, simprocAttr, ↓dnA, Try.f138, frW, wk2, wk1, wkL, wkB, hpW, List.mem_cons, Prod.mk.injEq, exists_eq_left, exists_eq_right, exists_eq]
  · rintro i ⟨hi, last, hl, h0, hs, hp⟩
    by_cases h : i < xs.length
    · rw [drop_cons xs i h] at hp
      simp only [entOk] at hp
      simp (config := { maxSteps := 4000000 }) only [go_sem, simprocAttr, ↓dnA, Try.f138, rows_length, rows_get _ _ _ h, encE, nlt h, nn0]
      refine semL_draw tab_ok mixed_ rfl (ord := [(0, []), (1, []), (2, []), (3, []), (4, []), (5, []), (6, []), (7, []), (8, []), (9, []), (10, []), (11, []), (12, []), (13, []), (14, []), (15, []), (16, []), (17, []), (18, []), (19, []), (20, []), (21, []), (22, []), (23, []), (24, []), (25, []), (26, []), (27, []), (28, []), (29, []), (30, []), (31, []), (32, []), (33, [])]) (by dsimp only; decide +kernel) ?_
      simp (config := { maxSteps := 4000000 }) only [go_sem, simprocAttr, ↓dnA, Try.f138, rows_length, rows_get _ _ _ h, encE, nlt h, nn0]
      refine CallTo.det (c_l1In _ _ _) fun _ => ?_
      cases h1 : inB xs[i].key 0 31 with
      | false =>
        have h1' : inB xs[i].key (last + 1) 31 = false := by
          cases hc : inB xs[i].key (last + 1) 31 with
          | false => rfl
          | true => rw [inB_iff] at hc; rw [inB_iff.2 ⟨by omega, hc.2⟩] at h1; exact h1
        rw [h1', Bool.false_and, Bool.false_and] at hp
        simp (config := { maxSteps := 4000000 }) only [go_sem, simprocAttr, ↓dnA, Try.f138, rows_length, rows_get _ _ _ h, encE, nlt h, nn0, h1]
        exact hp.symm
      | true =>
        simp (config := { maxSteps := 4000000 }) only [go_sem, simprocAttr, ↓dnA, Try.f138, rows_length, rows_get _ _ _ h, encE, nlt h, nn0, h1]
        refine CallTo.det (c_l1In _ _ _) fun _ => ?_
        cases h2 : inB xs[i].value 0 1000000 with
        | false =>
          rw [h2, Bool.and_false, Bool.false_and] at hp
          simp (config := { maxSteps := 4000000 }) only [go_sem, simprocAttr, ↓dnA, Try.f138, rows_length, rows_get _ _ _ h, encE, nlt h, nn0, h1, h2]
          exact hp.symm
        | true =>
          rcases Nat.eq_zero_or_pos i with rfl | hpos
          · simp (config := { maxSteps := 4000000 }) only [go_sem, simprocAttr, ↓dnA, Try.f138, rows_length, rows_get _ _ _ h, encE, nlt h, nn0, h1, h2]
            have hl0 := h0 rfl
            have w1 : IntKind.i64.wrap 1 = 1 := by decide
            subst hl0
            rw [h2] at hp
            have h1' : inB (xs[0]'h).key (-1 + 1) 31 = true := h1
            rw [h1', Bool.true_and, Bool.true_and] at hp
            have hk := inB_iff.1 h1
            refine ⟨1, [], ⟨by omega, (xs[0]'h).key, by omega, fun hc => absurd hc (by omega), fun j hj e => ?_, hp⟩, by dsimp only; omega, Weak.of rfl trivial ?_ rfl⟩
            · obtain rfl : j = 0 := by omega
              rfl
            · simp (config := { maxSteps := 4000000 }) only [go_sem, simprocAttr, ↓dnA, Try.f138, w1, frW, wk2, wk1, wkL, wkB, hpW, List.mem_cons, Prod.mk.injEq, exists_eq_left, exists_eq_right, exists_eq]
          · obtain ⟨j, rfl⟩ : ∃ j, i = j + 1 := ⟨i - 1, by omega⟩
            have hw : IntKind.i64.wrap (((j + 1 : Nat) : Int) - 1) = (j : Int) := by rw [wrap_small _ (by omega) (by omega)]; omega
            have hj : j < xs.length := by omega
            have hg : decide (((j + 1 : Nat) : Int) > 0) = true := by simp
            have hls := hs j hj rfl
            simp (config := { maxSteps := 4000000 }) only [go_sem, simprocAttr, ↓dnA, Try.f138, rows_length, rows_get _ _ _ h, encE, nlt h, nn0, h1, h2, hw, rows_get _ _ _ hj, nlt hj, hg]
            have hk := inB_iff.1 h1
            cases h3 : decide (xs[j + 1].key ≤ xs[j].key) with
            | true =>
              have h1' : inB xs[j + 1].key (last + 1) 31 = false := by
                cases hc : inB xs[j + 1].key (last + 1) 31 with
                | false => rfl
                | true => rw [inB_iff] at hc; simp at h3; omega
              rw [h1', Bool.false_and, Bool.false_and] at hp
              exact ⟨fun _ => hp.symm, fun hc => by simp at hc⟩
            | false =>
              have h1' : inB xs[j + 1].key (last + 1) 31 = true := by rw [inB_iff]; simp at h3; omega
              rw [h1', h2, Bool.true_and, Bool.true_and] at hp
              simp only [Bool.false_eq_true, false_implies, true_implies, true_and, forall_const]
              refine ⟨j + 1 + 1, [], ⟨by omega, xs[j + 1].key, by omega, fun hc => absurd hc (by omega), fun j' hj' e => ?_, hp⟩, by dsimp only; omega, Weak.of rfl trivial ?_ rfl⟩
              · obtain rfl : j' = j + 1 := by omega
                rfl
              · simp (config := { maxSteps := 4000000 }) only [go_sem, simprocAttr, ↓dnA, Try.f138, wsucc h hx, frW, wk2, wk1, wkL, wkB, hpW, List.mem_cons, Prod.mk.injEq, exists_eq_left, exists_eq_right, exists_eq]
    · have : i = xs.length := by omega
      subst this
      simp only [List.drop_length] at hp
      simp (config := { maxSteps := 4000000 }) only [go_sem, simprocAttr, ↓dnA, Try.f138, rows_length, nlf h]
      exact hp.symm

theorem c_spec_ActionReads (a : Action) (ha : actionValid a = true) : Det Try.prog 180 [.agg (encA a)] (.osl true 1 (rows encI (readsA a))) := by
  refine fspec_det tab_ok Try.call180 Try.func180 rfl 35 Try.ntmps180 (of_decide_eq_true rfl) fun B => codeK_sound tab_ok _ _ _ ?_
  unfold encA readsA
  simp (config := { maxSteps := 4000000 }) only [go_sem, simprocAttr, ↓dnA, Try.f180, rows_length]
  refine CallTo.det (c_spec_ActionValid a) fun _ => ?_
  by_cases h1 : a.kind = 1
  · have e1 : (a.kind == 1) = true := by simp [h1]
    simp (config := { maxSteps := 4000000 }) only [go_sem, simprocAttr, ↓dnA, Try.f180, rows_length, ha, e1, h1, rows_nil]
  · have e1 : (a.kind == 1) = false := by simp [h1]
    by_cases h3 : a.kind = 3
    · have e3 : (a.kind == 3) = true := by simp [h3]
      simp (config := { maxSteps := 4000000 }) only [go_sem, simprocAttr, ↓dnA, Try.f180, rows_length, ha, e1, h1, e3, h3, rows, encI]
    · have e3 : (a.kind == 3) = false := by simp [h3]
      by_cases h6 : a.kind = 6
      · have e6 : (a.kind == 6) = true := by simp [h6]
        simp (config := { maxSteps := 4000000 }) only [go_sem, simprocAttr, ↓dnA, Try.f180, rows_length, ha, e1, h1, e3, h3, e6, h6, rows, encI]
      · have e6 : (a.kind == 6) = false := by simp [h6]
        by_cases hf : a.fr = a.to
        · have ef : (a.fr == a.to) = true := by simp [hf]
          simp (config := { maxSteps := 4000000 }) only [go_sem, simprocAttr, ↓dnA, Try.f180, rows_length, ha, e1, h1, e3, h3, e6, h6, ef, hf, rows, encI]
        · have ef : (a.fr == a.to) = false := by simp [hf]
          simp (config := { maxSteps := 4000000 }) only [go_sem, simprocAttr, ↓dnA, Try.f180, rows_length, ha, e1, h1, e3, h3, e6, h6, ef, hf, rows, encI]

/-- The effect of an action on the values of From and To. -/
def runX (a : Action) (f t : Int) : Effect := ⟨doneA a f t, (readsA a).map fun k => ⟨k, if k = a.fr then f else t⟩, if doneA a f t then (writesA a).map fun k => ⟨k, newV a f t k⟩ else []⟩

theorem runE_eq (a : Action) (v : List Int) : runE a v = runX a (valK v a.fr) (valK v a.to) := by
  unfold runE runX
  congr 1
  apply List.map_congr_left
  intro k hk
  by_cases h : k = a.fr
  · rw [if_pos h, h]
  · rw [if_neg h]
    rcases mem_reads hk with e | e
    · exact absurd e h
    · rw [e]

theorem putD_two (a b x y : Int) : putD b y false [⟨a, x⟩] = if a = b then [⟨b, y⟩] else [⟨min a b, if min a b = b then y else x⟩, ⟨max a b, if max a b = b then y else x⟩] := by
  unfold putD putF putS
  simp only [List.foldl_cons, List.foldl_nil, Bool.not_false, Bool.true_and]
  by_cases h : a = b
  · subst h; simp
  · by_cases h2 : a ≥ b
    · have e1 : min a b = b := by omega
      have e2 : max a b = a := by omega
      simp [h, h2, e1, e2]
    · have e1 : min a b = a := by omega
      have e2 : max a b = b := by omega
      simp [h, h2, e1, e2]

theorem c_spec_l6Run (a : Action) (f t : Int) (ha : actionValid a = true) (hf : 0 ≤ f ∧ f ≤ 1000000) (ht : 0 ≤ t ∧ t ≤ 1000000) :
    Det Try.prog 136 [.agg (encA a), .int .i64 f, .int .i64 t] (.agg (encFO (runX a f t))) := by
  refine fspec_det tab_ok Try.call136 Try.func136 rfl 152 Try.ntmps136 (of_decide_eq_true rfl) fun B => codeK_sound tab_ok _ _ _ ?_
  have hA := actOk_of ha
  have hfr := hA.fr
  have hto := hA.to
  have ham := hA.amount
  have h2 := readsA_len a
  simp (config := { maxSteps := 4000000 }) only [go_sem, simprocAttr, ↓dnA, Try.f136, rows_length, encA]
  refine CallTo.det (c_spec_ActionReads a ha) fun _ => ?_
  simp (config := { maxSteps := 4000000 }) only [go_sem, simprocAttr, ↓dnA, Try.f136, rows_length, encA]
  refine semL_nilVA 7 1 600 2 true (by rfl) (by simp) (by rfl) (by rfl) (by decide) (by decide) ?_
  have hrd : (runX a f t).reads = (readsA a).map fun k => ⟨k, if k = a.fr then f else t⟩ := rfl
  generalize hrs : readsA a = rs at h2 hrd
  generalize hnr : (fun k => (⟨k, if k = a.fr then f else t⟩ : Entry)) = nr at hrd
  have hmr : ∀ k, k ∈ rs → k = a.fr ∨ k = a.to := fun k hk => mem_reads (by rw [hrs]; exact hk)
  refine semL_for tab_ok (fun i : Nat => ⟨152, [(1, .int .i64 f), (2, .int .i64 t), (3, .loc 3 0), (6, .loc 6 0), (7, .loc 7 0), (8, .row 14000 rs.length), (9, .int .i64 i)],
      [(14000, .row true true 1 (rows encI rs)), (7, .var [.bool true, .row 600 i, .sl (some false) []]), (6, .var [.bool false, .sl (some false) [], .sl (some false) []]), (3, .var (encA a)),
        (600, .row true false 2 (rows encE ((rs.take i).map nr)))]⟩) (fun i => rs.length - i)
    (fun i => i ≤ rs.length) 0 [(3, 3), (6, 6), (7, 7), (14000, 14000), (600, 600)] (Weak.of (by rfl) ?_ ?_ (by rfl)) (by omega) ?_
  · simp (config := { maxSteps := 4000000 }) only [go_sem, simprocAttr, ↓dnA, Try.f136, rows_length, encA, frW, wk2, wk1, wkL, wkB, hpW, List.mem_cons, Prod.mk.injEq, exists_eq_left, exists_eq_right, exists_eq]
    try rfl
  · simp (config := { maxSteps := 4000000 }) only [go_sem, simprocAttr, ↓dnA, Try.f136, rows_length, encA, frW, wk2, wk1, wkL, wkB, hpW, List.mem_cons, Prod.mk.injEq, exists_eq_left, exists_eq_right, exists_eq]
    try rfl
  · rintro i hi
    by_cases h : i < rs.length
    · have hk := hmr _ (List.getElem_mem h)
      have hb : 0 ≤ rs[i] ∧ rs[i] < 32 := by rcases hk with e | e <;> rw [e] <;> omega
      have htk : (rows encE ((rs.take i).map nr)).take i = rows encE ((rs.take i).map nr) := by
        rw [List.take_of_length_le]; rw [rows_length, List.length_map, List.length_take]; omega
      have hl : min i rs.length = i := by omega
      have hw : IntKind.i64.wrap ((i : Int) + 1) = ((i + 1 : Nat) : Int) := wsucc h (by omega)
      have hni : nr rs[i] = ⟨rs[i], if rs[i] = a.fr then f else t⟩ := by rw [← hnr]
      simp (config := { maxSteps := 4000000 }) only [go_sem, simprocAttr, ↓dnA, Try.f136, rows_length, nlt h, h, rows_get _ _ _ h, encI, encA, nn0]
      refine semL_draw tab_ok mixed_ rfl (ord := [(0, []), (1, []), (2, []), (3, []), (4, []), (5, []), (6, [])]) (by dsimp only; decide +kernel) ?_
      cases hd : (rs[i] != a.fr) with
      | true =>
        have hd' : ¬ rs[i] = a.fr := by simpa using hd
        rw [if_neg hd'] at hni
        simp (config := { maxSteps := 4000000 }) only [go_sem, simprocAttr, ↓dnA, Try.f136, rows_length, nlt h, h, rows_get _ _ _ h, encI, encA, nn0, hd]
        refine semL_draw tab_ok mixed_ rfl (ord := [(0, []), (1, []), (2, []), (3, []), (4, []), (5, []), (6, []), (7, []), (8, [0, 1]), (9, []), (10, []), (11, [])]) (by dsimp only; decide +kernel) ?_
        simp (config := { maxSteps := 4000000 }) only [go_sem, simprocAttr, ↓dnA, Try.f136, rows_length, nlt h, h, rows_get _ _ _ h, encI, encA, nn0, List.length_take, List.length_map, hl, htk, hw]
        repeat refine And.intro (by first | omega | (simp; done) | (simp; omega) | assumption) ?_
        refine ⟨i + 1, [(3, 3), (6, 6), (7, 7), (14000, 14000), (38, 600)], by omega, by dsimp only; omega, Weak.of (by rfl) ?_ ?_ (by rfl)⟩
        · simp (config := { maxSteps := 4000000 }) only [go_sem, simprocAttr, ↓dnA, Try.f136, rows_length, encA, frW, wk2, wk1, wkL, wkB, hpW, List.mem_cons, Prod.mk.injEq, exists_eq_left, exists_eq_right, exists_eq]
          rw [take_snoc _ _ h, List.map_append, List.map_singleton, ← rows_snoc, hni]
          rfl
        · simp (config := { maxSteps := 4000000 }) only [go_sem, simprocAttr, ↓dnA, Try.f136, rows_length, encA, frW, wk2, wk1, wkL, wkB, hpW, List.mem_cons, Prod.mk.injEq, exists_eq_left, exists_eq_right, exists_eq]
      | false =>
        have hd' : rs[i] = a.fr := by simpa using hd
        rw [if_pos hd'] at hni
        simp (config := { maxSteps := 4000000 }) only [go_sem, simprocAttr, ↓dnA, Try.f136, rows_length, nlt h, h, rows_get _ _ _ h, encI, encA, nn0, hd]
        refine semL_draw tab_ok mixed_ rfl (ord := [(0, []), (1, []), (2, []), (3, []), (4, []), (5, []), (6, []), (7, []), (8, [0, 1]), (9, []), (10, []), (11, [])]) (by dsimp only; decide +kernel) ?_
        simp (config := { maxSteps := 4000000 }) only [go_sem, simprocAttr, ↓dnA, Try.f136, rows_length, nlt h, h, rows_get _ _ _ h, encI, encA, nn0, List.length_take, List.length_map, hl, htk, hw]
        repeat refine And.intro (by first | omega | (simp; done) | (simp; omega) | assumption) ?_
        refine ⟨i + 1, [(3, 3), (6, 6), (7, 7), (14000, 14000), (38, 600)], by omega, by dsimp only; omega, Weak.of (by rfl) ?_ ?_ (by rfl)⟩
        · simp (config := { maxSteps := 4000000 }) only [go_sem, simprocAttr, ↓dnA, Try.f136, rows_length, encA, frW, wk2, wk1, wkL, wkB, hpW, List.mem_cons, Prod.mk.injEq, exists_eq_left, exists_eq_right, exists_eq]
          rw [take_snoc _ _ h, List.map_append, List.map_singleton, ← rows_snoc, hni]
          rfl
        · simp (config := { maxSteps := 4000000 }) only [go_sem, simprocAttr, ↓dnA, Try.f136, rows_length, encA, frW, wk2, wk1, wkL, wkB, hpW, List.mem_cons, Prod.mk.injEq, exists_eq_left, exists_eq_right, exists_eq]
    · have hi' : i = rs.length := by omega
      subst hi'
      rw [List.take_length]
      have w1 : IntKind.i64.wrap (f - a.amount) = f - a.amount := wrap_small _ (by omega) (by omega)
      have w2 : IntKind.i64.wrap (f + t) = f + t := wrap_small _ (by omega) (by omega)
      have w3 : IntKind.i64.wrap (t + a.amount) = t + a.amount := wrap_small _ (by omega) (by omega)
      obtain ⟨kd, fr, to, am⟩ := a
      dsimp only at *
      rcases hA.kind with e | e | e | e | e | e <;> dsimp only at e <;> subst e
      · have hde : (runX ⟨1, fr, to, am⟩ f t).done = true := rfl
        have hwr : (runX ⟨1, fr, to, am⟩ f t).writes = [⟨fr, am⟩] := rfl
        simp (config := { maxSteps := 4000000 }) only [go_sem, simprocAttr, ↓dnA, Try.f136, rows_length, nlf h, encA, w1, w2, w3, encFO, hde, hwr, hrd, List.length_map, rows, encE]
      · have hde : (runX ⟨2, fr, to, am⟩ f t).done = doneA ⟨2, fr, to, am⟩ f t := rfl
        have hwr : (runX ⟨2, fr, to, am⟩ f t).writes = if doneA ⟨2, fr, to, am⟩ f t then (writesA ⟨2, fr, to, am⟩).map (fun k => ⟨k, newV ⟨2, fr, to, am⟩ f t k⟩) else [] := rfl
        have hcall := c_spec_l4Put (some true) [⟨fr, f - am⟩] to (t + am) (by simp)
        by_cases he : fr = to
        · subst he
          have e1 : (fr == fr) = true := by simp
          have hdn : doneA ⟨2, fr, fr, am⟩ f t = decide (f ≥ am) := by simp [doneA]
          have hw0 : (writesA ⟨2, fr, fr, am⟩).map (fun k => (⟨k, newV ⟨2, fr, fr, am⟩ f t k⟩ : Entry)) = [⟨fr, f⟩] := by simp [writesA, newV]
          rw [hdn] at hde hwr
          rw [hw0] at hwr
          cases h1 : decide (f ≥ am) with
          | false =>
            rw [h1, if_neg (by simp)] at hwr
            rw [h1] at hde
            simp (config := { maxSteps := 4000000 }) only [go_sem, simprocAttr, ↓dnA, Try.f136, rows_length, nlf h, encA, w1, w2, w3, h1, e1]
            refine CallTo.det hcall fun _ => ?_
            simp (config := { maxSteps := 4000000 }) only [go_sem, simprocAttr, ↓dnA, Try.f136, rows_length, nlf h, encA, w1, w2, w3, h1, e1, encFO, hde, hwr, hrd, List.length_map, rows_nil]
          | true =>
            rw [h1, if_pos rfl] at hwr
            rw [h1] at hde
            simp (config := { maxSteps := 4000000 }) only [go_sem, simprocAttr, ↓dnA, Try.f136, rows_length, nlf h, encA, w1, w2, w3, h1, e1]
            refine CallTo.det hcall fun _ => ?_
            simp (config := { maxSteps := 4000000 }) only [go_sem, simprocAttr, ↓dnA, Try.f136, rows_length, nlf h, encA, w1, w2, w3, h1, e1, encFO, hde, hwr, hrd, List.length_map, rows, encE]
        · have e1 : (fr == to) = false := by simp [he]
          have hdn : doneA ⟨2, fr, to, am⟩ f t = (decide (f ≥ am) && decide (t + am ≤ 1000000)) := by simp [doneA, he]
          have hw0 : (writesA ⟨2, fr, to, am⟩).map (fun k => (⟨k, newV ⟨2, fr, to, am⟩ f t k⟩ : Entry)) = putD to (t + am) false [⟨fr, f - am⟩] := by
            rw [putD_two, if_neg he]
            simp [writesA, newV, he]
          rw [hdn] at hde hwr
          rw [hw0] at hwr
          cases h1 : decide (f ≥ am) with
          | false =>
            rw [h1, Bool.false_and, if_neg (by simp)] at hwr
            rw [h1, Bool.false_and] at hde
            simp (config := { maxSteps := 4000000 }) only [go_sem, simprocAttr, ↓dnA, Try.f136, rows_length, nlf h, encA, w1, w2, w3, h1, e1]
            refine CallTo.det hcall fun _ => ?_
            simp (config := { maxSteps := 4000000 }) only [go_sem, simprocAttr, ↓dnA, Try.f136, rows_length, nlf h, encA, w1, w2, w3, h1, e1, encFO, hde, hwr, hrd, List.length_map, rows_nil]
          | true =>
            rw [h1, Bool.true_and] at hwr hde
            cases h3 : decide (t + am ≤ 1000000) with
            | false =>
              rw [h3, if_neg (by simp)] at hwr
              rw [h3] at hde
              simp (config := { maxSteps := 4000000 }) only [go_sem, simprocAttr, ↓dnA, Try.f136, rows_length, nlf h, encA, w1, w2, w3, h1, e1, h3]
              refine CallTo.det hcall fun _ => ?_
              simp (config := { maxSteps := 4000000 }) only [go_sem, simprocAttr, ↓dnA, Try.f136, rows_length, nlf h, encA, w1, w2, w3, h1, e1, h3, encFO, hde, hwr, hrd, List.length_map, rows_nil]
            | true =>
              rw [h3, if_pos rfl] at hwr
              rw [h3] at hde
              simp (config := { maxSteps := 4000000 }) only [go_sem, simprocAttr, ↓dnA, Try.f136, rows_length, nlf h, encA, w1, w2, w3, h1, e1, h3]
              refine CallTo.det hcall fun _ => ?_
              simp (config := { maxSteps := 4000000 }) only [go_sem, simprocAttr, ↓dnA, Try.f136, rows_length, nlf h, encA, w1, w2, w3, h1, e1, h3, encFO, hde, hwr, hrd, List.length_map]
      · have hde : (runX ⟨3, fr, to, am⟩ f t).done = true := rfl
        have hwr : (runX ⟨3, fr, to, am⟩ f t).writes = [⟨to, f⟩] := rfl
        simp (config := { maxSteps := 4000000 }) only [go_sem, simprocAttr, ↓dnA, Try.f136, rows_length, nlf h, encA, w1, w2, w3, encFO, hde, hwr, hrd, List.length_map, rows, encE]
      · have hde : (runX ⟨4, fr, to, am⟩ f t).done = true := rfl
        have hwr : (runX ⟨4, fr, to, am⟩ f t).writes = putD to f false [⟨fr, t⟩] := by
          rw [putD_two]
          unfold runX doneA writesA newV
          by_cases he : fr = to
          · simp [he]
          · simp [he]
        simp (config := { maxSteps := 4000000 }) only [go_sem, simprocAttr, ↓dnA, Try.f136, rows_length, nlf h, encA, w1, w2, w3]
        refine CallTo.det (c_spec_l4Put _ [⟨fr, t⟩] to f (by simp)) fun _ => ?_
        simp (config := { maxSteps := 4000000 }) only [go_sem, simprocAttr, ↓dnA, Try.f136, rows_length, nlf h, encA, w1, w2, w3, encFO, hde, hwr, hrd, List.length_map]
      · have hde : (runX ⟨5, fr, to, am⟩ f t).done = decide (f + t ≤ 1000000) := rfl
        have hwr : (runX ⟨5, fr, to, am⟩ f t).writes = if decide (f + t ≤ 1000000) then [⟨to, f + t⟩] else [] := rfl
        cases hd : decide (f + t ≤ 1000000) with
        | true =>
          rw [hd, if_pos rfl] at hwr
          simp (config := { maxSteps := 4000000 }) only [go_sem, simprocAttr, ↓dnA, Try.f136, rows_length, nlf h, encA, w1, w2, w3, hd, encFO, hde, hwr, hrd, List.length_map, rows, encE]
        | false =>
          rw [hd, if_neg (by simp)] at hwr
          simp (config := { maxSteps := 4000000 }) only [go_sem, simprocAttr, ↓dnA, Try.f136, rows_length, nlf h, encA, w1, w2, w3, hd, encFO, hde, hwr, hrd, List.length_map, rows, encE]
      · have hde : (runX ⟨6, fr, to, am⟩ f t).done = true := rfl
        have hwr : (runX ⟨6, fr, to, am⟩ f t).writes = [⟨fr, max 0 (f - am)⟩] := rfl
        simp (config := { maxSteps := 4000000 }) only [go_sem, simprocAttr, ↓dnA, Try.f136, rows_length, nlf h, encA, w1, w2, w3, encFO, hde, hwr, hrd, List.length_map, rows, encE]
        rw [Int.max_def]; split <;> split <;> omega

end Go.Proofs.Ytmibclbinebnjaa

/- Stores as data: puts, values. -/
set_option linter.unusedSimpArgs false
set_option linter.unusedVariables false
set_option maxRecDepth 20000
set_option maxHeartbeats 4000000
namespace Go.Proofs.Ytmibclbinebnjaa
open Go Go.RowKit

theorem entOk_cons {lo last : Int} {e : Entry} {r : List Entry} : entOk lo last (e :: r) = true ↔ (last < e.key ∧ e.key ≤ 31) ∧ (lo ≤ e.value ∧ e.value ≤ 1000000) ∧ entOk lo e.key r = true := by
  simp only [entOk, Bool.and_eq_true, inB_iff]
  constructor
  · rintro ⟨⟨h1, h2⟩, h3⟩; exact ⟨⟨by omega, h1.2⟩, h2, h3⟩
  · rintro ⟨h1, h2, h3⟩; exact ⟨⟨⟨by omega, h1.2⟩, h2⟩, h3⟩

theorem entOk_mono {lo a b : Int} (h : a ≤ b) : ∀ {r : List Entry}, entOk lo b r = true → entOk lo a r = true
  | [], _ => rfl
  | e :: r, hr => by
    rw [entOk_cons] at hr ⊢
    exact ⟨⟨by omega, hr.1.2⟩, hr.2⟩

theorem valAt_lt {lo last : Int} : ∀ {s : List Entry}, entOk lo last s = true → ∀ k, k ≤ last → valAt s k = 0
  | [], _, k, _ => rfl
  | e :: r, h, k, hk => by
    rw [entOk_cons] at h
    unfold valAt
    rw [if_neg (by omega)]
    exact valAt_lt h.2.2 k (by omega)

/-- A valid store is what its values are. -/
theorem store_ext : ∀ {s s' : List Entry} {last : Int}, entOk 1 last s = true → entOk 1 last s' = true → (∀ k, last < k → k ≤ 31 → valAt s k = valAt s' k) → s = s'
  | [], [], _, _, _, _ => rfl
  | [], e :: r, last, _, h', hv => by
    rw [entOk_cons] at h'
    have := hv e.key h'.1.1 h'.1.2
    simp only [valAt, if_true] at this
    omega
  | e :: r, [], last, h, _, hv => by
    rw [entOk_cons] at h
    have := hv e.key h.1.1 h.1.2
    simp only [valAt, if_true] at this
    omega
  | e :: r, e' :: r', last, h, h', hv => by
    rw [entOk_cons] at h h'
    have h1 := hv e.key h.1.1 h.1.2
    have h2 := hv e'.key h'.1.1 h'.1.2
    have hk : e.key = e'.key := by
      rcases Int.lt_trichotomy e.key e'.key with hl | hl | hl
      · simp only [valAt, if_true] at h1
        rw [if_neg (by omega), valAt_lt h'.2.2 _ (by omega)] at h1
        omega
      · exact hl
      · simp only [valAt, if_true] at h2
        rw [if_neg (by omega), valAt_lt h.2.2 _ (by omega)] at h2
        omega
    simp only [valAt, if_true] at h1
    rw [if_pos hk.symm] at h1
    have he : e = e' := by
      obtain ⟨a, b⟩ := e
      obtain ⟨a', b'⟩ := e'
      simp only at hk h1
      rw [hk, h1]
    subst he
    rw [store_ext (last := e.key) h.2.2 h'.2.2 fun k hk1 hk2 => by
      have := hv k (by omega) hk2
      simp only [valAt] at this
      rwa [if_neg (by omega), if_neg (by omega)] at this]

/-- The entries of values that stand behind i. -/
def storeFrom : Nat → List Int → List Entry
  | _, [] => []
  | i, x :: r => if x > 0 then ⟨(i : Int), x⟩ :: storeFrom (i + 1) r else storeFrom (i + 1) r

theorem storeFrom_append : ∀ (a b : List Int) (i : Nat), storeFrom i (a ++ b) = storeFrom i a ++ storeFrom (i + a.length) b
  | [], b, i => rfl
  | x :: a, b, i => by
    simp only [List.cons_append, storeFrom, List.length_cons]
    rw [storeFrom_append a b (i + 1), show i + 1 + a.length = i + (a.length + 1) by omega]
    split <;> rfl

theorem storeUp_eq (v : List Int) : ∀ n, n ≤ v.length → storeUp v n = storeFrom 0 (v.take n)
  | 0, _ => rfl
  | n + 1, h => by
    have ih := storeUp_eq v n (by omega)
    have hg : v.getD n 0 = v[n] := by rw [List.getD_eq_getElem?_getD, List.getElem?_eq_getElem (by omega)]; rfl
    rw [take_snoc _ _ (by omega), storeFrom_append, ← ih]
    rw [List.length_take, show min n v.length = n by omega, Nat.zero_add]
    by_cases hp : v.getD n 0 > 0
    · rw [storeUp_pos _ _ hp, hg]
      rw [hg] at hp
      simp [storeFrom, hp]
    · rw [storeUp_neg _ _ hp]
      rw [hg] at hp
      simp [storeFrom, hp]

theorem storeL_eq {v : List Int} (h : v.length = 32) : storeL v = storeFrom 0 v := by
  unfold storeL
  rw [storeUp_eq v 32 (by omega), List.take_of_length_le (by omega)]

theorem storeFrom_ok : ∀ (v : List Int) (i : Nat), i + v.length ≤ 32 → (∀ x, x ∈ v → x ≤ 1000000) → entOk 1 ((i : Int) - 1) (storeFrom i v) = true
  | [], i, _, _ => rfl
  | x :: r, i, hl, hv => by
    have ih := storeFrom_ok r (i + 1) (by simp only [List.length_cons] at hl; omega) fun y hy => hv y (List.mem_cons_of_mem _ hy)
    have hx := hv x (List.mem_cons_self ..)
    rw [show (((i + 1 : Nat) : Int) - 1) = (i : Int) by omega] at ih
    unfold storeFrom
    simp only [List.length_cons] at hl
    split
    · rw [entOk_cons]
      exact ⟨⟨by dsimp only; omega, by dsimp only; omega⟩, ⟨by dsimp only; omega, hx⟩, ih⟩
    · exact entOk_mono (by omega) ih

theorem storeFrom_at : ∀ (v : List Int) (i : Nat) (j : Nat), (∀ x, x ∈ v → 0 ≤ x ∧ x ≤ 1000000) → i + v.length ≤ 32 → valAt (storeFrom i v) ((i + j : Nat) : Int) = v.getD j 0
  | [], i, j, _, _ => by simp [storeFrom, valAt]
  | x :: r, i, j, hv, hl => by
    have hx := hv x (List.mem_cons_self ..)
    simp only [List.length_cons] at hl
    have hv' : ∀ y, y ∈ r → 0 ≤ y ∧ y ≤ 1000000 := fun y hy => hv y (List.mem_cons_of_mem _ hy)
    have ok := storeFrom_ok r (i + 1) (by omega) fun y hy => (hv' y hy).2
    rw [show (((i + 1 : Nat) : Int) - 1) = (i : Int) by omega] at ok
    cases j with
    | zero =>
      unfold storeFrom
      split
      · simp [valAt]
      · rw [Nat.add_zero, valAt_lt ok _ (by omega)]
        simp; omega
    | succ j =>
      have ih := storeFrom_at r (i + 1) j hv' (by omega)
      rw [show i + 1 + j = i + (j + 1) by omega] at ih
      unfold storeFrom
      split
      · simp only [valAt]
        rw [if_neg (by omega), ih]; rfl
      · rw [ih]; rfl

theorem ValsOk.mem {v : List Int} (h : ValsOk v) : ∀ x, x ∈ v → 0 ≤ x ∧ x ≤ 1000000 := by
  intro x hx
  obtain ⟨i, hi, rfl⟩ := List.getElem_of_mem hx
  have := h.2 i
  rwa [List.getD_eq_getElem?_getD, List.getElem?_eq_getElem hi] at this

theorem storeL_valid {v : List Int} (h : ValsOk v) : storeValid (storeL v) = true := by
  rw [storeL_eq h.1]
  exact storeFrom_ok v 0 (by rw [h.1]; decide) fun x hx => (h.mem x hx).2

theorem storeL_at {v : List Int} (h : ValsOk v) (k : Int) (h0 : 0 ≤ k) : valAt (storeL v) k = valK v k := by
  rw [storeL_eq h.1]
  have := storeFrom_at v 0 k.toNat h.mem (by rw [h.1]; decide)
  rw [Nat.zero_add, Int.toNat_of_nonneg h0] at this
  exact this

theorem storeL_values {s : List Entry} (h : storeValid s = true) : storeL (valuesL s) = s := by
  have hv := valuesL_ok h
  refine store_ext (last := -1) (storeL_valid hv) h fun k h0 h1 => ?_
  rw [storeL_at hv k (by omega)]
  have := (valuesL_get h k.toNat (by omega)).2
  rw [Int.toNat_of_nonneg (by omega)] at this
  exact this

/-- Puts, one entry behind the other. -/
def putR (k x : Int) : Bool → List Entry → List Entry
  | d, [] => if d then [] else [⟨k, x⟩]
  | d, e :: r => (if !d && decide (e.key ≥ k) then [⟨k, x⟩] else []) ++ ((if (e.key != k) = true then [e] else []) ++ putR k x (d || decide (e.key ≥ k)) r)

theorem putF_eq (k x : Int) : ∀ (s : List Entry) (acc : List Entry) (d : Bool), (if (s.foldl (putS k x) (acc, d)).2 then (s.foldl (putS k x) (acc, d)).1 else (s.foldl (putS k x) (acc, d)).1 ++ [⟨k, x⟩]) = acc ++ putR k x d s
  | [], acc, d => by cases d <;> simp [putR]
  | e :: r, acc, d => by
    rw [List.foldl_cons]
    have hst : putS k x (acc, d) e = (acc ++ ((if !d && decide (e.key ≥ k) then [⟨k, x⟩] else []) ++ (if (e.key != k) = true then [e] else [])), d || decide (e.key ≥ k)) := by
      unfold putS
      cases d <;> cases decide (e.key ≥ k) <;> cases (e.key != k) <;> simp
    rw [hst, putF_eq k x r]
    simp only [putR, List.append_assoc]

theorem putD_eq (k x : Int) (d : Bool) (s : List Entry) : putD k x d s = putR k x d s := by
  have := putF_eq k x s [] d
  rwa [List.nil_append] at this

theorem putR_true (k x : Int) : ∀ (s : List Entry), putR k x true s = s.filter fun e => e.key != k
  | [] => rfl
  | e :: r => by
    unfold putR
    rw [Bool.true_or, putR_true k x r]
    cases h : (e.key != k) <;> simp [h]

theorem filter_ok (k : Int) {lo : Int} : ∀ {s : List Entry} {last : Int}, entOk lo last s = true → entOk lo last (s.filter fun e => e.key != k) = true
  | [], _, _ => rfl
  | e :: r, last, h => by
    rw [entOk_cons] at h
    have ih := filter_ok k h.2.2
    rw [List.filter_cons]
    split
    · rw [entOk_cons]; exact ⟨h.1, h.2.1, ih⟩
    · exact entOk_mono (by omega) ih

theorem filter_at (k j : Int) : ∀ (s : List Entry), valAt (s.filter fun e => e.key != k) j = if j = k then 0 else valAt s j
  | [] => by simp [valAt]
  | e :: r => by
    have ih := filter_at k j r
    rw [List.filter_cons]
    by_cases he : e.key = k
    · rw [if_neg (by simp [he]), ih]
      by_cases hj : j = k
      · rw [if_pos hj, if_pos hj]
      · rw [if_neg hj, if_neg hj]; simp only [valAt]; rw [if_neg (by omega)]
    · rw [if_pos (by simp [he])]
      simp only [valAt]
      rw [ih]
      by_cases hj : j = k
      · rw [if_neg (by omega), if_pos hj, if_pos hj]
      · rw [if_neg hj, if_neg hj]

theorem filter_id (k : Int) {lo : Int} : ∀ {s : List Entry} {last : Int}, k ≤ last → entOk lo last s = true → (s.filter fun e => e.key != k) = s
  | [], _, _, _ => rfl
  | e :: r, last, hk, h => by
    rw [entOk_cons] at h
    rw [List.filter_cons, if_pos (by simp; omega), filter_id k (last := e.key) (by omega) h.2.2]

theorem putR_ok {k x : Int} (hk : k ≤ 31) (hx : 1 ≤ x ∧ x ≤ 1000000) : ∀ {s : List Entry} {last : Int}, last < k → entOk 1 last s = true →
    entOk 1 last (putR k x false s) = true ∧ ∀ j, valAt (putR k x false s) j = if j = k then x else valAt s j
  | [], last, hl, _ => by
    constructor
    · show entOk 1 last [⟨k, x⟩] = true
      rw [entOk_cons]; exact ⟨⟨hl, hk⟩, hx, rfl⟩
    · intro j
      show (if k = j then x else 0) = _
      by_cases h : j = k
      · rw [if_pos h.symm, if_pos h]
      · rw [if_neg (by omega), if_neg h]; rfl
  | e :: r, last, hl, h => by
    rw [entOk_cons] at h
    unfold putR
    by_cases hg : e.key ≥ k
    · simp only [hg, decide_true, Bool.not_false, Bool.true_and, if_true, Bool.or_true]
      rw [putR_true, filter_id k (last := e.key) (by omega) h.2.2]
      by_cases he : e.key = k
      · rw [if_neg (by simp [he])]
        constructor
        · show entOk 1 last (⟨k, x⟩ :: r) = true
          rw [entOk_cons]; exact ⟨⟨hl, hk⟩, hx, he ▸ h.2.2⟩
        · intro j
          show (if k = j then x else valAt r j) = if j = k then x else (if e.key = j then e.value else valAt r j)
          by_cases hj : j = k
          · rw [if_pos hj.symm, if_pos hj]
          · rw [if_neg (by omega), if_neg hj, if_neg (by omega)]
      · rw [if_pos (by simp [he])]
        constructor
        · show entOk 1 last (⟨k, x⟩ :: e :: r) = true
          rw [entOk_cons, entOk_cons]; exact ⟨⟨hl, hk⟩, hx, ⟨by dsimp only; omega, h.1.2⟩, h.2.1, h.2.2⟩
        · intro j
          show (if k = j then x else (if e.key = j then e.value else valAt r j)) = if j = k then x else (if e.key = j then e.value else valAt r j)
          by_cases hj : j = k
          · rw [if_pos hj.symm, if_pos hj]
          · rw [if_neg (by omega), if_neg hj]
    · simp only [hg, decide_false, Bool.not_false, Bool.and_false, Bool.false_eq_true, if_false, Bool.or_false]
      rw [if_pos (by simp; omega)]
      obtain ⟨i1, i2⟩ := putR_ok hk hx (last := e.key) (by omega) h.2.2
      constructor
      · show entOk 1 last (e :: putR k x false r) = true
        rw [entOk_cons]; exact ⟨h.1, h.2.1, i1⟩
      · intro j
        show (if e.key = j then e.value else valAt (putR k x false r) j) = if j = k then x else (if e.key = j then e.value else valAt r j)
        rw [i2 j]
        by_cases hj : j = k
        · rw [if_pos hj, if_neg (by omega), if_pos hj]
        · rw [if_neg hj, if_neg hj]

theorem putD_ok {k x : Int} (hk : 0 ≤ k ∧ k ≤ 31) (hx : 0 ≤ x ∧ x ≤ 1000000) {s : List Entry} (h : storeValid s = true) : storeValid (putD k x (x == 0) s) = true ∧ ∀ j, valAt (putD k x (x == 0) s) j = if j = k then x else valAt s j := by
  rw [putD_eq]
  by_cases h0 : x = 0
  · subst h0
    rw [show ((0 : Int) == 0) = true from rfl, putR_true]
    exact ⟨filter_ok k h, fun j => filter_at k j s⟩
  · rw [show (x == 0) = false by simp [h0]]
    exact putR_ok hk.2 (by omega) (last := -1) (by omega) h

theorem put_storeL {v : List Int} (hv : ValsOk v) {w : Entry} (hk : 0 ≤ w.key ∧ w.key ≤ 31) (hx : 0 ≤ w.value ∧ w.value ≤ 1000000) : putD w.key w.value (w.value == 0) (storeL v) = storeL (putV v w) := by
  have hv2 : ValsOk (putV v w) := applyW_ok [w] v hv fun y hy => by rw [List.mem_singleton.1 hy]; exact ⟨hk, hx⟩
  obtain ⟨h1, h2⟩ := putD_ok hk hx (storeL_valid hv)
  refine store_ext (last := -1) h1 (storeL_valid hv2) fun j h3 h4 => ?_
  rw [h2 j, storeL_at hv j (by omega), storeL_at hv2 j (by omega)]
  unfold valK putV
  rw [List.getD_eq_getElem?_getD (l := v.set _ _), List.getElem?_set]
  by_cases hj : j = w.key
  · subst hj
    rw [if_pos rfl, if_pos rfl, if_pos (by rw [hv.1]; omega)]; rfl
  · rw [if_neg hj, if_neg (by omega), ← List.getD_eq_getElem?_getD]

/-- A store with entries put. -/
def applyS (s : List Entry) (ws : List Entry) : List Entry := ws.foldl (fun s w => putD w.key w.value (w.value == 0) s) s

theorem applyS_storeL : ∀ (ws : List Entry) {v : List Int}, ValsOk v → WritesOk ws → applyS (storeL v) ws = storeL (applyW v ws)
  | [], v, _, _ => rfl
  | w :: ws, v, hv, hw => by
    have h1 := hw w (List.mem_cons_self ..)
    show applyS (putD w.key w.value (w.value == 0) (storeL v)) ws = _
    rw [put_storeL hv h1.1 h1.2]
    exact applyS_storeL ws (applyW_ok [w] v hv fun y hy => by rw [List.mem_singleton.1 hy]; exact h1) fun y hy => hw y (List.mem_cons_of_mem _ hy)

end Go.Proofs.Ytmibclbinebnjaa

/- Contracts: the reference's serial runs. -/
set_option linter.unusedSimpArgs false
set_option linter.unusedVariables false
set_option maxRecDepth 20000
set_option maxHeartbeats 4000000
namespace Go.Proofs.Ytmibclbinebnjaa
open Go Go.RowKit

theorem storeAt_bd {s : List Entry} (h : storeValid s = true) (k : Int) : 0 ≤ valAt s k ∧ valAt s k ≤ 1000000 := by
  obtain ⟨h1, _⟩ := entOk_spec 1 s (-1) h
  exact valAt_bd (fun e he => by have := h1 e he; omega) k

/-- An action on a store. -/
def runAction (s : List Entry) (a : Action) : Effect := if storeValid s && actionValid a then runX a (valAt s a.fr) (valAt s a.to) else ⟨false, [], []⟩

theorem c_spec_RunAction (n1 : Option Bool) (s : List Entry) (a : Action) (hs : s.length < 2 ^ 32) : Det Try.prog 64 [.sl n1 (rows encE s), .agg (encA a)] (.agg (encFO (runAction s a))) := by
  refine fspec_det tab_ok Try.call64 Try.func64 rfl 24 Try.ntmps64 (of_decide_eq_true rfl) fun B => codeK_sound tab_ok _ _ _ ?_
  unfold runAction
  simp (config := { maxSteps := 4000000 }) only [go_sem, simprocAttr, ↓dnA, Try.f64, rows_length, encA]
  refine CallTo.det (c_spec_StoreValid n1 s (by omega)) fun _ => ?_
  cases h1 : storeValid s with
  | false => simp (config := { maxSteps := 4000000 }) only [go_sem, simprocAttr, ↓dnA, Try.f64, rows_length, encA, h1, encFO, rows_nil]
  | true =>
    simp (config := { maxSteps := 4000000 }) only [go_sem, simprocAttr, ↓dnA, Try.f64, rows_length, encA, h1]
    refine CallTo.det (c_spec_ActionValid a) fun _ => ?_
    cases h2 : actionValid a with
    | false => simp (config := { maxSteps := 4000000 }) only [go_sem, simprocAttr, ↓dnA, Try.f64, rows_length, encA, h1, h2, encFO, rows_nil]
    | true =>
      simp (config := { maxSteps := 4000000 }) only [go_sem, simprocAttr, ↓dnA, Try.f64, rows_length, encA, h1, h2]
      refine semL_draw tab_ok mixed_ rfl (ord := [(0, []), (1, []), (2, []), (3, []), (5, []), (6, []), (7, []), (4, [0, 5, 6, 7]), (8, [0]), (9, []), (10, [])]) (by dsimp only; decide +kernel) ?_
      simp (config := { maxSteps := 4000000 }) only [go_sem, simprocAttr, ↓dnA, Try.f64, rows_length, encA, h1, h2]
      refine CallTo.det (c_spec_l2At n1 s _ (by omega)) fun _ => ?_
      simp (config := { maxSteps := 4000000 }) only [go_sem, simprocAttr, ↓dnA, Try.f64, rows_length, encA, h1, h2]
      refine CallTo.det (c_spec_l2At n1 s _ (by omega)) fun _ => ?_
      simp (config := { maxSteps := 4000000 }) only [go_sem, simprocAttr, ↓dnA, Try.f64, rows_length, encA, h1, h2]
      refine CallTo.det (c_spec_l6Run a _ _ h2 (storeAt_bd h1 _) (storeAt_bd h1 _)) fun _ => ?_
      simp (config := { maxSteps := 4000000 }) only [go_sem, simprocAttr, ↓dnA, Try.f64, rows_length, encA, h1, h2, encFO]

/-- A store with an effect's entries put. -/
def applyEffect (s : List Entry) (ws : List Entry) : List Entry := if storeValid s && entOk 0 (-1) ws then applyS s ws else []

theorem applyS_take (s ws : List Entry) (i : Nat) (h : i < ws.length) : applyS s (ws.take (i + 1)) = putD ws[i].key ws[i].value (ws[i].value == 0) (applyS s (ws.take i)) := by
  unfold applyS
  rw [take_snoc _ _ h, List.foldl_append]
  rfl

theorem entOk_len {lo : Int} : ∀ {s : List Entry} {last : Int}, -1 ≤ last → entOk lo last s = true → s = [] ∨ (s.length : Int) ≤ 31 - last
  | [], _, _, _ => .inl rfl
  | e :: r, last, hl, h => by
    rw [entOk_cons] at h
    rcases entOk_len (by omega) h.2.2 with e1 | e1
    · subst e1; right; simp only [List.length_cons, List.length_nil]; omega
    · right; rw [List.length_cons]; omega
theorem store_len {s : List Entry} (h : storeValid s = true) : s.length ≤ 32 := by
  rcases entOk_len (by omega) h with e | e
  · subst e; simp
  · omega

theorem applyS_valid : ∀ (ws : List Entry) {s : List Entry}, storeValid s = true → WritesOk ws → storeValid (applyS s ws) = true
  | [], s, h, _ => h
  | w :: ws, s, h, hw => by
    have h1 := hw w (List.mem_cons_self ..)
    exact applyS_valid ws (putD_ok h1.1 h1.2 h).1 fun y hy => hw y (List.mem_cons_of_mem _ hy)

theorem c_spec_ApplyEffect (n1 n2 n3 : Option Bool) (s : List Entry) (e : Effect) (hs : s.length ≤ 32) (hw : e.writes.length ≤ 2 ^ 20) : Det Try.prog 65 [.sl n1 (rows encE s), .agg (encF n2 n3 e)] (.osl true 2 (rows encE (applyEffect s e.writes))) := by
  refine fspec_det tab_ok Try.call65 Try.func65 rfl 42 Try.ntmps65 (of_decide_eq_true rfl) fun B => codeK_sound tab_ok _ _ _ ?_
  unfold applyEffect
  simp (config := { maxSteps := 4000000 }) only [go_sem, simprocAttr, ↓dnA, Try.f65, rows_length, encF]
  refine CallTo.det (c_spec_StoreValid n1 s (by omega)) fun _ => ?_
  cases h1 : storeValid s with
  | false => simp (config := { maxSteps := 4000000 }) only [go_sem, simprocAttr, ↓dnA, Try.f65, rows_length, encF, h1, rows_nil]
  | true =>
    simp (config := { maxSteps := 4000000 }) only [go_sem, simprocAttr, ↓dnA, Try.f65, rows_length, encF, h1]
    refine CallTo.det (c_spec_l4Writes n3 e.writes (by omega)) fun _ => ?_
    cases h2 : entOk 0 (-1) e.writes with
    | false => simp (config := { maxSteps := 4000000 }) only [go_sem, simprocAttr, ↓dnA, Try.f65, rows_length, encF, h1, h2, rows_nil]
    | true =>
      have ha := all_rows encE AV.flat (fun _ => rfl) s
      have hb := all_rows encE AV.one (fun _ => rfl) s
      have hc := sz0_rows encE 2 (fun _ => rfl) s
      simp (config := { maxSteps := 4000000 }) only [go_sem, simprocAttr, ↓dnA, Try.f65, rows_length, encF, h1, h2]
      repeat refine And.intro (by first | omega | (simp; done) | (simp; omega) | assumption) ?_
      have hW : WritesOk e.writes := fun w hw => by have := (entOk_spec 0 e.writes (-1) h2).1 w hw; omega
      refine semL_for tab_ok (fun i : Nat => ⟨42, [(3, .loc 3 0), (5, .row 600 (applyS s (e.writes.take i)).length), (6, .int .i64 i)],
          [(3, .var [.bool e.done, .sl n2 (rows encE e.reads), .sl n3 (rows encE e.writes)]), (600, .row true true 2 (rows encE (applyS s (e.writes.take i))))]⟩) (fun i => e.writes.length - i)
        (fun i => i ≤ e.writes.length) 0 [(3, 3), (19, 600)] (Weak.of (by rfl) ?_ ?_ (by rfl)) (by omega) ?_
      · simp (config := { maxSteps := 4000000 }) only [go_sem, simprocAttr, ↓dnA, Try.f65, rows_length, encF, frW, wk2, wk1, wkL, wkB, hpW, List.mem_cons, Prod.mk.injEq, exists_eq_left, exists_eq_right, exists_eq]
        rfl
      · simp (config := { maxSteps := 4000000 }) only [go_sem, simprocAttr, ↓dnA, Try.f65, rows_length, encF, frW, wk2, wk1, wkL, wkB, hpW, List.mem_cons, Prod.mk.injEq, exists_eq_left, exists_eq_right, exists_eq]
        rfl
      · rintro i hi
        by_cases h : i < e.writes.length
        · have hv := applyS_valid (e.writes.take i) h1 fun w hw => hW w (List.mem_of_mem_take hw)
          have hl := store_len hv
          have hst := applyS_take s e.writes i h
          have hw : IntKind.i64.wrap ((i : Int) + 1) = ((i + 1 : Nat) : Int) := wsucc h (by omega)
          generalize applyS s (e.writes.take i) = u at hl hst
          have htk : (rows encE u).take u.length = rows encE u := by rw [List.take_of_length_le]; rw [rows_length]; omega
          simp (config := { maxSteps := 4000000 }) only [go_sem, simprocAttr, ↓dnA, Try.f65, rows_length, nlt h, h, rows_get _ _ _ h, encE, nn0]
          refine semL_drawL tab_ok 14 mixed_ rfl (ord := [(0, []), (1, []), (2, []), (3, []), (4, []), (5, []), (6, []), (7, []), (8, []), (9, []), (10, []), (11, []), (12, []), (13, [])]) (by dsimp only; decide +kernel) ?_
          simp (config := { maxSteps := 4000000 }) only [go_sem, simprocAttr, ↓dnA, Try.f65, rows_length, nlt h, h, rows_get _ _ _ h, encE, nn0, htk, hw]
          repeat refine And.intro (by first | omega | (simp; done) | (simp; omega) | assumption) ?_
          refine CallTo.det (c_spec_l2Put _ u _ _ (by omega)) fun _ => ?_
          simp (config := { maxSteps := 4000000 }) only [go_sem, simprocAttr, ↓dnA, Try.f65, rows_length, nlt h, h, rows_get _ _ _ h, encE, nn0, htk, hw]
          refine ⟨i + 1, [(3, 3), (41000, 600)], by omega, by dsimp only; omega, Weak.of (by rfl) ?_ ?_ (by rfl)⟩
          · simp (config := { maxSteps := 4000000 }) only [go_sem, simprocAttr, ↓dnA, Try.f65, rows_length, hst, frW, wk2, wk1, wkL, wkB, hpW, List.mem_cons, Prod.mk.injEq, exists_eq_left, exists_eq_right, exists_eq]
          · simp (config := { maxSteps := 4000000 }) only [go_sem, simprocAttr, ↓dnA, Try.f65, rows_length, hst, frW, wk2, wk1, wkL, wkB, hpW, List.mem_cons, Prod.mk.injEq, exists_eq_left, exists_eq_right, exists_eq]
        · have hi' : i = e.writes.length := by omega
          subst hi'
          simp (config := { maxSteps := 4000000 }) only [go_sem, simprocAttr, ↓dnA, Try.f65, rows_length, nlf h, List.take_length]

theorem writesOk_ent {ws : List Entry} (h : entOk 0 (-1) ws = true) : WritesOk ws := fun w hw => by have := (entOk_spec 0 ws (-1) h).1 w hw; omega

theorem runE_ent {a : Action} {v : List Int} (ha : ActOk a) (hv : ValsOk v) : entOk 0 (-1) (runE a v).writes = true := by
  have hW := runE_writesOk ha hv
  have hs : ∀ k x : Int, (⟨k, x⟩ : Entry) ∈ (runE a v).writes → (-1 < k ∧ k ≤ 31) ∧ 0 ≤ x ∧ x ≤ 1000000 := fun k x h => by have := hW _ h; dsimp only at this; omega
  have hfr := ha.fr
  have hto := ha.to
  unfold runE at hs ⊢
  dsimp only at hs ⊢
  split
  · rename_i hd
    rw [if_pos hd] at hs
    unfold writesA at hs ⊢
    split
    · rename_i hk
      rw [if_pos hk] at hs
      rw [List.map_cons, List.map_nil] at hs ⊢
      rw [entOk_cons]
      have := hs _ _ (List.mem_cons_self ..)
      exact ⟨this.1, this.2, rfl⟩
    · rename_i hk
      rw [if_neg hk] at hs
      split
      · rename_i hk2
        rw [if_pos hk2] at hs
        rw [List.map_cons, List.map_nil] at hs ⊢
        rw [entOk_cons]
        have := hs _ _ (List.mem_cons_self ..)
        exact ⟨this.1, this.2, rfl⟩
      · rename_i hk2
        rw [if_neg hk2] at hs
        rw [List.map_cons, List.map_cons, List.map_nil] at hs ⊢
        rw [entOk_cons, entOk_cons]
        have h1 := hs _ _ (List.mem_cons_self ..)
        have h2 := hs _ _ (List.mem_cons_of_mem _ (List.mem_cons_self ..))
        exact ⟨h1.1, h1.2, ⟨by dsimp only; omega, h2.1.2⟩, h2.2, rfl⟩
  · rfl

theorem runAction_eq {a : Action} {u : List Int} (ha : actionValid a = true) (hu : ValsOk u) : runAction (storeL u) a = runE a u := by
  have hA := actOk_of ha
  have hfr := hA.fr
  have hto := hA.to
  unfold runAction
  rw [storeL_valid hu, ha, Bool.true_and, if_pos rfl, runE_eq, storeL_at hu _ hfr.1, storeL_at hu _ hto.1]

theorem applyEffect_eq {a : Action} {u : List Int} (ha : actionValid a = true) (hu : ValsOk u) : applyEffect (storeL u) (runE a u).writes = storeL (applyW u (runE a u).writes) := by
  unfold applyEffect
  rw [storeL_valid hu, runE_ent (actOk_of ha) hu, Bool.true_and, if_pos rfl]
  exact applyS_storeL _ hu (runE_writesOk (actOk_of ha) hu)

theorem runE_wlen (a : Action) (v : List Int) : (runE a v).writes.length ≤ 2 := by
  unfold runE
  dsimp only
  split
  · rw [List.length_map]; exact writesA_len _
  · simp

theorem c_spec_RunSerial (n1 n2 : Option Bool) (s : List Entry) (l : List Action) (hs : s.length < 2 ^ 32) (hl : l.length < 2 ^ 32) :
    Det Try.prog 12 [.sl n1 (rows encE s), .sl n2 (rows encA l)] (.tup [.osl true 2 (rows encE (runSerial s l).1), .osl true 3 (rows encF1 (runSerial s l).2)]) := by
  refine fspec_det tab_ok Try.call12 Try.func12 rfl 45 Try.ntmps12 (of_decide_eq_true rfl) fun B => codeK_sound tab_ok _ _ _ ?_
  unfold runSerial
  simp (config := { maxSteps := 4000000 }) only [go_sem, simprocAttr, ↓dnA, Try.f12, rows_length]
  refine CallTo.det (c_spec_StoreValid n1 s (by omega)) fun _ => ?_
  cases h1 : storeValid s with
  | false => simp (config := { maxSteps := 4000000 }) only [go_sem, simprocAttr, ↓dnA, Try.f12, rows_length, h1, rows_nil]
  | true =>
    simp (config := { maxSteps := 4000000 }) only [go_sem, simprocAttr, ↓dnA, Try.f12, rows_length, h1]
    refine CallTo.det (c_spec_ActionsValid n2 l (by omega)) fun _ => ?_
    cases h2 : actionsValid l with
    | false => simp (config := { maxSteps := 4000000 }) only [go_sem, simprocAttr, ↓dnA, Try.f12, rows_length, h1, h2, rows_nil]
    | true =>
      obtain ⟨ha, h10⟩ := actionsValid_ok h2
      have hav : ∀ a, a ∈ l → actionValid a = true := by
        unfold actionsValid at h2
        rw [Bool.and_eq_true] at h2
        exact fun a h => List.all_eq_true.1 h2.2 a h
      have hV := valuesL_ok h1
      have hsv := storeL_values h1
      have hsl := store_len h1
      have b1 := all_rows encE AV.flat (fun _ => rfl) s
      have b2 := all_rows encE AV.one (fun _ => rfl) s
      have b3 := sz0_rows encE 2 (fun _ => rfl) s
      simp (config := { maxSteps := 4000000 }) only [go_sem, simprocAttr, ↓dnA, Try.f12, rows_length, h1, h2]
      repeat refine And.intro (by first | omega | (simp; done) | (simp; omega) | assumption) ?_
      refine semL_for tab_ok (fun i : Nat => ⟨45, [(0, .sl n1 (rows encE s)), (1, .sl n2 (rows encA l)), (6, .row 601 i), (7, .row 600 (storeL (runAllE (valuesL s) (l.take i)).1).length), (8, .int .i64 i)],
          [(600, .row true true 2 (rows encE (storeL (runAllE (valuesL s) (l.take i)).1))), (601, .row true true 3 (rows encF1 (runAllE (valuesL s) (l.take i)).2))]⟩) (fun i => l.length - i)
        (fun i => i ≤ l.length) 0 [(23, 600), (10, 601)] (Weak.of (by rfl) ?_ ?_ (by rfl)) (by omega) ?_
      · simp (config := { maxSteps := 4000000 }) only [go_sem, simprocAttr, ↓dnA, Try.f12, rows_length, frW, wk2, wk1, wkL, wkB, hpW, List.mem_cons, Prod.mk.injEq, exists_eq_left, exists_eq_right, exists_eq]
        exact ⟨congrArg (rows encE) hsv, rfl⟩
      · simp (config := { maxSteps := 4000000 }) only [go_sem, simprocAttr, ↓dnA, Try.f12, rows_length, frW, wk2, wk1, wkL, wkB, hpW, List.mem_cons, Prod.mk.injEq, exists_eq_left, exists_eq_right, exists_eq]
        exact congrArg (fun x : List Entry => AV.row 23 x.length) hsv.symm
      · rintro i hi
        obtain ⟨hU, hL⟩ := runAllE_ok ha hV i hi
        by_cases h : i < l.length
        · have hst := runAllE_take (valuesL s) l i h
          generalize hp : runAllE (valuesL s) (l.take i) = p at hU hL hst
          obtain ⟨u, es⟩ := p
          dsimp only at hU hL
          have hai := hav _ (List.getElem_mem h)
          have hul := store_len (storeL_valid hU)
          have htk : (rows encE (storeL u)).take (storeL u).length = rows encE (storeL u) := by rw [List.take_of_length_le]; rw [rows_length]; omega
          have hte : (rows encF1 es).take i = rows encF1 es := by rw [List.take_of_length_le]; rw [rows_length, hL]; omega
          have hw : IntKind.i64.wrap ((i : Int) + 1) = ((i + 1 : Nat) : Int) := wsucc h (by omega)
          have hW := runE_wlen l[i] u
          simp (config := { maxSteps := 4000000 }) only [go_sem, simprocAttr, ↓dnA, Try.f12, rows_length, nlt h, h, hp, rows_get _ _ _ h, encA, nn0, htk]
          repeat refine And.intro (by first | omega | (simp; done) | (simp; omega) | assumption) ?_
          refine CallTo.det (c_spec_RunAction _ (storeL u) l[i] (by omega)) fun _ => ?_
          rw [runAction_eq hai hU]
          have he := applyEffect_eq hai hU
          have hee : encF1 (runE l[i] u) = [.bool (runE l[i] u).done, .sl none (rows encE (runE l[i] u).reads), .sl none (rows encE (runE l[i] u).writes)] := rfl
          have hs2 : runAllE (valuesL s) (l.take (i + 1)) = (applyW u (runE l[i] u).writes, es ++ [runE l[i] u]) := by rw [hst]; rfl
          generalize runE l[i] u = r at hs2 hW he hee
          simp (config := { maxSteps := 4000000 }) only [go_sem, simprocAttr, ↓dnA, Try.f12, rows_length, nlt h, h, hp, rows_get _ _ _ h, encA, encFO, nn0, htk]
          refine CallTo.det (c_spec_ApplyEffect _ none none (storeL u) r hul (by omega)) fun _ => ?_
          rw [he]
          simp (config := { maxSteps := 4000000 }) only [go_sem, simprocAttr, ↓dnA, Try.f12, rows_length, nlt h, h, hp, rows_get _ _ _ h, encA, encFO, nn0, htk, hte, hL, hw]
          repeat refine And.intro (by first | omega | (simp; done) | (simp; omega) | assumption) ?_
          refine ⟨i + 1, [(39000, 600), (42, 601)], by omega, by dsimp only; omega, Weak.of (by rfl) ?_ ?_ (by rfl)⟩
          · simp (config := { maxSteps := 4000000 }) only [go_sem, simprocAttr, ↓dnA, Try.f12, rows_length, hs2, ← rows_snoc, hee, frW, wk2, wk1, wkL, wkB, hpW, List.mem_cons, Prod.mk.injEq, exists_eq_left, exists_eq_right, exists_eq]
          · simp (config := { maxSteps := 4000000 }) only [go_sem, simprocAttr, ↓dnA, Try.f12, rows_length, hs2, frW, wk2, wk1, wkL, wkB, hpW, List.mem_cons, Prod.mk.injEq, exists_eq_left, exists_eq_right, exists_eq]
        · have hi' : i = l.length := by omega
          subst hi'
          rw [List.take_length] at hL
          simp (config := { maxSteps := 4000000 }) only [go_sem, simprocAttr, ↓dnA, Try.f12, rows_length, nlf h, List.take_length]
          exact hL.symm

end Go.Proofs.Ytmibclbinebnjaa

/- Contracts: trees of one store, their copies, the values behind a block. -/
set_option linter.unusedSimpArgs false
set_option linter.unusedVariables false
set_option maxRecDepth 20000
set_option maxHeartbeats 4000000
namespace Go.Proofs.Ytmibclbinebnjaa
open Go Go.RowKit

def treeOf (s : List Entry) : Tree := if storeValid s then ⟨s, [firstBlock s], [-1]⟩ else ⟨[], [], []⟩

def encBk0 (b : Block) : List AV := [.int .i64 b.before, .int .i64 b.height, .int .i64 b.view, .sl (some false) [], .int .i64 b.root, .int .i64 b.effects]
theorem c_impl_FirstBlock0 (n1 : Option Bool) (s : List Entry) (hx : s.length < 2 ^ 62) : Det Try.prog 70 [.sl n1 (rows encE s)] (.agg (encBk0 (firstBlock s))) := by
  refine fspec_det tab_ok Try.call70 Try.func70 rfl 11 Try.ntmps70 (of_decide_eq_true rfl) fun B => codeK_sound tab_ok _ _ _ ?_
  simp (config := { maxSteps := 4000000 }) only [go_sem, simprocAttr, ↓dnA, Try.f70, rows_length]
  refine CallTo.det (c_impl_StoreValid _ _ hx) fun _ => ?_
  cases h : storeValid s with
  | false => simp (config := { maxSteps := 4000000 }) only [go_sem, simprocAttr, ↓dnA, Try.f70, rows_length, h, firstBlock, encBk0]
  | true =>
    simp (config := { maxSteps := 4000000 }) only [go_sem, simprocAttr, ↓dnA, Try.f70, rows_length, h]
    refine CallTo.det (c_impl_RootOf _ _ hx) fun _ => ?_
    simp (config := { maxSteps := 4000000 }) only [go_sem, simprocAttr, ↓dnA, Try.f70, rows_length, h]
    refine CallTo.det (c_impl_EffectsSum0 _) fun _ => ?_
    simp (config := { maxSteps := 4000000 }) only [go_sem, simprocAttr, ↓dnA, Try.f70, rows_length, h, firstBlock, encBk0]

theorem c_impl_TreeOf (n1 : Option Bool) (s : List Entry) (hs : s.length < 2 ^ 32) : Det Try.prog 17 [.sl n1 (rows encE s)] (.agg (encTF (treeOf s))) := by
  refine fspec_det tab_ok Try.call17 Try.func17 rfl 14 Try.ntmps17 (of_decide_eq_true rfl) fun B => codeK_sound tab_ok _ _ _ ?_
  unfold treeOf
  simp (config := { maxSteps := 4000000 }) only [go_sem, simprocAttr, ↓dnA, Try.f17, rows_length]
  refine CallTo.det (c_impl_StoreValid n1 s (by omega)) fun _ => ?_
  cases h1 : storeValid s with
  | false => simp (config := { maxSteps := 4000000 }) only [go_sem, simprocAttr, ↓dnA, Try.f17, rows_length, h1, encTF, rows_nil]
  | true =>
    simp (config := { maxSteps := 4000000 }) only [go_sem, simprocAttr, ↓dnA, Try.f17, rows_length, h1]
    refine CallTo.det (c_impl_cloneEntries n1 s hs) fun _ => ?_
    simp (config := { maxSteps := 4000000 }) only [go_sem, simprocAttr, ↓dnA, Try.f17, rows_length, h1]
    refine CallTo.det (c_impl_FirstBlock0 n1 s (by omega)) fun _ => ?_
    have hf : encBk none (firstBlock s) = [.int .i64 (firstBlock s).before, .int .i64 (firstBlock s).height, .int .i64 (firstBlock s).view, .sl none [], .int .i64 (firstBlock s).root, .int .i64 (firstBlock s).effects] := by
      unfold encBk
      rw [firstBlock_list]
      rfl
    simp (config := { maxSteps := 4000000 }) only [go_sem, simprocAttr, ↓dnA, Try.f17, rows_length, h1, encBk0]
    simp only [encTF, rows, List.map_cons, List.map_nil, encB1, hf, encI]
    simp [rwL, rwC]

/-- The values behind the blocks of a way. -/
def wayV (t : Tree) (v : List Int) (p : List Int) : List Int := p.foldl (fun v i => (runAllE v (t.blk i.toNat).list).1) v
def afterV (t : Tree) (n : Int) : List Int := wayV t (valuesL t.base) (pathL t n)
def storeAt (t : Tree) (n : Int) : List Entry := storeL (afterV t n)

theorem blk_acts {t : Tree} (ht : TreeOk t) {i : Nat} (hi : i < t.blocks.length) : (∀ a, a ∈ (t.blk i).list → ActOk a) ∧ (t.blk i).list.length ≤ 10 ∧ actionsValid (t.blk i).list = true := by
  have h := ht.valid i hi
  unfold blockValid at h
  rw [Bool.and_eq_true] at h
  have := actionsValid_ok h.2
  exact ⟨this.1, this.2, h.2⟩

theorem runAllE_valsOk {v : List Int} {l : List Action} (hl : ∀ a, a ∈ l → ActOk a) (hv : ValsOk v) : ValsOk (runAllE v l).1 := by
  have := runAllE_ok hl hv l.length (Nat.le_refl _)
  rw [List.take_length] at this
  exact this.1

theorem wayV_ok {t : Tree} (ht : TreeOk t) : ∀ (p : List Int) {v : List Int}, (∀ x, x ∈ p → 0 ≤ x ∧ x < t.blocks.length) → ValsOk v → ValsOk (wayV t v p)
  | [], v, _, hv => hv
  | x :: p, v, hp, hv => by
    have hx := hp x (List.mem_cons_self ..)
    exact wayV_ok ht p (fun y hy => hp y (List.mem_cons_of_mem _ hy)) (runAllE_valsOk (blk_acts ht (i := x.toNat) (by omega)).1 hv)

theorem wayV_take (t : Tree) (v : List Int) (p : List Int) (i : Nat) (h : i < p.length) : wayV t v (p.take (i + 1)) = (runAllE (wayV t v (p.take i)) (t.blk p[i].toNat).list).1 := by
  unfold wayV
  rw [take_snoc _ _ h, List.foldl_append]
  rfl

theorem c_impl_after (n1 n2 n3 : Option Bool) (t : Tree) (n : Int) (ht : TreeOk t) (hx : TreeSz t) (hn : n < t.blocks.length) :
    Det Try.prog 73 [.agg (encT n1 n2 n3 t), .int .i64 n] (.agg (cellsI (afterV t n))) := by
  refine fspec_det tab_ok Try.call73 Try.func73 rfl 32 Try.ntmps73 (of_decide_eq_true rfl) fun B => codeK_sound tab_ok _ _ _ ?_
  have hV := valuesL_ok ht.store
  have cl : (cellsI (valuesL t.base)).length = 32 := by rw [cellsI_length, hV.1]
  have hcv : (cellsI (valuesL t.base)).take 32 = cellsI (valuesL t.base) := cellsI_take _ 32 hV.1
  obtain ⟨h3, h4⟩ := entOk_spec 1 t.base (-1) ht.store
  simp (config := { maxSteps := 4000000 }) only [go_sem, simprocAttr, ↓dnA, Try.f73, rows_length, cellsI_impL, cellsI_impLB, encT]
  refine CallTo.det (c_impl_valuesOf n1 t.base hx.base (fun e he => by have := h3 e he; omega)) fun _ => ?_
  simp (config := { maxSteps := 4000000 }) only [go_sem, simprocAttr, ↓dnA, Try.f73, rows_length, cellsI_impL, cellsI_impLB, encT, cl, hcv, cellsI_one, cellsI_exp]
  repeat refine And.intro (by first | omega | (simp; done) | (simp; omega) | assumption) ?_
  refine CallTo.det (c_impl_path n1 n2 n3 t n ht hx hn) fun _ => ?_
  have hpl := pathL_len ht hn
  have hpb := pathL_bd ht hn
  have hres : afterV t n = wayV t (valuesL t.base) (pathL t n) := rfl
  rw [hres]
  generalize pathL t n = p at hpl hpb
  simp (config := { maxSteps := 4000000 }) only [go_sem, simprocAttr, ↓dnA, Try.f73, rows_length, cellsI_impL, cellsI_impLB, encT, cl, hcv]
  refine semL_for tab_ok (fun i : Nat => ⟨32, [(2, .loc 2 0), (4, .loc 4 0), (5, .loc 5 0), (13, .row 14000 p.length), (14, .int .i64 p.length), (15, .int .i64 i)],
      [(14000, .row true false 1 (rows encI p)), (2, .var (encT n1 n2 n3 t)), (4, .var (cellsI zeros32)), (5, .var (cellsI (wayV t (valuesL t.base) (p.take i))))]⟩) (fun i => p.length - i)
    (fun i => i ≤ p.length) 0 [(2, 2), (4, 4), (5, 5), (14000, 14000)] (Weak.of (by rfl) ?_ ?_ (by rfl)) (by omega) ?_
  · simp (config := { maxSteps := 4000000 }) only [go_sem, simprocAttr, ↓dnA, Try.f73, rows_length, cellsI_impL, cellsI_impLB, encT, frW, wk2, wk1, wkL, wkB, hpW, List.mem_cons, Prod.mk.injEq, exists_eq_left, exists_eq_right, exists_eq]
    exact ⟨of_eq_true (cellsI_wk _ zeros32), of_eq_true (cellsI_wk _ (valuesL t.base))⟩
  · simp (config := { maxSteps := 4000000 }) only [go_sem, simprocAttr, ↓dnA, Try.f73, rows_length, cellsI_impL, cellsI_impLB, encT, frW, wk2, wk1, wkL, wkB, hpW, List.mem_cons, Prod.mk.injEq, exists_eq_left, exists_eq_right, exists_eq]
  · rintro i hi
    have hU := wayV_ok ht (p.take i) (fun x hx => by have := hpb x (List.mem_of_mem_take hx); omega) hV
    have cu : (cellsI (wayV t (valuesL t.base) (p.take i))).length = 32 := by rw [cellsI_length, hU.1]
    have hcu : (cellsI (wayV t (valuesL t.base) (p.take i))).take 32 = cellsI (wayV t (valuesL t.base) (p.take i)) := cellsI_take _ 32 hU.1
    by_cases h : i < p.length
    · have hb := hpb _ (List.getElem_mem h)
      have hst := wayV_take t (valuesL t.base) p i h
      have hw : IntKind.i64.wrap ((i : Int) + 1) = ((i + 1 : Nat) : Int) := wsucc h (by omega)
      generalize wayV t (valuesL t.base) (p.take i) = u at hU cu hcu hst
      obtain ⟨k, hk⟩ : ∃ k : Nat, p[i] = (k : Int) := ⟨p[i].toNat, by omega⟩
      have hkl : k < t.blocks.length := by omega
      have hbk := t.blk_get k hkl
      obtain ⟨b1, b2, b3⟩ := blk_acts ht hkl
      have hr := runAllE_valsOk b1 hU
      rw [hk, Int.toNat_natCast] at hst
      simp (config := { maxSteps := 4000000 }) only [go_sem, simprocAttr, ↓dnA, Try.f73, rows_length, cellsI_impL, cellsI_impLB, nlt h, h, rows_get _ _ _ h, encI, hk, encT, nn0, hw, cu, hcu]
      refine semL_draw tab_ok mixed_ rfl (ord := [(0, []), (1, []), (2, []), (3, []), (4, []), (5, []), (6, []), (7, []), (8, []), (9, []), (10, []), (11, [10])]) (by dsimp only; decide +kernel) ?_
      simp (config := { maxSteps := 4000000 }) only [go_sem, simprocAttr, ↓dnA, Try.f73, rows_length, cellsI_impL, cellsI_impLB, nlt hkl, hkl, rows_get _ _ _ hkl, hbk, encB1, encBk, encT, nn0, hw, cu, hcu, cellsI_noT, cellsI_argL]
      refine CallTo.det (c_impl_runAll none u (t.blk k).list b1 b2 hU) fun _ => ?_
      generalize runAllE u (t.blk k).list = r at hr hst
      have cr : (cellsI r.1).length = 32 := by rw [cellsI_length, hr.1]
      have hcr : (cellsI r.1).take 32 = cellsI r.1 := cellsI_take _ 32 hr.1
      simp (config := { maxSteps := 4000000 }) only [go_sem, simprocAttr, ↓dnA, Try.f73, rows_length, cellsI_impL, cellsI_impLB, encT, nn0, hw, cu, hcu, cr, hcr, cellsI_noT, cellsI_argL, cellsI_one, cellsI_exp]
      repeat refine And.intro (by first | omega | (simp; done) | (simp; omega) | assumption) ?_
      refine ⟨i + 1, [(2, 2), (4, 4), (5, 5), (14000, 14000)], by omega, by dsimp only; omega, Weak.of (by rfl) ?_ ?_ (by rfl)⟩
      · simp (config := { maxSteps := 4000000 }) only [go_sem, simprocAttr, ↓dnA, Try.f73, rows_length, cellsI_impL, cellsI_impLB, encT, hst, frW, wk2, wk1, wkL, wkB, hpW, List.mem_cons, Prod.mk.injEq, exists_eq_left, exists_eq_right, exists_eq]
        exact ⟨of_eq_true (cellsI_wk _ zeros32), of_eq_true (cellsI_wk _ r.1)⟩
      · simp (config := { maxSteps := 4000000 }) only [go_sem, simprocAttr, ↓dnA, Try.f73, rows_length, cellsI_impL, cellsI_impLB, encT, frW, wk2, wk1, wkL, wkB, hpW, List.mem_cons, Prod.mk.injEq, exists_eq_left, exists_eq_right, exists_eq]
    · have hi' : i = p.length := by omega
      subst hi'
      rw [List.take_length] at cu hcu
      have cz : (cellsI zeros32).length = 32 := rfl
      simp (config := { maxSteps := 4000000 }) only [go_sem, simprocAttr, ↓dnA, Try.f73, rows_length, cellsI_impL, cellsI_impLB, nlf h, List.take_length, cu, hcu, cz, cellsI_exp, cellsI_rw, cellsI_one]


/-- The store behind a block of a tree; none where there is no such block. -/
noncomputable def storeOf (t : Tree) (n : Int) : List Entry := if treeValid t && inB n 0 ((t.blocks.length : Int) - 1) then storeAt t n else []

theorem afterV_ok {t : Tree} (ht : TreeOk t) {n : Int} (hn : n < t.blocks.length) : ValsOk (afterV t n) :=
  wayV_ok ht _ (fun x hx => by have := pathL_bd ht hn x hx; omega) (valuesL_ok ht.store)

theorem c_impl_StoreOf (n1 n2 n3 : Option Bool) (t : Tree) (n : Int) (hx : TreeSz t) :
    Det Try.prog 19 [.agg (encT n1 n2 n3 t), .int .i64 n] (.osl false 2 (rows encE (storeOf t n))) := by
  refine fspec_det tab_ok Try.call19 Try.func19 rfl 18 Try.ntmps19 (of_decide_eq_true rfl) fun B => codeK_sound tab_ok _ _ _ ?_
  unfold storeOf
  simp (config := { maxSteps := 4000000 }) only [go_sem, simprocAttr, ↓dnA, Try.f19, rows_length, cellsI_impL, cellsI_impLB, encT]
  refine CallTo.det (c_impl_BlockTreeValid n1 n2 n3 t hx) fun _ => ?_
  cases h1 : treeValid t with
  | false => simp (config := { maxSteps := 4000000 }) only [go_sem, simprocAttr, ↓dnA, Try.f19, rows_length, cellsI_impL, cellsI_impLB, encT, h1, rows_nil]
  | true =>
    simp (config := { maxSteps := 4000000 }) only [go_sem, simprocAttr, ↓dnA, Try.f19, rows_length, cellsI_impL, cellsI_impLB, encT, h1]
    refine CallTo.det (c_impl_has n1 n2 n3 t n hx) fun _ => ?_
    cases h2 : inB n 0 ((t.blocks.length : Int) - 1) with
    | false => simp (config := { maxSteps := 4000000 }) only [go_sem, simprocAttr, ↓dnA, Try.f19, rows_length, cellsI_impL, cellsI_impLB, encT, h1, h2, rows_nil]
    | true =>
      have hb := inB_iff.1 h2
      have ht := treeOk_of h1
      have hV := afterV_ok ht (n := n) (by omega)
      have cu : (cellsI (afterV t n)).length = 32 := by rw [cellsI_length, hV.1]
      have hcu : (cellsI (afterV t n)).take 32 = cellsI (afterV t n) := cellsI_take _ 32 hV.1
      simp (config := { maxSteps := 4000000 }) only [go_sem, simprocAttr, ↓dnA, Try.f19, rows_length, cellsI_impL, cellsI_impLB, encT, h1, h2]
      refine CallTo.det (c_impl_after n1 n2 n3 t n ht hx (by omega)) fun _ => ?_
      simp (config := { maxSteps := 4000000 }) only [go_sem, simprocAttr, ↓dnA, Try.f19, rows_length, cellsI_impL, cellsI_impLB, encT, h1, h2, cu, hcu, cellsI_noT, cellsI_argL]
      refine CallTo.det (c_impl_store (afterV t n) hV) fun _ => ?_
      simp (config := { maxSteps := 4000000 }) only [go_sem, simprocAttr, ↓dnA, Try.f19, rows_length, cellsI_impL, cellsI_impLB, encT, h1, h2, storeAt]

end Go.Proofs.Ytmibclbinebnjaa

/- Contracts: the reference's store behind a block. -/
set_option linter.unusedSimpArgs false
set_option linter.unusedVariables false
set_option maxRecDepth 20000
set_option maxHeartbeats 4000000
namespace Go.Proofs.Ytmibclbinebnjaa
open Go Go.RowKit

theorem values_storeL {v : List Int} (h : ValsOk v) : valuesL (storeL v) = v := by
  have hs := storeL_valid h
  apply List.ext_getElem?
  intro k
  by_cases hk : k < 32
  · obtain ⟨h1, h2⟩ := valuesL_get hs k hk
    have h3 := storeL_at h (k : Int) (by omega)
    rw [← h2] at h3
    unfold valK at h3
    rw [Int.toNat_natCast] at h3
    rw [List.getElem?_eq_getElem (by rw [h1]; exact hk), List.getElem?_eq_getElem (by rw [h.1]; exact hk)]
    rw [List.getD_eq_getElem?_getD, List.getD_eq_getElem?_getD, List.getElem?_eq_getElem (by rw [h1]; exact hk), List.getElem?_eq_getElem (by rw [h.1]; exact hk)] at h3
    exact congrArg some h3
  · have h1 := (valuesL_get hs 0 (by omega)).1
    rw [List.getElem?_eq_none (by rw [h1]; omega), List.getElem?_eq_none (by rw [h.1]; omega)]

theorem runSerial_storeL {v : List Int} {l : List Action} (h : ValsOk v) (hl : actionsValid l = true) : (runSerial (storeL v) l).1 = storeL (runAllE v l).1 := by
  unfold runSerial
  rw [storeL_valid h, hl, values_storeL h]
  rfl

theorem c_spec_StoreOf (n1 n2 n3 : Option Bool) (t : Tree) (n : Int) (hx : TreeS32 t) :
    Det Try.prog 92 [.agg (encT n1 n2 n3 t), .int .i64 n] (.osl false 2 (rows encE (storeOf t n))) := by
  refine fspec_det tab_ok Try.call92 Try.func92 rfl 43 Try.ntmps92 (of_decide_eq_true rfl) fun B => codeK_sound tab_ok _ _ _ ?_
  have hpn := pathTo_len t n
  simp (config := { maxSteps := 4000000 }) only [go_sem, simprocAttr, ↓dnA, Try.f92, rows_length, encT]
  refine CallTo.det (c_spec_PathTo n1 n2 n3 t n hx.sz) fun _ => ?_
  by_cases hok : treeValid t = true ∧ 0 ≤ n ∧ n < t.blocks.length
  · obtain ⟨h0, hn0, hn⟩ := hok
    have ht := treeOk_of h0
    have hp0 : pathTo t n = pathL t n := pathTo_in h0 hn0 hn
    have hso : storeOf t n = storeL (wayV t (valuesL t.base) (pathL t n)) := by
      unfold storeOf
      rw [h0, inB_iff.2 (by omega)]
      rfl
    have hbd := pathL_bd ht hn
    have hpl := pathL_len ht hn
    have hpos : 0 < (pathL t n).length := by
      unfold pathL
      obtain ⟨k, rfl⟩ : ∃ k : Nat, n = (k : Int) := ⟨n.toNat, by omega⟩
      rw [List.length_reverse, (back_cons ht k (by omega)).1, List.length_cons]
      omega
    rw [hp0, hso]
    generalize pathL t n = p at hbd hpl hpos
    have hV := valuesL_ok ht.store
    have hsv := storeL_values ht.store
    have hsl := store_len ht.store
    have b1 := all_rows encE AV.flat (fun _ => rfl) t.base
    have b2 := all_rows encE AV.one (fun _ => rfl) t.base
    have b3 := sz0_rows encE 2 (fun _ => rfl) t.base
    have hgt : decide ((p.length : Int) > 0) = true := by simp; omega
    simp (config := { maxSteps := 4000000 }) only [go_sem, simprocAttr, ↓dnA, Try.f92, rows_length, encT, hgt]
    repeat refine And.intro (by first | omega | (simp; done) | (simp; omega) | assumption) ?_
    refine semL_for tab_ok (fun i : Nat => ⟨43, [(2, .loc 2 0), (5, .row 13000 p.length), (6, .row 600 (storeL (wayV t (valuesL t.base) (p.take i))).length), (7, .int .i64 i)],
        [(2, .var (encT n1 n2 n3 t)), (13000, .row true true 1 (rows encI p)), (600, .row true true 2 (rows encE (storeL (wayV t (valuesL t.base) (p.take i)))))]⟩) (fun i => p.length - i)
      (fun i => i ≤ p.length) 0 [(2, 2), (13000, 13000), (20, 600)] (Weak.of (by rfl) ?_ ?_ (by rfl)) (by omega) ?_
    · simp (config := { maxSteps := 4000000 }) only [go_sem, simprocAttr, ↓dnA, Try.f92, rows_length, encT, frW, wk2, wk1, wkL, wkB, hpW, List.mem_cons, Prod.mk.injEq, exists_eq_left, exists_eq_right, exists_eq]
      exact congrArg (rows encE) hsv
    · simp (config := { maxSteps := 4000000 }) only [go_sem, simprocAttr, ↓dnA, Try.f92, rows_length, frW, wk2, wk1, wkL, wkB, hpW, List.mem_cons, Prod.mk.injEq, exists_eq_left, exists_eq_right, exists_eq]
      exact congrArg (fun x : List Entry => AV.row 20 x.length) hsv.symm
    · rintro i hi
      have hU := wayV_ok ht (p.take i) (fun x hx => by have := hbd x (List.mem_of_mem_take hx); omega) hV
      by_cases h : i < p.length
      · have hb := hbd _ (List.getElem_mem h)
        have hst := wayV_take t (valuesL t.base) p i h
        have hw : IntKind.i64.wrap ((i : Int) + 1) = ((i + 1 : Nat) : Int) := wsucc h (by omega)
        generalize wayV t (valuesL t.base) (p.take i) = u at hU hst
        obtain ⟨k, hk⟩ : ∃ k : Nat, p[i] = (k : Int) := ⟨p[i].toNat, by omega⟩
        have hkl : k < t.blocks.length := by omega
        have hbk := t.blk_get k hkl
        obtain ⟨a1, a2, a3⟩ := blk_acts ht hkl
        have hul := store_len (storeL_valid hU)
        rw [hk, Int.toNat_natCast] at hst
        simp (config := { maxSteps := 4000000 }) only [go_sem, simprocAttr, ↓dnA, Try.f92, rows_length, encT, nlt h, h, rows_get _ _ _ h, encI, hk, nn0]
        refine semL_draw tab_ok mixed_ rfl (ord := [(0, []), (1, []), (2, []), (3, []), (4, []), (5, []), (6, []), (7, []), (8, []), (9, []), (10, []), (11, []), (12, []), (13, []), (14, []), (15, [])]) (by dsimp only; decide +kernel) ?_
        simp (config := { maxSteps := 4000000 }) only [go_sem, simprocAttr, ↓dnA, Try.f92, rows_length, encT, nlt h, h, rows_get _ _ _ h, encI, hk, nn0, nlt hkl, hkl, rows_get _ _ _ hkl, hbk, encB1, encBk]
        refine CallTo.det (c_spec_RunSerial _ none (storeL u) (t.blk k).list (by omega) (by omega)) fun _ => ?_
        have hrs := runSerial_storeL hU a3
        rw [← hst] at hrs
        generalize runSerial (storeL u) (t.blk k).list = r at hrs
        obtain ⟨r1, r2⟩ := r
        dsimp only at hrs
        subst hrs
        simp (config := { maxSteps := 4000000 }) only [go_sem, simprocAttr, ↓dnA, Try.f92, rows_length, encT, nlt h, h, rows_get _ _ _ h, encI, hk, nn0, nlt hkl, hkl, rows_get _ _ _ hkl, hbk, encB1, encBk, hw]
        refine ⟨i + 1, [(2, 2), (13000, 13000), (39000, 600)], by omega, by dsimp only; omega, Weak.of (by rfl) ?_ ?_ (by rfl)⟩
        · simp (config := { maxSteps := 4000000 }) only [go_sem, simprocAttr, ↓dnA, Try.f92, rows_length, encT, frW, wk2, wk1, wkL, wkB, hpW, List.mem_cons, Prod.mk.injEq, exists_eq_left, exists_eq_right, exists_eq]
        · simp (config := { maxSteps := 4000000 }) only [go_sem, simprocAttr, ↓dnA, Try.f92, rows_length, encT, frW, wk2, wk1, wkL, wkB, hpW, List.mem_cons, Prod.mk.injEq, exists_eq_left, exists_eq_right, exists_eq]
      · have hi' : i = p.length := by omega
        subst hi'
        simp (config := { maxSteps := 4000000 }) only [go_sem, simprocAttr, ↓dnA, Try.f92, rows_length, encT, nlf h, List.take_length]
  · have hp0 : pathTo t n = [] := by unfold pathTo; rw [if_neg hok]
    have hso : storeOf t n = [] := by
      unfold storeOf
      cases h1 : treeValid t with
      | false => rfl
      | true =>
        cases h2 : inB n 0 ((t.blocks.length : Int) - 1) with
        | false => rfl
        | true =>
          have := inB_iff.1 h2
          exact absurd ⟨h1, by omega, by omega⟩ hok
    rw [hp0, hso]
    simp (config := { maxSteps := 4000000 }) only [go_sem, simprocAttr, ↓dnA, Try.f92, rows_length, encT, rows_nil, List.length_nil]
    refine semL_for tab_ok (fun _ : Nat => ⟨43, [(5, .row 13000 0), (6, .row 600 0), (7, .int .i64 0)],
        [(13000, .row true true 1 []), (600, .row true true 2 [])]⟩) (fun i => i) (fun _ => True) 0 [(13000, 13000), (13, 600)] (Weak.of (by rfl) ?_ ?_ (by rfl)) trivial ?_
    · simp (config := { maxSteps := 4000000 }) only [go_sem, simprocAttr, ↓dnA, Try.f92, rows_length, frW, wk2, wk1, wkL, wkB, hpW, List.mem_cons, Prod.mk.injEq, exists_eq_left, exists_eq_right, exists_eq]
      try rfl
    · simp (config := { maxSteps := 4000000 }) only [go_sem, simprocAttr, ↓dnA, Try.f92, rows_length, frW, wk2, wk1, wkL, wkB, hpW, List.mem_cons, Prod.mk.injEq, exists_eq_left, exists_eq_right, exists_eq]
    · rintro i -
      simp (config := { maxSteps := 4000000 }) only [go_sem, simprocAttr, ↓dnA, Try.f92, rows_length, rows_nil, List.length_nil]

end Go.Proofs.Ytmibclbinebnjaa

/- slices.Grow of nil. -/
set_option linter.unusedSimpArgs false
set_option linter.unusedVariables false
set_option maxRecDepth 100000
set_option maxHeartbeats 4000000
namespace Go.Proofs.Ytmibclbinebnjaa
open Go Go.RowKit

theorem w_Grow (n : Nat) (w : World) (hn : n ≤ 1000000) : ∃ z : Value, z.cells.size = 2 ∧ Calls Try.prog 194 #[.slice none 0 0, .int .i64 n] w fun e w' =>
    (n = 0 ∧ e = .returned (.slice none 0 0) ∧ w' = w) ∨
    (0 < n ∧ e = .returned (.slice (some ⟨w.heap.size, 0, none⟩) 0 (grownCap w n 0 106)) ∧
      w' = w.drew.alloc (.cells ((#[] : Array Value) ++ Builtin.zeroCells z.cells n ++ Builtin.zeroCells z.cells (grownCap w n 0 106 - n)) 106)) := by
  have he : elemInfo tab 23 = some ((elemInfo tab 23).get (by decide +kernel)) := (Option.some_get _).symm
  obtain ⟨e, nf, d, z, hue, ok⟩ := elemInfo_und tab_ok he
  have hs : nf.size = 2 := ok.size.trans (by decide +kernel)
  have hb : nf.bytes = 16 := ok.bytes.trans (by decide +kernel)
  have hzs : z.cells.size = 2 := ok.zs.trans (by decide +kernel)
  obtain rfl : e = 106 := by
    have h2 : Try.prog.underlying 23 = some (.slice 106) := Try.underlying23
    rw [h2] at hue
    cases hue; rfl
  have hi := ok.info
  have hz := ok.zero
  refine ⟨z, hzs, ?_⟩
  rcases Nat.eq_zero_or_pos n with rfl | hp
  · refine Calls.mono (R := fun e w' => e = .returned (.slice none 0 0) ∧ w' = w) ?_ (fun e w' h => .inl ⟨rfl, h.1, h.2⟩)
    go_enter Try.func194, Try.ntmps194
    go_wp2
    go_ret
    exact ⟨rfl, rfl⟩
  · have hold : (Builtin.firstCells nf.size 0 (.slice none 0 0)).run Try.prog w.drew = .ok ([] : List Value).toArray w.drew := run_firstCells_none w.drew nf.size 0 0 0
    have hrz : ∀ ty, (Builtin.append_ #[23, 3] ty #[.slice none 0 0, .int .i64 (n : Int)]).run Try.prog w =
        .ok (.slice (some ⟨w.heap.size, 0, none⟩) (0 + n) (grownCap w (0 + n) 0 106)) (w.drew.alloc (.cells (([] : List Value).toArray ++ Builtin.zeroCells z.cells n ++ Builtin.zeroCells z.cells (grownCap w (0 + n) 0 106 - (0 + n))) 106)) := fun ty =>
      Lib.run_append_grow_zeros w 23 3 ty 106 nf z .i64 .i64 hue Try.underlying3 hi hz none 0 0 [] hold n hp (by omega) (by omega) (by omega) (by rw [hb]; omega) (growslice_fits (by omega) (by rw [hb]; omega))
    rw [Nat.zero_add] at hrz
    have hGn : n ≤ grownCap w n 0 106 := grownCap_ge w _ _ _
    refine Calls.mono (R := fun e w' => e = .returned (.slice (some ⟨w.heap.size, 0, none⟩) 0 (grownCap w n 0 106)) ∧ w' = w.drew.alloc (.cells ((#[] : Array Value) ++ Builtin.zeroCells z.cells n ++ Builtin.zeroCells z.cells (grownCap w n 0 106 - n)) 106)) ?_ (fun e w' h => .inr ⟨hp, h.1, h.2⟩)
    obtain ⟨G, hG⟩ : ∃ G, G = grownCap w n 0 106 := ⟨_, rfl⟩
    rw [← hG] at hrz hGn ⊢
    have hG63 : G ≤ 9223372036854775807 := by
      have := grownCap_le_maxLen w n 0 106 (by unfold maxLen; omega)
      rw [← hG] at this
      unfold maxLen at this
      omega
    have h1 : ¬ ((n : Int) < 0) := by omega
    have h2 : wrap64 (n : Int) = (n : Int) := by unfold wrap64; omega
    have h4 : (n : Int) > 0 := by omega
    clear hold hG
    go_enter Try.func194, Try.ntmps194
    go_wp2_with (at_builtin; refine Lib.wpList_append_run _ rfl _ _ _ _ rfl _ _ rfl rfl _ _ (hrz _) ?_)
    all_goals (go_ret; exact ⟨rfl, rfl⟩)

theorem c_Grow (n : Nat) (hn : n ≤ 1000000) : Det Try.prog 194 [.sl (some false) [], .int .i64 n] (.osl false 2 []) := by
  refine ⟨Try.call194, fun w S vs b BF hl ha _ _ => ?_⟩
  have hv : vs = #[.slice none 0 0, .int .i64 n] := by
    have h0 := ha 0 (by simp)
    have h1 := ha 1 (by simp)
    have e0 : vs.getD 0 undef = .slice none 0 0 := by
      rcases h0 with h0 | h0
      · revert h0
        generalize vs.getD 0 undef = v
        generalize hb : ([AV.sl (some false) [], AV.int .i64 n] : List AV).getD 0 .top = bb
        intro h0
        cases h0 with
        | nil nn hn => rfl
        | empty a cap nn hn => cases hb; exact absurd rfl hn
        | slice b o cap sz nn es f hn => cases hb; exact absurd rfl hn
        | _ => cases hb
      · exact absurd h0.1 (by simp)
    have e1 : vs.getD 1 undef = .int .i64 n := by
      rcases h1 with h1 | h1
      · revert h1
        generalize vs.getD 1 undef = v
        generalize hb : ([AV.sl (some false) [], AV.int .i64 n] : List AV).getD 1 .top = bb
        intro h1
        cases h1 with
        | int k m => cases hb; rfl
        | _ => cases hb
      · exact absurd h1.1 (by simp)
    have hsz : vs.size = 2 := hl
    apply Array.ext
    · exact hsz
    · intro i h1 h2
      have : i = 0 ∨ i = 1 := by omega
      rcases this with rfl | rfl
      · simpa [Array.getD, hsz] using e0
      · simpa [Array.getD, hsz] using e1
  obtain ⟨z, hz, hc⟩ := w_Grow n w hn
  rw [hv]
  refine hc.mono ?_
  rintro e w' (⟨rfl, rfl, rfl⟩ | ⟨hp, rfl, rfl⟩)
  · exact ⟨_, .osl false 2 [], [], fun _ => False, fun _ _ => False, rfl, rfl, ⟨rfl, rfl, rfl, Nat.le_refl _, fun _ _ _ => rfl⟩,
      .part _ _ _ (.cell _ _ _ (.osl _ _ _ _ _ ⟨by decide, by simp, .inl ⟨rfl, rfl, rfl, fun _ h => h⟩⟩)), by simp, by simp [BoxM], by simp [BoxM]⟩
  · have hge := grownCap_ge w n 0 106
    refine ⟨_, .osl false 2 [], [], fun x => x = w.heap.size, fun _ _ => False, rfl, rfl, ⟨rfl, rfl, rfl, ?_, fun x hx _ => ?_⟩, .part _ _ _ (.cell _ _ _ (.osl _ _ _ _ _ ⟨by decide, by simp, .inr ⟨w.heap.size, grownCap w n 0 106, _, 106, fun _ _ _ => False, rfl, by simpa using heap_alloc_new w.drew _, ?_, by simp, by simp, by simp, by simp, by simp⟩⟩)), by simp, by simp [BoxM], by simp [BoxM]⟩
    · simp
    · exact Below.heap_alloc w.drew _ x hx
    · simp only [Array.size_append, size_zeroCells, hz, ← Nat.add_mul, List.size_toArray, List.length_nil]
      congr 1; omega

/-- A list of slices. -/
def encSl (xs : List Entry) : List AV := [.sl none (rows encE xs)]

theorem flatten_take {α : Type} (L : List (List α)) (i : Nat) (h : i < L.length) : (L.take (i + 1)).flatten = (L.take i).flatten ++ L[i] := by
  rw [take_snoc _ _ h, List.flatten_append]; simp

theorem c_Concat (n1 : Option Bool) (L : List (List Entry)) (hL : L.length ≤ 1000) (hF : L.flatten.length ≤ 1000000) : Det Try.prog 185 [.sl n1 (rows encSl L)] (.osl false 2 (rows encE L.flatten)) := by
  refine fspec_det tab_ok Try.call185 Try.func185 rfl 36 Try.ntmps185 (of_decide_eq_true rfl) fun B => codeK_sound tab_ok _ _ _ ?_
  have hle : ∀ i, (L.take i).flatten.length ≤ L.flatten.length := fun i => by
    have := congrArg (fun l : List (List Entry) => l.flatten.length) (List.take_append_drop i L)
    simp only [List.flatten_append, List.length_append] at this
    omega
  simp (config := { maxSteps := 4000000 }) only [go_sem, simprocAttr, ↓dnA, Try.f185, rows_length]
  refine semL_for tab_ok (fun i : Nat => ⟨36, [(0, .sl n1 (rows encSl L)), (3, .int .i64 (L.take i).flatten.length), (9, .sl n1 (rows encSl L)), (10, .int .i64 L.length), (11, .int .i64 i)], []⟩) (fun i => L.length - i)
    (fun i => i ≤ L.length) 0 [] (Weak.of (by rfl) ?_ ?_ (by rfl)) (by omega) ?_
  · trivial
  · simp (config := { maxSteps := 4000000 }) only [go_sem, simprocAttr, ↓dnA, Try.f185, rows_length, frW, wk2, wk1, wkL, wkB, hpW, List.mem_cons, Prod.mk.injEq, exists_eq_left, exists_eq_right, exists_eq]
    try rfl
  · rintro i hi
    by_cases h : i < L.length
    · have hst := flatten_take L i h
      have h1 := hle (i + 1)
      rw [hst, List.length_append] at h1
      have hw : IntKind.i64.wrap ((i : Int) + 1) = ((i + 1 : Nat) : Int) := wsucc h (by omega)
      have hw2 : IntKind.i64.wrap (((L.take i).flatten.length : Int) + (L[i].length : Int)) = (((L.take i).flatten.length + L[i].length : Nat) : Int) := by rw [wrap_small _ (by omega) (by omega)]; omega
      simp (config := { maxSteps := 4000000 }) only [go_sem, simprocAttr, ↓dnA, Try.f185, rows_length, nlt h, h, rows_get _ _ _ h, encSl, nn0, hw, hw2]
      have hnn : decide ((((L.take i).flatten.length + L[i].length : Nat) : Int) < 0) = false := by simp; omega
      rw [hnn]
      refine ⟨fun hc => by simp at hc, fun _ => ?_⟩
      refine ⟨i + 1, [], by omega, by dsimp only; omega, Weak.of (by rfl) ?_ ?_ (by rfl)⟩
      · trivial
      · simp (config := { maxSteps := 4000000 }) only [go_sem, simprocAttr, ↓dnA, Try.f185, rows_length, hst, List.length_append, frW, wk2, wk1, wkL, wkB, hpW, List.mem_cons, Prod.mk.injEq, exists_eq_left, exists_eq_right, exists_eq]
    · have hi' : i = L.length := by omega
      subst hi'
      simp (config := { maxSteps := 4000000 }) only [go_sem, simprocAttr, ↓dnA, Try.f185, rows_length, nlf h, List.take_length]
      refine CallTo.det (c_Grow _ hF) fun _ => ?_
      simp (config := { maxSteps := 4000000 }) only [go_sem, simprocAttr, ↓dnA, Try.f185, rows_length, nlf h, List.take_length]
      refine semL_for tab_ok (fun i : Nat => ⟨36, [(6, .row 600 (L.take i).flatten.length), (25, .sl n1 (rows encSl L)), (26, .int .i64 L.length), (27, .int .i64 i)], [(600, .row true false 2 (rows encE (L.take i).flatten))]⟩) (fun i => L.length - i)
        (fun i => i ≤ L.length) 0 [(25000, 600)] (Weak.of (by rfl) ?_ ?_ (by rfl)) (by omega) ?_
      · simp (config := { maxSteps := 4000000 }) only [go_sem, simprocAttr, ↓dnA, Try.f185, rows_length, frW, wk2, wk1, wkL, wkB, hpW, List.mem_cons, Prod.mk.injEq, exists_eq_left, exists_eq_right, exists_eq]
        try rfl
      · simp (config := { maxSteps := 4000000 }) only [go_sem, simprocAttr, ↓dnA, Try.f185, rows_length, frW, wk2, wk1, wkL, wkB, hpW, List.mem_cons, Prod.mk.injEq, exists_eq_left, exists_eq_right, exists_eq]
        try rfl
      · rintro i hi
        by_cases h : i < L.length
        · have hst := flatten_take L i h
          have h1 := hle (i + 1)
          rw [hst, List.length_append] at h1
          have hw : IntKind.i64.wrap ((i : Int) + 1) = ((i + 1 : Nat) : Int) := wsucc h (by omega)
          have htk : (rows encE (L.take i).flatten).take (L.take i).flatten.length = rows encE (L.take i).flatten := by rw [List.take_of_length_le]; rw [rows_length]; omega
          have b1 := all_rows encE AV.flat (fun _ => rfl) L[i]
          have b2 := all_rows encE AV.one (fun _ => rfl) L[i]
          have b3 := sz0_rows encE 2 (fun _ => rfl) L[i]
          simp (config := { maxSteps := 4000000 }) only [go_sem, simprocAttr, ↓dnA, Try.f185, rows_length, nlt h, h, rows_get _ _ _ h, encSl, nn0, hw, htk]
          repeat refine And.intro (by first | omega | (simp; done) | (simp; omega) | assumption) ?_
          refine ⟨i + 1, [(33, 600)], by omega, by dsimp only; omega, Weak.of (by rfl) ?_ ?_ (by rfl)⟩
          · simp (config := { maxSteps := 4000000 }) only [go_sem, simprocAttr, ↓dnA, Try.f185, rows_length, hst, List.length_append, frW, wk2, wk1, wkL, wkB, hpW, List.mem_cons, Prod.mk.injEq, exists_eq_left, exists_eq_right, exists_eq]
            simp [rows]
          · simp (config := { maxSteps := 4000000 }) only [go_sem, simprocAttr, ↓dnA, Try.f185, rows_length, hst, List.length_append, frW, wk2, wk1, wkL, wkB, hpW, List.mem_cons, Prod.mk.injEq, exists_eq_left, exists_eq_right, exists_eq]
        · have hi' : i = L.length := by omega
          subst hi'
          simp (config := { maxSteps := 4000000 }) only [go_sem, simprocAttr, ↓dnA, Try.f185, rows_length, nlf h, List.take_length]

end Go.Proofs.Ytmibclbinebnjaa

