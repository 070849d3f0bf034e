/- An abstract run of Go code, and contracts of functions (part 4): W7, W8, W9, W10, W11, W12, W13, W14, W15, W16 -/
import Derived.Test.YtdaemhaecjldaaaM3

/- Contracts: entries and actions, and when they are valid. -/
set_option linter.unusedSimpArgs false
set_option linter.unusedVariables false
set_option maxRecDepth 20000
set_option maxHeartbeats 2000000
namespace Go.Proofs.Ytdaemhaecjldaaa
open Go Go.RowKit

def inB (n lo hi : Int) : Bool := decide (lo ≤ n) && decide (n ≤ hi)

theorem inB_iff {n lo hi : Int} : inB n lo hi = true ↔ lo ≤ n ∧ n ≤ hi := by simp [inB]

theorem c_in (x lo hi : Int) : Det Try.prog 120 [.int .i64 x, .int .i64 lo, .int .i64 hi] (.bool (inB x lo hi)) := c_impl_in x lo hi
theorem c_l1In (x lo hi : Int) : Det Try.prog 74 [.int .i64 x, .int .i64 lo, .int .i64 hi] (.bool (inB x lo hi)) := c_spec_l1In x lo hi

theorem c_impl_isKey (x : Int) : Det Try.prog 181 [.int .i64 x] (.bool (inB x 0 31)) := by
  refine fspec_det tab_ok Try.call181 Try.func181 rfl 5 Try.ntmps181 (of_decide_eq_true rfl) fun B => codeK_sound tab_ok _ _ _ ?_
  simp (config := { maxSteps := 4000000 }) only [go_sem, Nat.reduceEqDiff, Nat.reduceAdd, Nat.reduceMul, Nat.reduceSub, Nat.reduceLT, Nat.reduceLeDiff, reduceIte, reduceCtorEq, Int.reduceToNat, Int.reduceLE, Int.reduceLT, Int.reduceEq, Int.reduceGT, Int.reduceGE, Int.reduceAdd, Int.reduceSub, Int.reduceNeg, Int.reduceMul, ↓bT, ↓bF, ↓backK_top, ↓backK_int, ↓backK_bool, ↓backK_sl, ↓backK_fn, ↓backK_agg, ↓backK_tup, ↓backK_pel, ↓backK_osl, ↓backK_may, ↓backK_box, ↓bothTT, ↓bothTF, ↓bothFT, ↓bothFF, bothTT, bothTF, bothFT, bothFF, ↓bothTT, ↓bothTF, ↓bothFT, ↓bothFF, ↓bothNT, ↓bothNF, ↓bothCT, ↓bothCF, Try.f181]
  refine CallTo.det (c_in _ _ _) fun _ => ?_
  simp (config := { maxSteps := 4000000 }) only [go_sem, Nat.reduceEqDiff, Nat.reduceAdd, Nat.reduceMul, Nat.reduceSub, Nat.reduceLT, Nat.reduceLeDiff, reduceIte, reduceCtorEq, Int.reduceToNat, Int.reduceLE, Int.reduceLT, Int.reduceEq, Int.reduceGT, Int.reduceGE, Int.reduceAdd, Int.reduceSub, Int.reduceNeg, Int.reduceMul, ↓bT, ↓bF, ↓backK_top, ↓backK_int, ↓backK_bool, ↓backK_sl, ↓backK_fn, ↓backK_agg, ↓backK_tup, ↓backK_pel, ↓backK_osl, ↓backK_may, ↓backK_box, ↓bothTT, ↓bothTF, ↓bothFT, ↓bothFF, bothTT, bothTF, bothFT, bothFF, ↓bothTT, ↓bothTF, ↓bothFT, ↓bothFF, ↓bothNT, ↓bothNF, ↓bothCT, ↓bothCF, Try.f181]

theorem c_impl_isValue (x : Int) : Det Try.prog 182 [.int .i64 x] (.bool (inB x 0 1000000)) := by
  refine fspec_det tab_ok Try.call182 Try.func182 rfl 5 Try.ntmps182 (of_decide_eq_true rfl) fun B => codeK_sound tab_ok _ _ _ ?_
  simp (config := { maxSteps := 4000000 }) only [go_sem, Nat.reduceEqDiff, Nat.reduceAdd, Nat.reduceMul, Nat.reduceSub, Nat.reduceLT, Nat.reduceLeDiff, reduceIte, reduceCtorEq, Int.reduceToNat, Int.reduceLE, Int.reduceLT, Int.reduceEq, Int.reduceGT, Int.reduceGE, Int.reduceAdd, Int.reduceSub, Int.reduceNeg, Int.reduceMul, ↓bT, ↓bF, ↓backK_top, ↓backK_int, ↓backK_bool, ↓backK_sl, ↓backK_fn, ↓backK_agg, ↓backK_tup, ↓backK_pel, ↓backK_osl, ↓backK_may, ↓backK_box, ↓bothTT, ↓bothTF, ↓bothFT, ↓bothFF, bothTT, bothTF, bothFT, bothFF, ↓bothTT, ↓bothTF, ↓bothFT, ↓bothFF, ↓bothNT, ↓bothNF, ↓bothCT, ↓bothCF, Try.f182]
  refine CallTo.det (c_in _ _ _) fun _ => ?_
  simp (config := { maxSteps := 4000000 }) only [go_sem, Nat.reduceEqDiff, Nat.reduceAdd, Nat.reduceMul, Nat.reduceSub, Nat.reduceLT, Nat.reduceLeDiff, reduceIte, reduceCtorEq, Int.reduceToNat, Int.reduceLE, Int.reduceLT, Int.reduceEq, Int.reduceGT, Int.reduceGE, Int.reduceAdd, Int.reduceSub, Int.reduceNeg, Int.reduceMul, ↓bT, ↓bF, ↓backK_top, ↓backK_int, ↓backK_bool, ↓backK_sl, ↓backK_fn, ↓backK_agg, ↓backK_tup, ↓backK_pel, ↓backK_osl, ↓backK_may, ↓backK_box, ↓bothTT, ↓bothTF, ↓bothFT, ↓bothFF, bothTT, bothTF, bothFT, bothFF, ↓bothTT, ↓bothTF, ↓bothFT, ↓bothFF, ↓bothNT, ↓bothNF, ↓bothCT, ↓bothCF, Try.f182]

theorem c_impl_isSum (x : Int) : Det Try.prog 169 [.int .i64 x] (.bool (inB x 0 1000002)) := by
  refine fspec_det tab_ok Try.call169 Try.func169 rfl 5 Try.ntmps169 (of_decide_eq_true rfl) fun B => codeK_sound tab_ok _ _ _ ?_
  simp (config := { maxSteps := 4000000 }) only [go_sem, Nat.reduceEqDiff, Nat.reduceAdd, Nat.reduceMul, Nat.reduceSub, Nat.reduceLT, Nat.reduceLeDiff, reduceIte, reduceCtorEq, Int.reduceToNat, Int.reduceLE, Int.reduceLT, Int.reduceEq, Int.reduceGT, Int.reduceGE, Int.reduceAdd, Int.reduceSub, Int.reduceNeg, Int.reduceMul, ↓bT, ↓bF, ↓backK_top, ↓backK_int, ↓backK_bool, ↓backK_sl, ↓backK_fn, ↓backK_agg, ↓backK_tup, ↓backK_pel, ↓backK_osl, ↓backK_may, ↓backK_box, ↓bothTT, ↓bothTF, ↓bothFT, ↓bothFF, bothTT, bothTF, bothFT, bothFF, ↓bothTT, ↓bothTF, ↓bothFT, ↓bothFF, ↓bothNT, ↓bothNF, ↓bothCT, ↓bothCF, Try.f169]
  refine CallTo.det (c_in _ _ _) fun _ => ?_
  simp (config := { maxSteps := 4000000 }) only [go_sem, Nat.reduceEqDiff, Nat.reduceAdd, Nat.reduceMul, Nat.reduceSub, Nat.reduceLT, Nat.reduceLeDiff, reduceIte, reduceCtorEq, Int.reduceToNat, Int.reduceLE, Int.reduceLT, Int.reduceEq, Int.reduceGT, Int.reduceGE, Int.reduceAdd, Int.reduceSub, Int.reduceNeg, Int.reduceMul, ↓bT, ↓bF, ↓backK_top, ↓backK_int, ↓backK_bool, ↓backK_sl, ↓backK_fn, ↓backK_agg, ↓backK_tup, ↓backK_pel, ↓backK_osl, ↓backK_may, ↓backK_box, ↓bothTT, ↓bothTF, ↓bothFT, ↓bothFF, bothTT, bothTF, bothFT, bothFF, ↓bothTT, ↓bothTF, ↓bothFT, ↓bothFF, ↓bothNT, ↓bothNF, ↓bothCT, ↓bothCF, Try.f169]

structure Entry where
  key : Int
  value : Int
deriving DecidableEq, Inhabited

def encE (e : Entry) : List AV := [.int .i64 e.key, .int .i64 e.value]

structure Action where
  kind : Int
  fr : Int
  to : Int
  amount : Int
deriving DecidableEq, Inhabited

def encA (a : Action) : List AV := [.int .i64 a.kind, .int .i64 a.fr, .int .i64 a.to, .int .i64 a.amount]

/-- Entries are valid: their keys ascend from 'last' on, their values are at least 'least'. -/
def entOk (least : Int) : Int → List Entry → Bool
  | _, [] => true
  | last, e :: r => inB e.key (last + 1) 31 && inB e.value least 1000000 && entOk least e.key r

def storeValid (s : List Entry) : Bool := entOk 1 (-1) s

theorem c_impl_entriesValid (n1 : Option Bool) (xs : List Entry) (least : Int) (hx : xs.length < 2 ^ 62) : Det Try.prog 145 [.sl n1 (rows encE xs), .int .i64 least] (.bool (entOk least (-1) xs)) := by
  refine fspec_det tab_ok Try.call145 Try.func145 rfl 30 Try.ntmps145 (of_decide_eq_true rfl) fun B => codeK_sound tab_ok _ _ _ ?_
  simp (config := { maxSteps := 4000000 }) only [go_sem, Nat.reduceEqDiff, Nat.reduceAdd, Nat.reduceMul, Nat.reduceSub, Nat.reduceLT, Nat.reduceLeDiff, reduceIte, reduceCtorEq, Int.reduceToNat, Int.reduceLE, Int.reduceLT, Int.reduceEq, Int.reduceGT, Int.reduceGE, Int.reduceAdd, Int.reduceSub, Int.reduceNeg, Int.reduceMul, ↓bT, ↓bF, ↓backK_top, ↓backK_int, ↓backK_bool, ↓backK_sl, ↓backK_fn, ↓backK_agg, ↓backK_tup, ↓backK_pel, ↓backK_osl, ↓backK_may, ↓backK_box, ↓bothTT, ↓bothTF, ↓bothFT, ↓bothFF, bothTT, bothTF, bothFT, bothFF, ↓bothTT, ↓bothTF, ↓bothFT, ↓bothFF, ↓bothNT, ↓bothNF, ↓bothCT, ↓bothCF, Try.f145, rows_length]
  refine semL_for tab_ok (fun p : Nat × Int => ⟨30, [(1, .int .i64 least), (8, .sl n1 (rows encE xs)), (9, .int .i64 xs.length), (10, .int .i64 p.1), (5, .int .i64 p.2)], []⟩) (fun p => xs.length - p.1)
    (fun p => p.1 ≤ xs.length ∧ (-1 ≤ p.2 ∧ p.2 ≤ 31) ∧ entOk least p.2 (xs.drop p.1) = entOk least (-1) xs) (0, -1) [] (Weak.of rfl trivial ?_ rfl) ⟨by omega, by dsimp only; omega, rfl⟩ ?_
  · simp (config := { maxSteps := 4000000 }) only [go_sem, Nat.reduceEqDiff, Nat.reduceAdd, Nat.reduceMul, Nat.reduceSub, Nat.reduceLT, Nat.reduceLeDiff, reduceIte, reduceCtorEq, Int.reduceToNat, Int.reduceLE, Int.reduceLT, Int.reduceEq, Int.reduceGT, Int.reduceGE, Int.reduceAdd, Int.reduceSub, Int.reduceNeg, Int.reduceMul, ↓bT, ↓bF, ↓backK_top, ↓backK_int, ↓backK_bool, ↓backK_sl, ↓backK_fn, ↓backK_agg, ↓backK_tup, ↓backK_pel, ↓backK_osl, ↓backK_may, ↓backK_box, ↓bothTT, ↓bothTF, ↓bothFT, ↓bothFF, bothTT, bothTF, bothFT, bothFF, ↓bothTT, ↓bothTF, ↓bothFT, ↓bothFF, ↓bothNT, ↓bothNF, ↓bothCT, ↓bothCF, Try.f145, frW, wk2, wk1, wkL, wkB, hpW, List.mem_cons, Prod.mk.injEq, exists_eq_left, exists_eq_right, exists_eq]
  · rintro ⟨i, last⟩ ⟨hi, hl, hp⟩
    by_cases h : i < xs.length
    · have hw : IntKind.i64.wrap (last + 1) = last + 1 := wrap_small _ (by dsimp only at hl; omega) (by dsimp only at hl; omega)
      dsimp only at hp
      rw [drop_cons xs i h] at hp
      simp only [entOk] at hp
      simp (config := { maxSteps := 4000000 }) only [go_sem, Nat.reduceEqDiff, Nat.reduceAdd, Nat.reduceMul, Nat.reduceSub, Nat.reduceLT, Nat.reduceLeDiff, reduceIte, reduceCtorEq, Int.reduceToNat, Int.reduceLE, Int.reduceLT, Int.reduceEq, Int.reduceGT, Int.reduceGE, Int.reduceAdd, Int.reduceSub, Int.reduceNeg, Int.reduceMul, ↓bT, ↓bF, ↓backK_top, ↓backK_int, ↓backK_bool, ↓backK_sl, ↓backK_fn, ↓backK_agg, ↓backK_tup, ↓backK_pel, ↓backK_osl, ↓backK_may, ↓backK_box, ↓bothTT, ↓bothTF, ↓bothFT, ↓bothFF, bothTT, bothTF, bothFT, bothFF, ↓bothTT, ↓bothTF, ↓bothFT, ↓bothFF, ↓bothNT, ↓bothNF, ↓bothCT, ↓bothCF, Try.f145, rows_length, rows_get _ _ _ h, encE, nlt h, nn0, hw]
      refine CallTo.det (c_in _ _ _) fun _ => ?_
      cases h1 : inB xs[i].key (last + 1) 31 with
      | false =>
        rw [h1] at hp
        simp (config := { maxSteps := 4000000 }) only [go_sem, Nat.reduceEqDiff, Nat.reduceAdd, Nat.reduceMul, Nat.reduceSub, Nat.reduceLT, Nat.reduceLeDiff, reduceIte, reduceCtorEq, Int.reduceToNat, Int.reduceLE, Int.reduceLT, Int.reduceEq, Int.reduceGT, Int.reduceGE, Int.reduceAdd, Int.reduceSub, Int.reduceNeg, Int.reduceMul, ↓bT, ↓bF, ↓backK_top, ↓backK_int, ↓backK_bool, ↓backK_sl, ↓backK_fn, ↓backK_agg, ↓backK_tup, ↓backK_pel, ↓backK_osl, ↓backK_may, ↓backK_box, ↓bothTT, ↓bothTF, ↓bothFT, ↓bothFF, bothTT, bothTF, bothFT, bothFF, ↓bothTT, ↓bothTF, ↓bothFT, ↓bothFF, ↓bothNT, ↓bothNF, ↓bothCT, ↓bothCF, Try.f145, rows_length, rows_get _ _ _ h, encE, nlt h, nn0, hw, h1]
        rw [← hp]; rfl
      | true =>
        simp (config := { maxSteps := 4000000 }) only [go_sem, Nat.reduceEqDiff, Nat.reduceAdd, Nat.reduceMul, Nat.reduceSub, Nat.reduceLT, Nat.reduceLeDiff, reduceIte, reduceCtorEq, Int.reduceToNat, Int.reduceLE, Int.reduceLT, Int.reduceEq, Int.reduceGT, Int.reduceGE, Int.reduceAdd, Int.reduceSub, Int.reduceNeg, Int.reduceMul, ↓bT, ↓bF, ↓backK_top, ↓backK_int, ↓backK_bool, ↓backK_sl, ↓backK_fn, ↓backK_agg, ↓backK_tup, ↓backK_pel, ↓backK_osl, ↓backK_may, ↓backK_box, ↓bothTT, ↓bothTF, ↓bothFT, ↓bothFF, bothTT, bothTF, bothFT, bothFF, ↓bothTT, ↓bothTF, ↓bothFT, ↓bothFF, ↓bothNT, ↓bothNF, ↓bothCT, ↓bothCF, Try.f145, rows_length, rows_get _ _ _ h, encE, nlt h, nn0, hw, h1]
        refine CallTo.det (c_in _ _ _) fun _ => ?_
        cases h2 : inB xs[i].value least 1000000 with
        | false =>
          rw [h1, h2] at hp
          simp (config := { maxSteps := 4000000 }) only [go_sem, Nat.reduceEqDiff, Nat.reduceAdd, Nat.reduceMul, Nat.reduceSub, Nat.reduceLT, Nat.reduceLeDiff, reduceIte, reduceCtorEq, Int.reduceToNat, Int.reduceLE, Int.reduceLT, Int.reduceEq, Int.reduceGT, Int.reduceGE, Int.reduceAdd, Int.reduceSub, Int.reduceNeg, Int.reduceMul, ↓bT, ↓bF, ↓backK_top, ↓backK_int, ↓backK_bool, ↓backK_sl, ↓backK_fn, ↓backK_agg, ↓backK_tup, ↓backK_pel, ↓backK_osl, ↓backK_may, ↓backK_box, ↓bothTT, ↓bothTF, ↓bothFT, ↓bothFF, bothTT, bothTF, bothFT, bothFF, ↓bothTT, ↓bothTF, ↓bothFT, ↓bothFF, ↓bothNT, ↓bothNF, ↓bothCT, ↓bothCF, Try.f145, rows_length, rows_get _ _ _ h, encE, nlt h, nn0, hw, h1, h2]
          rw [← hp]; rfl
        | true =>
          rw [h1, h2] at hp
          simp (config := { maxSteps := 4000000 }) only [go_sem, Nat.reduceEqDiff, Nat.reduceAdd, Nat.reduceMul, Nat.reduceSub, Nat.reduceLT, Nat.reduceLeDiff, reduceIte, reduceCtorEq, Int.reduceToNat, Int.reduceLE, Int.reduceLT, Int.reduceEq, Int.reduceGT, Int.reduceGE, Int.reduceAdd, Int.reduceSub, Int.reduceNeg, Int.reduceMul, ↓bT, ↓bF, ↓backK_top, ↓backK_int, ↓backK_bool, ↓backK_sl, ↓backK_fn, ↓backK_agg, ↓backK_tup, ↓backK_pel, ↓backK_osl, ↓backK_may, ↓backK_box, ↓bothTT, ↓bothTF, ↓bothFT, ↓bothFF, bothTT, bothTF, bothFT, bothFF, ↓bothTT, ↓bothTF, ↓bothFT, ↓bothFF, ↓bothNT, ↓bothNF, ↓bothCT, ↓bothCF, Try.f145, rows_length, rows_get _ _ _ h, encE, nlt h, nn0, hw, h1, h2]
          have hk := inB_iff.1 h1
          refine ⟨(i + 1, xs[i].key), [], ⟨by dsimp only; omega, by dsimp only at hl ⊢; omega, hp⟩, by dsimp only; omega, Weak.of rfl trivial ?_ rfl⟩
          simp (config := { maxSteps := 4000000 }) only [go_sem, Nat.reduceEqDiff, Nat.reduceAdd, Nat.reduceMul, Nat.reduceSub, Nat.reduceLT, Nat.reduceLeDiff, reduceIte, reduceCtorEq, Int.reduceToNat, Int.reduceLE, Int.reduceLT, Int.reduceEq, Int.reduceGT, Int.reduceGE, Int.reduceAdd, Int.reduceSub, Int.reduceNeg, Int.reduceMul, ↓bT, ↓bF, ↓backK_top, ↓backK_int, ↓backK_bool, ↓backK_sl, ↓backK_fn, ↓backK_agg, ↓backK_tup, ↓backK_pel, ↓backK_osl, ↓backK_may, ↓backK_box, ↓bothTT, ↓bothTF, ↓bothFT, ↓bothFF, bothTT, bothTF, bothFT, bothFF, ↓bothTT, ↓bothTF, ↓bothFT, ↓bothFF, ↓bothNT, ↓bothNF, ↓bothCT, ↓bothCF, Try.f145, wsucc h hx, frW, wk2, wk1, wkL, wkB, hpW, List.mem_cons, Prod.mk.injEq, exists_eq_left, exists_eq_right, exists_eq]
    · have : i = xs.length := by dsimp only at hi; omega
      subst this
      simp only [List.drop_length] at hp
      simp (config := { maxSteps := 4000000 }) only [go_sem, Nat.reduceEqDiff, Nat.reduceAdd, Nat.reduceMul, Nat.reduceSub, Nat.reduceLT, Nat.reduceLeDiff, reduceIte, reduceCtorEq, Int.reduceToNat, Int.reduceLE, Int.reduceLT, Int.reduceEq, Int.reduceGT, Int.reduceGE, Int.reduceAdd, Int.reduceSub, Int.reduceNeg, Int.reduceMul, ↓bT, ↓bF, ↓backK_top, ↓backK_int, ↓backK_bool, ↓backK_sl, ↓backK_fn, ↓backK_agg, ↓backK_tup, ↓backK_pel, ↓backK_osl, ↓backK_may, ↓backK_box, ↓bothTT, ↓bothTF, ↓bothFT, ↓bothFF, bothTT, bothTF, bothFT, bothFF, ↓bothTT, ↓bothTF, ↓bothFT, ↓bothFF, ↓bothNT, ↓bothNF, ↓bothCT, ↓bothCF, Try.f145, nlf h]
      exact hp.symm

theorem c_impl_StoreValid (n1 : Option Bool) (xs : List Entry) (hx : xs.length < 2 ^ 62) : Det Try.prog 81 [.sl n1 (rows encE xs)] (.bool (storeValid xs)) := by
  refine fspec_det tab_ok Try.call81 Try.func81 rfl 5 Try.ntmps81 (of_decide_eq_true rfl) fun B => codeK_sound tab_ok _ _ _ ?_
  simp (config := { maxSteps := 4000000 }) only [go_sem, Nat.reduceEqDiff, Nat.reduceAdd, Nat.reduceMul, Nat.reduceSub, Nat.reduceLT, Nat.reduceLeDiff, reduceIte, reduceCtorEq, Int.reduceToNat, Int.reduceLE, Int.reduceLT, Int.reduceEq, Int.reduceGT, Int.reduceGE, Int.reduceAdd, Int.reduceSub, Int.reduceNeg, Int.reduceMul, ↓bT, ↓bF, ↓backK_top, ↓backK_int, ↓backK_bool, ↓backK_sl, ↓backK_fn, ↓backK_agg, ↓backK_tup, ↓backK_pel, ↓backK_osl, ↓backK_may, ↓backK_box, ↓bothTT, ↓bothTF, ↓bothFT, ↓bothFF, bothTT, bothTF, bothFT, bothFF, ↓bothTT, ↓bothTF, ↓bothFT, ↓bothFF, ↓bothNT, ↓bothNF, ↓bothCT, ↓bothCF, Try.f81]
  refine CallTo.det (c_impl_entriesValid _ _ _ hx) fun _ => ?_
  simp (config := { maxSteps := 4000000 }) only [go_sem, Nat.reduceEqDiff, Nat.reduceAdd, Nat.reduceMul, Nat.reduceSub, Nat.reduceLT, Nat.reduceLeDiff, reduceIte, reduceCtorEq, Int.reduceToNat, Int.reduceLE, Int.reduceLT, Int.reduceEq, Int.reduceGT, Int.reduceGE, Int.reduceAdd, Int.reduceSub, Int.reduceNeg, Int.reduceMul, ↓bT, ↓bF, ↓backK_top, ↓backK_int, ↓backK_bool, ↓backK_sl, ↓backK_fn, ↓backK_agg, ↓backK_tup, ↓backK_pel, ↓backK_osl, ↓backK_may, ↓backK_box, ↓bothTT, ↓bothTF, ↓bothFT, ↓bothFF, bothTT, bothTF, bothFT, bothFF, ↓bothTT, ↓bothTF, ↓bothFT, ↓bothFF, ↓bothNT, ↓bothNF, ↓bothCT, ↓bothCF, Try.f81]
  rfl

end Go.Proofs.Ytdaemhaecjldaaa

/- Contracts: valid actions, stores by the reference, valid blocks. -/
set_option linter.unusedSimpArgs false
set_option linter.unusedVariables false
set_option maxRecDepth 20000
set_option maxHeartbeats 2000000
namespace Go.Proofs.Ytdaemhaecjldaaa
open Go Go.RowKit

/-- An action's own kind fits. -/
def kindOk (a : Action) : Bool :=
  if a.kind == 1 || a.kind == 6 then a.to == 0 else if a.kind == 3 || a.kind == 4 || a.kind == 5 then a.amount == 0 else a.kind == 2

def actionValid (a : Action) : Bool := inB a.fr 0 31 && inB a.to 0 31 && inB a.amount 0 1000000 && kindOk a

theorem c_impl_ActionValid (a : Action) : Det Try.prog 148 [.agg (encA a)] (.bool (actionValid a)) := by
  refine fspec_det tab_ok Try.call148 Try.func148 rfl 37 Try.ntmps148 (of_decide_eq_true rfl) fun B => codeK_sound tab_ok _ _ _ ?_
  unfold encA
  simp (config := { maxSteps := 4000000 }) only [go_sem, Nat.reduceEqDiff, Nat.reduceAdd, Nat.reduceMul, Nat.reduceSub, Nat.reduceLT, Nat.reduceLeDiff, reduceIte, reduceCtorEq, Int.reduceToNat, Int.reduceLE, Int.reduceLT, Int.reduceEq, Int.reduceGT, Int.reduceGE, Int.reduceAdd, Int.reduceSub, Int.reduceNeg, Int.reduceMul, ↓bT, ↓bF, ↓backK_top, ↓backK_int, ↓backK_bool, ↓backK_sl, ↓backK_fn, ↓backK_agg, ↓backK_tup, ↓backK_pel, ↓backK_osl, ↓backK_may, ↓backK_box, ↓bothTT, ↓bothTF, ↓bothFT, ↓bothFF, bothTT, bothTF, bothFT, bothFF, ↓bothTT, ↓bothTF, ↓bothFT, ↓bothFF, ↓bothNT, ↓bothNF, ↓bothCT, ↓bothCF, Try.f148]
  refine CallTo.det (c_impl_isKey _) fun _ => ?_
  cases hc1 : inB a.fr 0 31
  · (try simp (config := { maxSteps := 4000000 }) only [go_sem, Nat.reduceEqDiff, Nat.reduceAdd, Nat.reduceMul, Nat.reduceSub, Nat.reduceLT, Nat.reduceLeDiff, reduceIte, reduceCtorEq, Int.reduceToNat, Int.reduceLE, Int.reduceLT, Int.reduceEq, Int.reduceGT, Int.reduceGE, Int.reduceAdd, Int.reduceSub, Int.reduceNeg, Int.reduceMul, ↓bT, ↓bF, ↓backK_top, ↓backK_int, ↓backK_bool, ↓backK_sl, ↓backK_fn, ↓backK_agg, ↓backK_tup, ↓backK_pel, ↓backK_osl, ↓backK_may, ↓backK_box, ↓bothTT, ↓bothTF, ↓bothFT, ↓bothFF, bothTT, bothTF, bothFT, bothFF, ↓bothTT, ↓bothTF, ↓bothFT, ↓bothFF, ↓bothNT, ↓bothNF, ↓bothCT, ↓bothCF, Try.f148, actionValid, hc1]) <;> (try rfl)
  (try simp (config := { maxSteps := 4000000 }) only [go_sem, Nat.reduceEqDiff, Nat.reduceAdd, Nat.reduceMul, Nat.reduceSub, Nat.reduceLT, Nat.reduceLeDiff, reduceIte, reduceCtorEq, Int.reduceToNat, Int.reduceLE, Int.reduceLT, Int.reduceEq, Int.reduceGT, Int.reduceGE, Int.reduceAdd, Int.reduceSub, Int.reduceNeg, Int.reduceMul, ↓bT, ↓bF, ↓backK_top, ↓backK_int, ↓backK_bool, ↓backK_sl, ↓backK_fn, ↓backK_agg, ↓backK_tup, ↓backK_pel, ↓backK_osl, ↓backK_may, ↓backK_box, ↓bothTT, ↓bothTF, ↓bothFT, ↓bothFF, bothTT, bothTF, bothFT, bothFF, ↓bothTT, ↓bothTF, ↓bothFT, ↓bothFF, ↓bothNT, ↓bothNF, ↓bothCT, ↓bothCF, Try.f148, actionValid, hc1]) <;> (try rfl)
  refine CallTo.det (c_impl_isKey _) fun _ => ?_
  cases hc2 : inB a.to 0 31
  · (try simp (config := { maxSteps := 4000000 }) only [go_sem, Nat.reduceEqDiff, Nat.reduceAdd, Nat.reduceMul, Nat.reduceSub, Nat.reduceLT, Nat.reduceLeDiff, reduceIte, reduceCtorEq, Int.reduceToNat, Int.reduceLE, Int.reduceLT, Int.reduceEq, Int.reduceGT, Int.reduceGE, Int.reduceAdd, Int.reduceSub, Int.reduceNeg, Int.reduceMul, ↓bT, ↓bF, ↓backK_top, ↓backK_int, ↓backK_bool, ↓backK_sl, ↓backK_fn, ↓backK_agg, ↓backK_tup, ↓backK_pel, ↓backK_osl, ↓backK_may, ↓backK_box, ↓bothTT, ↓bothTF, ↓bothFT, ↓bothFF, bothTT, bothTF, bothFT, bothFF, ↓bothTT, ↓bothTF, ↓bothFT, ↓bothFF, ↓bothNT, ↓bothNF, ↓bothCT, ↓bothCF, Try.f148, actionValid, hc1, hc2]) <;> (try rfl)
  (try simp (config := { maxSteps := 4000000 }) only [go_sem, Nat.reduceEqDiff, Nat.reduceAdd, Nat.reduceMul, Nat.reduceSub, Nat.reduceLT, Nat.reduceLeDiff, reduceIte, reduceCtorEq, Int.reduceToNat, Int.reduceLE, Int.reduceLT, Int.reduceEq, Int.reduceGT, Int.reduceGE, Int.reduceAdd, Int.reduceSub, Int.reduceNeg, Int.reduceMul, ↓bT, ↓bF, ↓backK_top, ↓backK_int, ↓backK_bool, ↓backK_sl, ↓backK_fn, ↓backK_agg, ↓backK_tup, ↓backK_pel, ↓backK_osl, ↓backK_may, ↓backK_box, ↓bothTT, ↓bothTF, ↓bothFT, ↓bothFF, bothTT, bothTF, bothFT, bothFF, ↓bothTT, ↓bothTF, ↓bothFT, ↓bothFF, ↓bothNT, ↓bothNF, ↓bothCT, ↓bothCF, Try.f148, actionValid, hc1, hc2]) <;> (try rfl)
  refine CallTo.det (c_impl_isValue _) fun _ => ?_
  cases hc3 : inB a.amount 0 1000000
  · (try simp (config := { maxSteps := 4000000 }) only [go_sem, Nat.reduceEqDiff, Nat.reduceAdd, Nat.reduceMul, Nat.reduceSub, Nat.reduceLT, Nat.reduceLeDiff, reduceIte, reduceCtorEq, Int.reduceToNat, Int.reduceLE, Int.reduceLT, Int.reduceEq, Int.reduceGT, Int.reduceGE, Int.reduceAdd, Int.reduceSub, Int.reduceNeg, Int.reduceMul, ↓bT, ↓bF, ↓backK_top, ↓backK_int, ↓backK_bool, ↓backK_sl, ↓backK_fn, ↓backK_agg, ↓backK_tup, ↓backK_pel, ↓backK_osl, ↓backK_may, ↓backK_box, ↓bothTT, ↓bothTF, ↓bothFT, ↓bothFF, bothTT, bothTF, bothFT, bothFF, ↓bothTT, ↓bothTF, ↓bothFT, ↓bothFF, ↓bothNT, ↓bothNF, ↓bothCT, ↓bothCF, Try.f148, actionValid, hc1, hc2, hc3]) <;> (try rfl)
  (try simp (config := { maxSteps := 4000000 }) only [go_sem, Nat.reduceEqDiff, Nat.reduceAdd, Nat.reduceMul, Nat.reduceSub, Nat.reduceLT, Nat.reduceLeDiff, reduceIte, reduceCtorEq, Int.reduceToNat, Int.reduceLE, Int.reduceLT, Int.reduceEq, Int.reduceGT, Int.reduceGE, Int.reduceAdd, Int.reduceSub, Int.reduceNeg, Int.reduceMul, ↓bT, ↓bF, ↓backK_top, ↓backK_int, ↓backK_bool, ↓backK_sl, ↓backK_fn, ↓backK_agg, ↓backK_tup, ↓backK_pel, ↓backK_osl, ↓backK_may, ↓backK_box, ↓bothTT, ↓bothTF, ↓bothFT, ↓bothFF, bothTT, bothTF, bothFT, bothFF, ↓bothTT, ↓bothTF, ↓bothFT, ↓bothFF, ↓bothNT, ↓bothNF, ↓bothCT, ↓bothCF, Try.f148, actionValid, hc1, hc2, hc3]) <;> (try rfl)
  by_cases k1 : a.kind = 1
  · simp [kindOk, k1]
  · by_cases k6 : a.kind = 6
    · simp [kindOk, k6]
    · by_cases k2 : a.kind = 2
      · simp [kindOk, k2]
      · by_cases k3 : a.kind = 3
        · simp [kindOk, k3]
        · by_cases k4 : a.kind = 4
          · simp [kindOk, k4]
          · by_cases k5 : a.kind = 5
            · simp [kindOk, k5]
            · simp [kindOk, k1, k2, k3, k4, k5, k6]

theorem c_spec_ActionValid (a : Action) : Det Try.prog 109 [.agg (encA a)] (.bool (actionValid a)) := by
  refine fspec_det tab_ok Try.call109 Try.func109 rfl 36 Try.ntmps109 (of_decide_eq_true rfl) fun B => codeK_sound tab_ok _ _ _ ?_
  unfold encA
  simp (config := { maxSteps := 4000000 }) only [go_sem, Nat.reduceEqDiff, Nat.reduceAdd, Nat.reduceMul, Nat.reduceSub, Nat.reduceLT, Nat.reduceLeDiff, reduceIte, reduceCtorEq, Int.reduceToNat, Int.reduceLE, Int.reduceLT, Int.reduceEq, Int.reduceGT, Int.reduceGE, Int.reduceAdd, Int.reduceSub, Int.reduceNeg, Int.reduceMul, ↓bT, ↓bF, ↓backK_top, ↓backK_int, ↓backK_bool, ↓backK_sl, ↓backK_fn, ↓backK_agg, ↓backK_tup, ↓backK_pel, ↓backK_osl, ↓backK_may, ↓backK_box, ↓bothTT, ↓bothTF, ↓bothFT, ↓bothFF, bothTT, bothTF, bothFT, bothFF, ↓bothTT, ↓bothTF, ↓bothFT, ↓bothFF, ↓bothNT, ↓bothNF, ↓bothCT, ↓bothCF, Try.f109]
  refine CallTo.det (c_l1In _ _ _) fun _ => ?_
  cases hc1 : inB a.fr 0 31
  · (try simp (config := { maxSteps := 4000000 }) only [go_sem, Nat.reduceEqDiff, Nat.reduceAdd, Nat.reduceMul, Nat.reduceSub, Nat.reduceLT, Nat.reduceLeDiff, reduceIte, reduceCtorEq, Int.reduceToNat, Int.reduceLE, Int.reduceLT, Int.reduceEq, Int.reduceGT, Int.reduceGE, Int.reduceAdd, Int.reduceSub, Int.reduceNeg, Int.reduceMul, ↓bT, ↓bF, ↓backK_top, ↓backK_int, ↓backK_bool, ↓backK_sl, ↓backK_fn, ↓backK_agg, ↓backK_tup, ↓backK_pel, ↓backK_osl, ↓backK_may, ↓backK_box, ↓bothTT, ↓bothTF, ↓bothFT, ↓bothFF, bothTT, bothTF, bothFT, bothFF, ↓bothTT, ↓bothTF, ↓bothFT, ↓bothFF, ↓bothNT, ↓bothNF, ↓bothCT, ↓bothCF, Try.f109, actionValid, hc1]) <;> (try rfl)
  (try simp (config := { maxSteps := 4000000 }) only [go_sem, Nat.reduceEqDiff, Nat.reduceAdd, Nat.reduceMul, Nat.reduceSub, Nat.reduceLT, Nat.reduceLeDiff, reduceIte, reduceCtorEq, Int.reduceToNat, Int.reduceLE, Int.reduceLT, Int.reduceEq, Int.reduceGT, Int.reduceGE, Int.reduceAdd, Int.reduceSub, Int.reduceNeg, Int.reduceMul, ↓bT, ↓bF, ↓backK_top, ↓backK_int, ↓backK_bool, ↓backK_sl, ↓backK_fn, ↓backK_agg, ↓backK_tup, ↓backK_pel, ↓backK_osl, ↓backK_may, ↓backK_box, ↓bothTT, ↓bothTF, ↓bothFT, ↓bothFF, bothTT, bothTF, bothFT, bothFF, ↓bothTT, ↓bothTF, ↓bothFT, ↓bothFF, ↓bothNT, ↓bothNF, ↓bothCT, ↓bothCF, Try.f109, actionValid, hc1]) <;> (try rfl)
  refine CallTo.det (c_l1In _ _ _) fun _ => ?_
  cases hc2 : inB a.to 0 31
  · (try simp (config := { maxSteps := 4000000 }) only [go_sem, Nat.reduceEqDiff, Nat.reduceAdd, Nat.reduceMul, Nat.reduceSub, Nat.reduceLT, Nat.reduceLeDiff, reduceIte, reduceCtorEq, Int.reduceToNat, Int.reduceLE, Int.reduceLT, Int.reduceEq, Int.reduceGT, Int.reduceGE, Int.reduceAdd, Int.reduceSub, Int.reduceNeg, Int.reduceMul, ↓bT, ↓bF, ↓backK_top, ↓backK_int, ↓backK_bool, ↓backK_sl, ↓backK_fn, ↓backK_agg, ↓backK_tup, ↓backK_pel, ↓backK_osl, ↓backK_may, ↓backK_box, ↓bothTT, ↓bothTF, ↓bothFT, ↓bothFF, bothTT, bothTF, bothFT, bothFF, ↓bothTT, ↓bothTF, ↓bothFT, ↓bothFF, ↓bothNT, ↓bothNF, ↓bothCT, ↓bothCF, Try.f109, actionValid, hc1, hc2]) <;> (try rfl)
  (try simp (config := { maxSteps := 4000000 }) only [go_sem, Nat.reduceEqDiff, Nat.reduceAdd, Nat.reduceMul, Nat.reduceSub, Nat.reduceLT, Nat.reduceLeDiff, reduceIte, reduceCtorEq, Int.reduceToNat, Int.reduceLE, Int.reduceLT, Int.reduceEq, Int.reduceGT, Int.reduceGE, Int.reduceAdd, Int.reduceSub, Int.reduceNeg, Int.reduceMul, ↓bT, ↓bF, ↓backK_top, ↓backK_int, ↓backK_bool, ↓backK_sl, ↓backK_fn, ↓backK_agg, ↓backK_tup, ↓backK_pel, ↓backK_osl, ↓backK_may, ↓backK_box, ↓bothTT, ↓bothTF, ↓bothFT, ↓bothFF, bothTT, bothTF, bothFT, bothFF, ↓bothTT, ↓bothTF, ↓bothFT, ↓bothFF, ↓bothNT, ↓bothNF, ↓bothCT, ↓bothCF, Try.f109, actionValid, hc1, hc2]) <;> (try rfl)
  refine CallTo.det (c_l1In _ _ _) fun _ => ?_
  cases hc3 : inB a.amount 0 1000000
  · (try simp (config := { maxSteps := 4000000 }) only [go_sem, Nat.reduceEqDiff, Nat.reduceAdd, Nat.reduceMul, Nat.reduceSub, Nat.reduceLT, Nat.reduceLeDiff, reduceIte, reduceCtorEq, Int.reduceToNat, Int.reduceLE, Int.reduceLT, Int.reduceEq, Int.reduceGT, Int.reduceGE, Int.reduceAdd, Int.reduceSub, Int.reduceNeg, Int.reduceMul, ↓bT, ↓bF, ↓backK_top, ↓backK_int, ↓backK_bool, ↓backK_sl, ↓backK_fn, ↓backK_agg, ↓backK_tup, ↓backK_pel, ↓backK_osl, ↓backK_may, ↓backK_box, ↓bothTT, ↓bothTF, ↓bothFT, ↓bothFF, bothTT, bothTF, bothFT, bothFF, ↓bothTT, ↓bothTF, ↓bothFT, ↓bothFF, ↓bothNT, ↓bothNF, ↓bothCT, ↓bothCF, Try.f109, actionValid, hc1, hc2, hc3]) <;> (try rfl)
  (try simp (config := { maxSteps := 4000000 }) only [go_sem, Nat.reduceEqDiff, Nat.reduceAdd, Nat.reduceMul, Nat.reduceSub, Nat.reduceLT, Nat.reduceLeDiff, reduceIte, reduceCtorEq, Int.reduceToNat, Int.reduceLE, Int.reduceLT, Int.reduceEq, Int.reduceGT, Int.reduceGE, Int.reduceAdd, Int.reduceSub, Int.reduceNeg, Int.reduceMul, ↓bT, ↓bF, ↓backK_top, ↓backK_int, ↓backK_bool, ↓backK_sl, ↓backK_fn, ↓backK_agg, ↓backK_tup, ↓backK_pel, ↓backK_osl, ↓backK_may, ↓backK_box, ↓bothTT, ↓bothTF, ↓bothFT, ↓bothFF, bothTT, bothTF, bothFT, bothFF, ↓bothTT, ↓bothTF, ↓bothFT, ↓bothFF, ↓bothNT, ↓bothNF, ↓bothCT, ↓bothCF, Try.f109, actionValid, hc1, hc2, hc3]) <;> (try rfl)
  by_cases k1 : a.kind = 1
  · simp [kindOk, k1]
  · by_cases k6 : a.kind = 6
    · simp [kindOk, k6]
    · by_cases k2 : a.kind = 2
      · simp [kindOk, k2]
      · by_cases k3 : a.kind = 3
        · simp [kindOk, k3]
        · by_cases k4 : a.kind = 4
          · simp [kindOk, k4]
          · by_cases k5 : a.kind = 5
            · simp [kindOk, k5]
            · simp [kindOk, k1, k2, k3, k4, k5, k6]

theorem c_slices_IndexFunc_Action (n1 : Option Bool) (xs : List Action) (k : FuncId) (p : Action → Bool) (hx : xs.length < 2 ^ 62) (hp : ∀ x, x ∈ xs → Det Try.prog k [.agg (encA x)] (.bool (p x))) :
    Det Try.prog 180 [.sl n1 (rows encA xs), .fn k []] (.int .i64 (idxF p xs 0)) := by
  refine fspec_det tab_ok Try.call180 Try.func180 rfl 19 Try.ntmps180 (of_decide_eq_true rfl) fun B => codeK_sound tab_ok _ _ _ ?_
  simp (config := { maxSteps := 4000000 }) only [go_sem, Nat.reduceEqDiff, Nat.reduceAdd, Nat.reduceMul, Nat.reduceSub, Nat.reduceLT, Nat.reduceLeDiff, reduceIte, reduceCtorEq, Int.reduceToNat, Int.reduceLE, Int.reduceLT, Int.reduceEq, Int.reduceGT, Int.reduceGE, Int.reduceAdd, Int.reduceSub, Int.reduceNeg, Int.reduceMul, ↓bT, ↓bF, ↓backK_top, ↓backK_int, ↓backK_bool, ↓backK_sl, ↓backK_fn, ↓backK_agg, ↓backK_tup, ↓backK_pel, ↓backK_osl, ↓backK_may, ↓backK_box, ↓bothTT, ↓bothTF, ↓bothFT, ↓bothFF, bothTT, bothTF, bothFT, bothFF, ↓bothTT, ↓bothTF, ↓bothFT, ↓bothFF, ↓bothNT, ↓bothNF, ↓bothCT, ↓bothCF, Try.f180, rows_length]
  refine semL_for tab_ok (fun i : Nat => ⟨19, [(0, .sl n1 (rows encA xs)), (1, .fn k []), (7, .int .i64 xs.length), (8, .int .i64 i)], []⟩) (fun i => xs.length - i)
    (fun i => i ≤ xs.length ∧ idxF p (xs.drop i) i = idxF p xs 0) 0 [] (Weak.of rfl trivial ?_ rfl) ⟨by omega, rfl⟩ ?_
  · simp (config := { maxSteps := 4000000 }) only [go_sem, Nat.reduceEqDiff, Nat.reduceAdd, Nat.reduceMul, Nat.reduceSub, Nat.reduceLT, Nat.reduceLeDiff, reduceIte, reduceCtorEq, Int.reduceToNat, Int.reduceLE, Int.reduceLT, Int.reduceEq, Int.reduceGT, Int.reduceGE, Int.reduceAdd, Int.reduceSub, Int.reduceNeg, Int.reduceMul, ↓bT, ↓bF, ↓backK_top, ↓backK_int, ↓backK_bool, ↓backK_sl, ↓backK_fn, ↓backK_agg, ↓backK_tup, ↓backK_pel, ↓backK_osl, ↓backK_may, ↓backK_box, ↓bothTT, ↓bothTF, ↓bothFT, ↓bothFF, bothTT, bothTF, bothFT, bothFF, ↓bothTT, ↓bothTF, ↓bothFT, ↓bothFF, ↓bothNT, ↓bothNF, ↓bothCT, ↓bothCF, Try.f180, frW, wk2, wk1, wkL, wkB, hpW, List.mem_cons, Prod.mk.injEq, exists_eq_left, exists_eq_right, exists_eq]
  · rintro i ⟨hi, hp'⟩
    by_cases h : i < xs.length
    · simp (config := { maxSteps := 4000000 }) only [go_sem, Nat.reduceEqDiff, Nat.reduceAdd, Nat.reduceMul, Nat.reduceSub, Nat.reduceLT, Nat.reduceLeDiff, reduceIte, reduceCtorEq, Int.reduceToNat, Int.reduceLE, Int.reduceLT, Int.reduceEq, Int.reduceGT, Int.reduceGE, Int.reduceAdd, Int.reduceSub, Int.reduceNeg, Int.reduceMul, ↓bT, ↓bF, ↓backK_top, ↓backK_int, ↓backK_bool, ↓backK_sl, ↓backK_fn, ↓backK_agg, ↓backK_tup, ↓backK_pel, ↓backK_osl, ↓backK_may, ↓backK_box, ↓bothTT, ↓bothTF, ↓bothFT, ↓bothFF, bothTT, bothTF, bothFT, bothFF, ↓bothTT, ↓bothTF, ↓bothFT, ↓bothFF, ↓bothNT, ↓bothNF, ↓bothCT, ↓bothCF, Try.f180, rows_length, rows_get _ _ _ h, encA, nlt h, nn0]
      refine CallTo.det (hp _ (List.getElem_mem h)) fun _ => ?_
      rw [drop_cons xs i h] at hp'
      simp (config := { maxSteps := 4000000 }) only [go_sem, Nat.reduceEqDiff, Nat.reduceAdd, Nat.reduceMul, Nat.reduceSub, Nat.reduceLT, Nat.reduceLeDiff, reduceIte, reduceCtorEq, Int.reduceToNat, Int.reduceLE, Int.reduceLT, Int.reduceEq, Int.reduceGT, Int.reduceGE, Int.reduceAdd, Int.reduceSub, Int.reduceNeg, Int.reduceMul, ↓bT, ↓bF, ↓backK_top, ↓backK_int, ↓backK_bool, ↓backK_sl, ↓backK_fn, ↓backK_agg, ↓backK_tup, ↓backK_pel, ↓backK_osl, ↓backK_may, ↓backK_box, ↓bothTT, ↓bothTF, ↓bothFT, ↓bothFF, bothTT, bothTF, bothFT, bothFF, ↓bothTT, ↓bothTF, ↓bothFT, ↓bothFF, ↓bothNT, ↓bothNF, ↓bothCT, ↓bothCF, Try.f180, rows_length, rows_get _ _ _ h, encA, nlt h]
      refine ⟨fun h => ?_, fun h' => ?_⟩
      · rw [← hp']; simp [idxF, h]
      · refine ⟨i + 1, [], ⟨by omega, ?_⟩, by dsimp only; omega, Weak.of rfl trivial ?_ rfl⟩
        · rw [← hp']; simp [idxF, h']
        · simp (config := { maxSteps := 4000000 }) only [go_sem, Nat.reduceEqDiff, Nat.reduceAdd, Nat.reduceMul, Nat.reduceSub, Nat.reduceLT, Nat.reduceLeDiff, reduceIte, reduceCtorEq, Int.reduceToNat, Int.reduceLE, Int.reduceLT, Int.reduceEq, Int.reduceGT, Int.reduceGE, Int.reduceAdd, Int.reduceSub, Int.reduceNeg, Int.reduceMul, ↓bT, ↓bF, ↓backK_top, ↓backK_int, ↓backK_bool, ↓backK_sl, ↓backK_fn, ↓backK_agg, ↓backK_tup, ↓backK_pel, ↓backK_osl, ↓backK_may, ↓backK_box, ↓bothTT, ↓bothTF, ↓bothFT, ↓bothFF, bothTT, bothTF, bothFT, bothFF, ↓bothTT, ↓bothTF, ↓bothFT, ↓bothFF, ↓bothNT, ↓bothNF, ↓bothCT, ↓bothCF, Try.f180, wsucc h hx, frW, wk2, wk1, wkL, wkB, hpW, List.mem_cons, Prod.mk.injEq, exists_eq_left, exists_eq_right, exists_eq]
    · have : i = xs.length := by omega
      subst this
      rw [List.drop_length] at hp'
      simp (config := { maxSteps := 4000000 }) only [go_sem, Nat.reduceEqDiff, Nat.reduceAdd, Nat.reduceMul, Nat.reduceSub, Nat.reduceLT, Nat.reduceLeDiff, reduceIte, reduceCtorEq, Int.reduceToNat, Int.reduceLE, Int.reduceLT, Int.reduceEq, Int.reduceGT, Int.reduceGE, Int.reduceAdd, Int.reduceSub, Int.reduceNeg, Int.reduceMul, ↓bT, ↓bF, ↓backK_top, ↓backK_int, ↓backK_bool, ↓backK_sl, ↓backK_fn, ↓backK_agg, ↓backK_tup, ↓backK_pel, ↓backK_osl, ↓backK_may, ↓backK_box, ↓bothTT, ↓bothTF, ↓bothFT, ↓bothFF, bothTT, bothTF, bothFT, bothFF, ↓bothTT, ↓bothTF, ↓bothFT, ↓bothFF, ↓bothNT, ↓bothNF, ↓bothCT, ↓bothCF, Try.f180, nlf h]
      rw [← hp']
      rfl

theorem c_slices_ContainsFunc_Action (n1 : Option Bool) (xs : List Action) (k : FuncId) (p : Action → Bool) (hx : xs.length < 2 ^ 62) (hp : ∀ x, x ∈ xs → Det Try.prog k [.agg (encA x)] (.bool (p x))) :
    Det Try.prog 146 [.sl n1 (rows encA xs), .fn k []] (.bool (xs.any p)) := by
  refine fspec_det tab_ok Try.call146 Try.func146 rfl 9 Try.ntmps146 (of_decide_eq_true rfl) fun B => codeK_sound tab_ok _ _ _ ?_
  simp (config := { maxSteps := 4000000 }) only [go_sem, Nat.reduceEqDiff, Nat.reduceAdd, Nat.reduceMul, Nat.reduceSub, Nat.reduceLT, Nat.reduceLeDiff, reduceIte, reduceCtorEq, Int.reduceToNat, Int.reduceLE, Int.reduceLT, Int.reduceEq, Int.reduceGT, Int.reduceGE, Int.reduceAdd, Int.reduceSub, Int.reduceNeg, Int.reduceMul, ↓bT, ↓bF, ↓backK_top, ↓backK_int, ↓backK_bool, ↓backK_sl, ↓backK_fn, ↓backK_agg, ↓backK_tup, ↓backK_pel, ↓backK_osl, ↓backK_may, ↓backK_box, ↓bothTT, ↓bothTF, ↓bothFT, ↓bothFF, bothTT, bothTF, bothFT, bothFF, ↓bothTT, ↓bothTF, ↓bothFT, ↓bothFF, ↓bothNT, ↓bothNF, ↓bothCT, ↓bothCF, Try.f146]
  refine CallTo.det (c_slices_IndexFunc_Action _ _ _ _ hx hp) fun _ => ?_
  simp (config := { maxSteps := 4000000 }) only [go_sem, Nat.reduceEqDiff, Nat.reduceAdd, Nat.reduceMul, Nat.reduceSub, Nat.reduceLT, Nat.reduceLeDiff, reduceIte, reduceCtorEq, Int.reduceToNat, Int.reduceLE, Int.reduceLT, Int.reduceEq, Int.reduceGT, Int.reduceGE, Int.reduceAdd, Int.reduceSub, Int.reduceNeg, Int.reduceMul, ↓bT, ↓bF, ↓backK_top, ↓backK_int, ↓backK_bool, ↓backK_sl, ↓backK_fn, ↓backK_agg, ↓backK_tup, ↓backK_pel, ↓backK_osl, ↓backK_may, ↓backK_box, ↓bothTT, ↓bothTF, ↓bothFT, ↓bothFF, bothTT, bothTF, bothFT, bothFF, ↓bothTT, ↓bothTF, ↓bothFT, ↓bothFF, ↓bothNT, ↓bothNF, ↓bothCT, ↓bothCF, Try.f146, idxF_any]


theorem c_impl_ActionsValid1 (a : Action) : Det Try.prog 147 [.agg (encA a)] (.bool (!actionValid a)) := by
  refine fspec_det tab_ok Try.call147 Try.func147 rfl 6 Try.ntmps147 (of_decide_eq_true rfl) fun B => codeK_sound tab_ok _ _ _ ?_
  unfold encA
  simp (config := { maxSteps := 4000000 }) only [go_sem, Nat.reduceEqDiff, Nat.reduceAdd, Nat.reduceMul, Nat.reduceSub, Nat.reduceLT, Nat.reduceLeDiff, reduceIte, reduceCtorEq, Int.reduceToNat, Int.reduceLE, Int.reduceLT, Int.reduceEq, Int.reduceGT, Int.reduceGE, Int.reduceAdd, Int.reduceSub, Int.reduceNeg, Int.reduceMul, ↓bT, ↓bF, ↓backK_top, ↓backK_int, ↓backK_bool, ↓backK_sl, ↓backK_fn, ↓backK_agg, ↓backK_tup, ↓backK_pel, ↓backK_osl, ↓backK_may, ↓backK_box, ↓bothTT, ↓bothTF, ↓bothFT, ↓bothFF, bothTT, bothTF, bothFT, bothFF, ↓bothTT, ↓bothTF, ↓bothFT, ↓bothFF, ↓bothNT, ↓bothNF, ↓bothCT, ↓bothCF, Try.f147]
  refine CallTo.det (c_impl_ActionValid a) fun _ => ?_
  simp (config := { maxSteps := 4000000 }) only [go_sem, Nat.reduceEqDiff, Nat.reduceAdd, Nat.reduceMul, Nat.reduceSub, Nat.reduceLT, Nat.reduceLeDiff, reduceIte, reduceCtorEq, Int.reduceToNat, Int.reduceLE, Int.reduceLT, Int.reduceEq, Int.reduceGT, Int.reduceGE, Int.reduceAdd, Int.reduceSub, Int.reduceNeg, Int.reduceMul, ↓bT, ↓bF, ↓backK_top, ↓backK_int, ↓backK_bool, ↓backK_sl, ↓backK_fn, ↓backK_agg, ↓backK_tup, ↓backK_pel, ↓backK_osl, ↓backK_may, ↓backK_box, ↓bothTT, ↓bothTF, ↓bothFT, ↓bothFF, bothTT, bothTF, bothFT, bothFF, ↓bothTT, ↓bothTF, ↓bothFT, ↓bothFF, ↓bothNT, ↓bothNF, ↓bothCT, ↓bothCF, Try.f147]

def actionsValid (l : List Action) : Bool := decide (l.length ≤ 10) && l.all actionValid

theorem c_impl_ActionsValid (n1 : Option Bool) (xs : List Action) (hx : xs.length < 2 ^ 62) : Det Try.prog 82 [.sl n1 (rows encA xs)] (.bool (actionsValid xs)) := by
  have hc : Det Try.prog 146 [.sl n1 (rows encA xs), .fn 147 []] (.bool (!xs.all actionValid)) := by
    have := c_slices_ContainsFunc_Action n1 xs 147 (fun x => !actionValid x) hx (fun x _ => c_impl_ActionsValid1 x)
    rwa [any_not] at this
  have he : decide ((xs.length : Int) ≤ 10) = decide (xs.length ≤ 10) := by simp; omega
  refine fspec_det tab_ok Try.call82 Try.func82 rfl 11 Try.ntmps82 (of_decide_eq_true rfl) fun B => codeK_sound tab_ok _ _ _ ?_
  cases h1 : decide (xs.length ≤ 10) with
  | false => simp (config := { maxSteps := 4000000 }) only [go_sem, Nat.reduceEqDiff, Nat.reduceAdd, Nat.reduceMul, Nat.reduceSub, Nat.reduceLT, Nat.reduceLeDiff, reduceIte, reduceCtorEq, Int.reduceToNat, Int.reduceLE, Int.reduceLT, Int.reduceEq, Int.reduceGT, Int.reduceGE, Int.reduceAdd, Int.reduceSub, Int.reduceNeg, Int.reduceMul, ↓bT, ↓bF, ↓backK_top, ↓backK_int, ↓backK_bool, ↓backK_sl, ↓backK_fn, ↓backK_agg, ↓backK_tup, ↓backK_pel, ↓backK_osl, ↓backK_may, ↓backK_box, ↓bothTT, ↓bothTF, ↓bothFT, ↓bothFF, bothTT, bothTF, bothFT, bothFF, ↓bothTT, ↓bothTF, ↓bothFT, ↓bothFF, ↓bothNT, ↓bothNF, ↓bothCT, ↓bothCF, Try.f82, rows_length, he, h1, actionsValid]
  | true =>
    simp (config := { maxSteps := 4000000 }) only [go_sem, Nat.reduceEqDiff, Nat.reduceAdd, Nat.reduceMul, Nat.reduceSub, Nat.reduceLT, Nat.reduceLeDiff, reduceIte, reduceCtorEq, Int.reduceToNat, Int.reduceLE, Int.reduceLT, Int.reduceEq, Int.reduceGT, Int.reduceGE, Int.reduceAdd, Int.reduceSub, Int.reduceNeg, Int.reduceMul, ↓bT, ↓bF, ↓backK_top, ↓backK_int, ↓backK_bool, ↓backK_sl, ↓backK_fn, ↓backK_agg, ↓backK_tup, ↓backK_pel, ↓backK_osl, ↓backK_may, ↓backK_box, ↓bothTT, ↓bothTF, ↓bothFT, ↓bothFF, bothTT, bothTF, bothFT, bothFF, ↓bothTT, ↓bothTF, ↓bothFT, ↓bothFF, ↓bothNT, ↓bothNF, ↓bothCT, ↓bothCF, Try.f82, rows_length, he, h1, actionsValid]
    refine CallTo.det hc fun _ => ?_
    simp (config := { maxSteps := 4000000 }) only [go_sem, Nat.reduceEqDiff, Nat.reduceAdd, Nat.reduceMul, Nat.reduceSub, Nat.reduceLT, Nat.reduceLeDiff, reduceIte, reduceCtorEq, Int.reduceToNat, Int.reduceLE, Int.reduceLT, Int.reduceEq, Int.reduceGT, Int.reduceGE, Int.reduceAdd, Int.reduceSub, Int.reduceNeg, Int.reduceMul, ↓bT, ↓bF, ↓backK_top, ↓backK_int, ↓backK_bool, ↓backK_sl, ↓backK_fn, ↓backK_agg, ↓backK_tup, ↓backK_pel, ↓backK_osl, ↓backK_may, ↓backK_box, ↓bothTT, ↓bothTF, ↓bothFT, ↓bothFF, bothTT, bothTF, bothFT, bothFF, ↓bothTT, ↓bothTF, ↓bothFT, ↓bothFF, ↓bothNT, ↓bothNF, ↓bothCT, ↓bothCF, Try.f82, rows_length, he, h1, actionsValid, Bool.not_not]

theorem c_spec_ActionsValid (n1 : Option Bool) (xs : List Action) (hx : xs.length < 2 ^ 62) : Det Try.prog 44 [.sl n1 (rows encA xs)] (.bool (actionsValid xs)) := by
  refine fspec_det tab_ok Try.call44 Try.func44 rfl 19 Try.ntmps44 (of_decide_eq_true rfl) fun B => codeK_sound tab_ok _ _ _ ?_
  simp (config := { maxSteps := 4000000 }) only [go_sem, Nat.reduceEqDiff, Nat.reduceAdd, Nat.reduceMul, Nat.reduceSub, Nat.reduceLT, Nat.reduceLeDiff, reduceIte, reduceCtorEq, Int.reduceToNat, Int.reduceLE, Int.reduceLT, Int.reduceEq, Int.reduceGT, Int.reduceGE, Int.reduceAdd, Int.reduceSub, Int.reduceNeg, Int.reduceMul, ↓bT, ↓bF, ↓backK_top, ↓backK_int, ↓backK_bool, ↓backK_sl, ↓backK_fn, ↓backK_agg, ↓backK_tup, ↓backK_pel, ↓backK_osl, ↓backK_may, ↓backK_box, ↓bothTT, ↓bothTF, ↓bothFT, ↓bothFF, bothTT, bothTF, bothFT, bothFF, ↓bothTT, ↓bothTF, ↓bothFT, ↓bothFF, ↓bothNT, ↓bothNF, ↓bothCT, ↓bothCF, Try.f44, rows_length]
  refine semL_for tab_ok (fun i : Nat => ⟨19, [(0, .sl n1 (rows encA xs)), (3, .int .i64 i)], []⟩) (fun i => xs.length - i)
    (fun i => i ≤ xs.length ∧ (xs.drop i).all actionValid = xs.all actionValid) 0 [] (Weak.of rfl trivial ?_ rfl) ⟨by omega, rfl⟩ ?_
  · simp (config := { maxSteps := 4000000 }) only [go_sem, Nat.reduceEqDiff, Nat.reduceAdd, Nat.reduceMul, Nat.reduceSub, Nat.reduceLT, Nat.reduceLeDiff, reduceIte, reduceCtorEq, Int.reduceToNat, Int.reduceLE, Int.reduceLT, Int.reduceEq, Int.reduceGT, Int.reduceGE, Int.reduceAdd, Int.reduceSub, Int.reduceNeg, Int.reduceMul, ↓bT, ↓bF, ↓backK_top, ↓backK_int, ↓backK_bool, ↓backK_sl, ↓backK_fn, ↓backK_agg, ↓backK_tup, ↓backK_pel, ↓backK_osl, ↓backK_may, ↓backK_box, ↓bothTT, ↓bothTF, ↓bothFT, ↓bothFF, bothTT, bothTF, bothFT, bothFF, ↓bothTT, ↓bothTF, ↓bothFT, ↓bothFF, ↓bothNT, ↓bothNF, ↓bothCT, ↓bothCF, Try.f44, frW, wk2, wk1, wkL, wkB, hpW, List.mem_cons, Prod.mk.injEq, exists_eq_left, exists_eq_right, exists_eq]
  · rintro i ⟨hi, hp⟩
    by_cases h : i < xs.length
    · rw [drop_cons xs i h, List.all_cons] at hp
      simp (config := { maxSteps := 4000000 }) only [go_sem, Nat.reduceEqDiff, Nat.reduceAdd, Nat.reduceMul, Nat.reduceSub, Nat.reduceLT, Nat.reduceLeDiff, reduceIte, reduceCtorEq, Int.reduceToNat, Int.reduceLE, Int.reduceLT, Int.reduceEq, Int.reduceGT, Int.reduceGE, Int.reduceAdd, Int.reduceSub, Int.reduceNeg, Int.reduceMul, ↓bT, ↓bF, ↓backK_top, ↓backK_int, ↓backK_bool, ↓backK_sl, ↓backK_fn, ↓backK_agg, ↓backK_tup, ↓backK_pel, ↓backK_osl, ↓backK_may, ↓backK_box, ↓bothTT, ↓bothTF, ↓bothFT, ↓bothFF, bothTT, bothTF, bothFT, bothFF, ↓bothTT, ↓bothTF, ↓bothFT, ↓bothFF, ↓bothNT, ↓bothNF, ↓bothCT, ↓bothCF, Try.f44, rows_length, rows_get _ _ _ h, encA, nlt h, nn0]
      refine CallTo.det (c_spec_ActionValid xs[i]) fun _ => ?_
      cases h1 : actionValid xs[i] with
      | false =>
        rw [h1, Bool.false_and] at hp
        simp (config := { maxSteps := 4000000 }) only [go_sem, Nat.reduceEqDiff, Nat.reduceAdd, Nat.reduceMul, Nat.reduceSub, Nat.reduceLT, Nat.reduceLeDiff, reduceIte, reduceCtorEq, Int.reduceToNat, Int.reduceLE, Int.reduceLT, Int.reduceEq, Int.reduceGT, Int.reduceGE, Int.reduceAdd, Int.reduceSub, Int.reduceNeg, Int.reduceMul, ↓bT, ↓bF, ↓backK_top, ↓backK_int, ↓backK_bool, ↓backK_sl, ↓backK_fn, ↓backK_agg, ↓backK_tup, ↓backK_pel, ↓backK_osl, ↓backK_may, ↓backK_box, ↓bothTT, ↓bothTF, ↓bothFT, ↓bothFF, bothTT, bothTF, bothFT, bothFF, ↓bothTT, ↓bothTF, ↓bothFT, ↓bothFF, ↓bothNT, ↓bothNF, ↓bothCT, ↓bothCF, Try.f44, rows_length, rows_get _ _ _ h, encA, nlt h, nn0, h1, actionsValid, ← hp]
      | true =>
        rw [h1, Bool.true_and] at hp
        simp (config := { maxSteps := 4000000 }) only [go_sem, Nat.reduceEqDiff, Nat.reduceAdd, Nat.reduceMul, Nat.reduceSub, Nat.reduceLT, Nat.reduceLeDiff, reduceIte, reduceCtorEq, Int.reduceToNat, Int.reduceLE, Int.reduceLT, Int.reduceEq, Int.reduceGT, Int.reduceGE, Int.reduceAdd, Int.reduceSub, Int.reduceNeg, Int.reduceMul, ↓bT, ↓bF, ↓backK_top, ↓backK_int, ↓backK_bool, ↓backK_sl, ↓backK_fn, ↓backK_agg, ↓backK_tup, ↓backK_pel, ↓backK_osl, ↓backK_may, ↓backK_box, ↓bothTT, ↓bothTF, ↓bothFT, ↓bothFF, bothTT, bothTF, bothFT, bothFF, ↓bothTT, ↓bothTF, ↓bothFT, ↓bothFF, ↓bothNT, ↓bothNF, ↓bothCT, ↓bothCF, Try.f44, rows_length, rows_get _ _ _ h, encA, nlt h, nn0, h1, wsucc h hx]
        refine ⟨i + 1, [], ⟨by omega, hp⟩, by dsimp only; omega, Weak.of rfl trivial ?_ rfl⟩
        simp (config := { maxSteps := 4000000 }) only [go_sem, Nat.reduceEqDiff, Nat.reduceAdd, Nat.reduceMul, Nat.reduceSub, Nat.reduceLT, Nat.reduceLeDiff, reduceIte, reduceCtorEq, Int.reduceToNat, Int.reduceLE, Int.reduceLT, Int.reduceEq, Int.reduceGT, Int.reduceGE, Int.reduceAdd, Int.reduceSub, Int.reduceNeg, Int.reduceMul, ↓bT, ↓bF, ↓backK_top, ↓backK_int, ↓backK_bool, ↓backK_sl, ↓backK_fn, ↓backK_agg, ↓backK_tup, ↓backK_pel, ↓backK_osl, ↓backK_may, ↓backK_box, ↓bothTT, ↓bothTF, ↓bothFT, ↓bothFF, bothTT, bothTF, bothFT, bothFF, ↓bothTT, ↓bothTF, ↓bothFT, ↓bothFF, ↓bothNT, ↓bothNF, ↓bothCT, ↓bothCF, Try.f44, frW, wk2, wk1, wkL, wkB, hpW, List.mem_cons, Prod.mk.injEq, exists_eq_left, exists_eq_right, exists_eq]
    · have : i = xs.length := by omega
      subst this
      simp only [List.drop_length, List.all_nil] at hp
      have he : decide ((xs.length : Int) ≤ 10) = decide (xs.length ≤ 10) := by simp; omega
      simp (config := { maxSteps := 4000000 }) only [go_sem, Nat.reduceEqDiff, Nat.reduceAdd, Nat.reduceMul, Nat.reduceSub, Nat.reduceLT, Nat.reduceLeDiff, reduceIte, reduceCtorEq, Int.reduceToNat, Int.reduceLE, Int.reduceLT, Int.reduceEq, Int.reduceGT, Int.reduceGE, Int.reduceAdd, Int.reduceSub, Int.reduceNeg, Int.reduceMul, ↓bT, ↓bF, ↓backK_top, ↓backK_int, ↓backK_bool, ↓backK_sl, ↓backK_fn, ↓backK_agg, ↓backK_tup, ↓backK_pel, ↓backK_osl, ↓backK_may, ↓backK_box, ↓bothTT, ↓bothTF, ↓bothFT, ↓bothFF, bothTT, bothTF, bothFT, bothFF, ↓bothTT, ↓bothTF, ↓bothFT, ↓bothFF, ↓bothNT, ↓bothNF, ↓bothCT, ↓bothCF, Try.f44, rows_length, nlf h, he, actionsValid, ← hp]

end Go.Proofs.Ytdaemhaecjldaaa

/- Contracts: stores by the reference, valid blocks. -/
set_option linter.unusedSimpArgs false
set_option linter.unusedVariables false
set_option maxRecDepth 20000
set_option maxHeartbeats 2000000
namespace Go.Proofs.Ytdaemhaecjldaaa
open Go Go.RowKit

theorem c_spec_StoreValid (n1 : Option Bool) (xs : List Entry) (hx : xs.length < 2 ^ 62) : Det Try.prog 43 [.sl n1 (rows encE xs)] (.bool (storeValid xs)) := by
  refine fspec_det tab_ok Try.call43 Try.func43 rfl 44 Try.ntmps43 (of_decide_eq_true rfl) fun B => codeK_sound tab_ok _ _ _ ?_
  simp (config := { maxSteps := 4000000 }) only [go_sem, Nat.reduceEqDiff, Nat.reduceAdd, Nat.reduceMul, Nat.reduceSub, Nat.reduceLT, Nat.reduceLeDiff, reduceIte, reduceCtorEq, Int.reduceToNat, Int.reduceLE, Int.reduceLT, Int.reduceEq, Int.reduceGT, Int.reduceGE, Int.reduceAdd, Int.reduceSub, Int.reduceNeg, Int.reduceMul, ↓bT, ↓bF, ↓backK_top, ↓backK_int, ↓backK_bool, ↓backK_sl, ↓backK_fn, ↓backK_agg, ↓backK_tup, ↓backK_pel, ↓backK_osl, ↓backK_may, ↓backK_box, ↓bothTT, ↓bothTF, ↓bothFT, ↓bothFF, bothTT, bothTF, bothFT, bothFF, ↓bothTT, ↓bothTF, ↓bothFT, ↓bothFF, ↓bothNT, ↓bothNF, ↓bothCT, ↓bothCF, Try.f43, rows_length]
  refine semL_for tab_ok (fun i : Nat => ⟨44, [(0, .sl n1 (rows encE xs)), (3, .int .i64 i)], []⟩) (fun i => xs.length - i)
    (fun i => i ≤ xs.length ∧ ∃ last : Int, -1 ≤ last ∧ (i = 0 → last = -1) ∧ (∀ j (h : j < xs.length), i = j + 1 → last = xs[j].key) ∧ entOk 1 last (xs.drop i) = storeValid xs) 0 [] (Weak.of rfl trivial ?_ rfl) ⟨by omega, -1, by omega, fun _ => rfl, fun j h hj => by omega, rfl⟩ ?_
  · simp (config := { maxSteps := 4000000 }) only [go_sem, Nat.reduceEqDiff, Nat.reduceAdd, Nat.reduceMul, Nat.reduceSub, Nat.reduceLT, Nat.reduceLeDiff, reduceIte, reduceCtorEq, Int.reduceToNat, Int.reduceLE, Int.reduceLT, Int.reduceEq, Int.reduceGT, Int.reduceGE, Int.reduceAdd, Int.reduceSub, Int.reduceNeg, Int.reduceMul, ↓bT, ↓bF, ↓backK_top, ↓backK_int, ↓backK_bool, ↓backK_sl, ↓backK_fn, ↓backK_agg, ↓backK_tup, ↓backK_pel, ↓backK_osl, ↓backK_may, ↓backK_box, ↓bothTT, ↓bothTF, ↓bothFT, ↓bothFF, bothTT, bothTF, bothFT, bothFF, ↓bothTT, ↓bothTF, ↓bothFT, ↓bothFF, ↓bothNT, ↓bothNF, ↓bothCT, ↓bothCF, Try.f43, frW, wk2, wk1, wkL, wkB, hpW, List.mem_cons, Prod.mk.injEq, exists_eq_left, exists_eq_right, exists_eq]
  · rintro i ⟨hi, last, hl, h0, hs, hp⟩
    by_cases h : i < xs.length
    · rw [drop_cons xs i h] at hp
      simp only [entOk] at hp
      simp (config := { maxSteps := 4000000 }) only [go_sem, Nat.reduceEqDiff, Nat.reduceAdd, Nat.reduceMul, Nat.reduceSub, Nat.reduceLT, Nat.reduceLeDiff, reduceIte, reduceCtorEq, Int.reduceToNat, Int.reduceLE, Int.reduceLT, Int.reduceEq, Int.reduceGT, Int.reduceGE, Int.reduceAdd, Int.reduceSub, Int.reduceNeg, Int.reduceMul, ↓bT, ↓bF, ↓backK_top, ↓backK_int, ↓backK_bool, ↓backK_sl, ↓backK_fn, ↓backK_agg, ↓backK_tup, ↓backK_pel, ↓backK_osl, ↓backK_may, ↓backK_box, ↓bothTT, ↓bothTF, ↓bothFT, ↓bothFF, bothTT, bothTF, bothFT, bothFF, ↓bothTT, ↓bothTF, ↓bothFT, ↓bothFF, ↓bothNT, ↓bothNF, ↓bothCT, ↓bothCF, Try.f43, rows_length, rows_get _ _ _ h, encE, nlt h, nn0]
      refine semL_draw tab_ok mixed_ rfl (ord := [(0, []), (1, []), (2, []), (3, []), (4, []), (5, []), (6, []), (7, []), (8, []), (9, []), (10, []), (11, []), (12, []), (13, []), (14, []), (15, []), (16, []), (17, []), (18, []), (19, []), (20, []), (21, []), (22, []), (23, []), (24, []), (25, []), (26, []), (27, []), (28, []), (29, []), (30, []), (31, []), (32, []), (33, [])]) (by dsimp only; decide +kernel) ?_
      simp (config := { maxSteps := 4000000 }) only [go_sem, Nat.reduceEqDiff, Nat.reduceAdd, Nat.reduceMul, Nat.reduceSub, Nat.reduceLT, Nat.reduceLeDiff, reduceIte, reduceCtorEq, Int.reduceToNat, Int.reduceLE, Int.reduceLT, Int.reduceEq, Int.reduceGT, Int.reduceGE, Int.reduceAdd, Int.reduceSub, Int.reduceNeg, Int.reduceMul, ↓bT, ↓bF, ↓backK_top, ↓backK_int, ↓backK_bool, ↓backK_sl, ↓backK_fn, ↓backK_agg, ↓backK_tup, ↓backK_pel, ↓backK_osl, ↓backK_may, ↓backK_box, ↓bothTT, ↓bothTF, ↓bothFT, ↓bothFF, bothTT, bothTF, bothFT, bothFF, ↓bothTT, ↓bothTF, ↓bothFT, ↓bothFF, ↓bothNT, ↓bothNF, ↓bothCT, ↓bothCF, Try.f43, rows_length, rows_get _ _ _ h, encE, nlt h, nn0]
      refine CallTo.det (c_l1In _ _ _) fun _ => ?_
      cases h1 : inB xs[i].key 0 31 with
      | false =>
        have h1' : inB xs[i].key (last + 1) 31 = false := by
          cases hc : inB xs[i].key (last + 1) 31 with
          | false => rfl
          | true => rw [inB_iff] at hc; rw [inB_iff.2 ⟨by omega, hc.2⟩] at h1; exact h1
        rw [h1', Bool.false_and, Bool.false_and] at hp
        simp (config := { maxSteps := 4000000 }) only [go_sem, Nat.reduceEqDiff, Nat.reduceAdd, Nat.reduceMul, Nat.reduceSub, Nat.reduceLT, Nat.reduceLeDiff, reduceIte, reduceCtorEq, Int.reduceToNat, Int.reduceLE, Int.reduceLT, Int.reduceEq, Int.reduceGT, Int.reduceGE, Int.reduceAdd, Int.reduceSub, Int.reduceNeg, Int.reduceMul, ↓bT, ↓bF, ↓backK_top, ↓backK_int, ↓backK_bool, ↓backK_sl, ↓backK_fn, ↓backK_agg, ↓backK_tup, ↓backK_pel, ↓backK_osl, ↓backK_may, ↓backK_box, ↓bothTT, ↓bothTF, ↓bothFT, ↓bothFF, bothTT, bothTF, bothFT, bothFF, ↓bothTT, ↓bothTF, ↓bothFT, ↓bothFF, ↓bothNT, ↓bothNF, ↓bothCT, ↓bothCF, Try.f43, rows_length, rows_get _ _ _ h, encE, nlt h, nn0, h1]
        exact hp.symm
      | true =>
        simp (config := { maxSteps := 4000000 }) only [go_sem, Nat.reduceEqDiff, Nat.reduceAdd, Nat.reduceMul, Nat.reduceSub, Nat.reduceLT, Nat.reduceLeDiff, reduceIte, reduceCtorEq, Int.reduceToNat, Int.reduceLE, Int.reduceLT, Int.reduceEq, Int.reduceGT, Int.reduceGE, Int.reduceAdd, Int.reduceSub, Int.reduceNeg, Int.reduceMul, ↓bT, ↓bF, ↓backK_top, ↓backK_int, ↓backK_bool, ↓backK_sl, ↓backK_fn, ↓backK_agg, ↓backK_tup, ↓backK_pel, ↓backK_osl, ↓backK_may, ↓backK_box, ↓bothTT, ↓bothTF, ↓bothFT, ↓bothFF, bothTT, bothTF, bothFT, bothFF, ↓bothTT, ↓bothTF, ↓bothFT, ↓bothFF, ↓bothNT, ↓bothNF, ↓bothCT, ↓bothCF, Try.f43, rows_length, rows_get _ _ _ h, encE, nlt h, nn0, h1]
        refine CallTo.det (c_l1In _ _ _) fun _ => ?_
        cases h2 : inB xs[i].value 1 1000000 with
        | false =>
          rw [h2, Bool.and_false, Bool.false_and] at hp
          simp (config := { maxSteps := 4000000 }) only [go_sem, Nat.reduceEqDiff, Nat.reduceAdd, Nat.reduceMul, Nat.reduceSub, Nat.reduceLT, Nat.reduceLeDiff, reduceIte, reduceCtorEq, Int.reduceToNat, Int.reduceLE, Int.reduceLT, Int.reduceEq, Int.reduceGT, Int.reduceGE, Int.reduceAdd, Int.reduceSub, Int.reduceNeg, Int.reduceMul, ↓bT, ↓bF, ↓backK_top, ↓backK_int, ↓backK_bool, ↓backK_sl, ↓backK_fn, ↓backK_agg, ↓backK_tup, ↓backK_pel, ↓backK_osl, ↓backK_may, ↓backK_box, ↓bothTT, ↓bothTF, ↓bothFT, ↓bothFF, bothTT, bothTF, bothFT, bothFF, ↓bothTT, ↓bothTF, ↓bothFT, ↓bothFF, ↓bothNT, ↓bothNF, ↓bothCT, ↓bothCF, Try.f43, rows_length, rows_get _ _ _ h, encE, nlt h, nn0, h1, h2]
          exact hp.symm
        | true =>
          rcases Nat.eq_zero_or_pos i with rfl | hpos
          · simp (config := { maxSteps := 4000000 }) only [go_sem, Nat.reduceEqDiff, Nat.reduceAdd, Nat.reduceMul, Nat.reduceSub, Nat.reduceLT, Nat.reduceLeDiff, reduceIte, reduceCtorEq, Int.reduceToNat, Int.reduceLE, Int.reduceLT, Int.reduceEq, Int.reduceGT, Int.reduceGE, Int.reduceAdd, Int.reduceSub, Int.reduceNeg, Int.reduceMul, ↓bT, ↓bF, ↓backK_top, ↓backK_int, ↓backK_bool, ↓backK_sl, ↓backK_fn, ↓backK_agg, ↓backK_tup, ↓backK_pel, ↓backK_osl, ↓backK_may, ↓backK_box, ↓bothTT, ↓bothTF, ↓bothFT, ↓bothFF, bothTT, bothTF, bothFT, bothFF, ↓bothTT, ↓bothTF, ↓bothFT, ↓bothFF, ↓bothNT, ↓bothNF, ↓bothCT, ↓bothCF, Try.f43, rows_length, rows_get _ _ _ h, encE, nlt h, nn0, h1, h2]
            have hl0 := h0 rfl
            have w1 : IntKind.i64.wrap 1 = 1 := by decide
            subst hl0
            rw [h2] at hp
            have h1' : inB (xs[0]'h).key (-1 + 1) 31 = true := h1
            rw [h1', Bool.true_and, Bool.true_and] at hp
            have hk := inB_iff.1 h1
            refine ⟨1, [], ⟨by omega, (xs[0]'h).key, by omega, fun hc => absurd hc (by omega), fun j hj e => ?_, hp⟩, by dsimp only; omega, Weak.of rfl trivial ?_ rfl⟩
            · obtain rfl : j = 0 := by omega
              rfl
            · simp (config := { maxSteps := 4000000 }) only [go_sem, Nat.reduceEqDiff, Nat.reduceAdd, Nat.reduceMul, Nat.reduceSub, Nat.reduceLT, Nat.reduceLeDiff, reduceIte, reduceCtorEq, Int.reduceToNat, Int.reduceLE, Int.reduceLT, Int.reduceEq, Int.reduceGT, Int.reduceGE, Int.reduceAdd, Int.reduceSub, Int.reduceNeg, Int.reduceMul, ↓bT, ↓bF, ↓backK_top, ↓backK_int, ↓backK_bool, ↓backK_sl, ↓backK_fn, ↓backK_agg, ↓backK_tup, ↓backK_pel, ↓backK_osl, ↓backK_may, ↓backK_box, ↓bothTT, ↓bothTF, ↓bothFT, ↓bothFF, bothTT, bothTF, bothFT, bothFF, ↓bothTT, ↓bothTF, ↓bothFT, ↓bothFF, ↓bothNT, ↓bothNF, ↓bothCT, ↓bothCF, Try.f43, w1, frW, wk2, wk1, wkL, wkB, hpW, List.mem_cons, Prod.mk.injEq, exists_eq_left, exists_eq_right, exists_eq]
          · obtain ⟨j, rfl⟩ : ∃ j, i = j + 1 := ⟨i - 1, by omega⟩
            have hw : IntKind.i64.wrap (((j + 1 : Nat) : Int) - 1) = (j : Int) := by rw [wrap_small _ (by omega) (by omega)]; omega
            have hj : j < xs.length := by omega
            have hg : decide (((j + 1 : Nat) : Int) > 0) = true := by simp
            have hls := hs j hj rfl
            simp (config := { maxSteps := 4000000 }) only [go_sem, Nat.reduceEqDiff, Nat.reduceAdd, Nat.reduceMul, Nat.reduceSub, Nat.reduceLT, Nat.reduceLeDiff, reduceIte, reduceCtorEq, Int.reduceToNat, Int.reduceLE, Int.reduceLT, Int.reduceEq, Int.reduceGT, Int.reduceGE, Int.reduceAdd, Int.reduceSub, Int.reduceNeg, Int.reduceMul, ↓bT, ↓bF, ↓backK_top, ↓backK_int, ↓backK_bool, ↓backK_sl, ↓backK_fn, ↓backK_agg, ↓backK_tup, ↓backK_pel, ↓backK_osl, ↓backK_may, ↓backK_box, ↓bothTT, ↓bothTF, ↓bothFT, ↓bothFF, bothTT, bothTF, bothFT, bothFF, ↓bothTT, ↓bothTF, ↓bothFT, ↓bothFF, ↓bothNT, ↓bothNF, ↓bothCT, ↓bothCF, Try.f43, rows_length, rows_get _ _ _ h, encE, nlt h, nn0, h1, h2, hw, rows_get _ _ _ hj, nlt hj, hg]
            have hk := inB_iff.1 h1
            cases h3 : decide (xs[j + 1].key ≤ xs[j].key) with
            | true =>
              have h1' : inB xs[j + 1].key (last + 1) 31 = false := by
                cases hc : inB xs[j + 1].key (last + 1) 31 with
                | false => rfl
                | true => rw [inB_iff] at hc; simp at h3; omega
              rw [h1', Bool.false_and, Bool.false_and] at hp
              exact ⟨fun _ => hp.symm, fun hc => by simp at hc⟩
            | false =>
              have h1' : inB xs[j + 1].key (last + 1) 31 = true := by rw [inB_iff]; simp at h3; omega
              rw [h1', h2, Bool.true_and, Bool.true_and] at hp
              simp only [Bool.false_eq_true, false_implies, true_implies, true_and, forall_const]
              refine ⟨j + 1 + 1, [], ⟨by omega, xs[j + 1].key, by omega, fun hc => absurd hc (by omega), fun j' hj' e => ?_, hp⟩, by dsimp only; omega, Weak.of rfl trivial ?_ rfl⟩
              · obtain rfl : j' = j + 1 := by omega
                rfl
              · simp (config := { maxSteps := 4000000 }) only [go_sem, Nat.reduceEqDiff, Nat.reduceAdd, Nat.reduceMul, Nat.reduceSub, Nat.reduceLT, Nat.reduceLeDiff, reduceIte, reduceCtorEq, Int.reduceToNat, Int.reduceLE, Int.reduceLT, Int.reduceEq, Int.reduceGT, Int.reduceGE, Int.reduceAdd, Int.reduceSub, Int.reduceNeg, Int.reduceMul, ↓bT, ↓bF, ↓backK_top, ↓backK_int, ↓backK_bool, ↓backK_sl, ↓backK_fn, ↓backK_agg, ↓backK_tup, ↓backK_pel, ↓backK_osl, ↓backK_may, ↓backK_box, ↓bothTT, ↓bothTF, ↓bothFT, ↓bothFF, bothTT, bothTF, bothFT, bothFF, ↓bothTT, ↓bothTF, ↓bothFT, ↓bothFF, ↓bothNT, ↓bothNF, ↓bothCT, ↓bothCF, Try.f43, wsucc h hx, frW, wk2, wk1, wkL, wkB, hpW, List.mem_cons, Prod.mk.injEq, exists_eq_left, exists_eq_right, exists_eq]
    · have : i = xs.length := by omega
      subst this
      simp only [List.drop_length] at hp
      simp (config := { maxSteps := 4000000 }) only [go_sem, Nat.reduceEqDiff, Nat.reduceAdd, Nat.reduceMul, Nat.reduceSub, Nat.reduceLT, Nat.reduceLeDiff, reduceIte, reduceCtorEq, Int.reduceToNat, Int.reduceLE, Int.reduceLT, Int.reduceEq, Int.reduceGT, Int.reduceGE, Int.reduceAdd, Int.reduceSub, Int.reduceNeg, Int.reduceMul, ↓bT, ↓bF, ↓backK_top, ↓backK_int, ↓backK_bool, ↓backK_sl, ↓backK_fn, ↓backK_agg, ↓backK_tup, ↓backK_pel, ↓backK_osl, ↓backK_may, ↓backK_box, ↓bothTT, ↓bothTF, ↓bothFT, ↓bothFF, bothTT, bothTF, bothFT, bothFF, ↓bothTT, ↓bothTF, ↓bothFT, ↓bothFF, ↓bothNT, ↓bothNF, ↓bothCT, ↓bothCF, Try.f43, rows_length, nlf h]
      exact hp.symm

end Go.Proofs.Ytdaemhaecjldaaa

/- Contracts: valid blocks. -/
set_option linter.unusedSimpArgs false
set_option linter.unusedVariables false
set_option maxRecDepth 20000
set_option maxHeartbeats 2000000
namespace Go.Proofs.Ytdaemhaecjldaaa
open Go Go.RowKit

structure Block where
  before : Int
  height : Int
  view : Int
  list : List Action
  root : Int
  effects : Int
deriving DecidableEq, Inhabited

def encBk (n : Option Bool) (b : Block) : List AV := [.int .i64 b.before, .int .i64 b.height, .int .i64 b.view, .sl n (rows encA b.list), .int .i64 b.root, .int .i64 b.effects]

def blockValid (b : Block) : Bool := inB b.before 0 1000002 && inB b.root 0 1000002 && inB b.effects 0 1000002 && inB b.height 0 100 && inB b.view 0 1000 && actionsValid b.list

theorem c_isView (x : Int) : Det Try.prog 75 [.int .i64 x] (.bool (inB x 0 1000)) := c_impl_isView x

theorem c_impl_BlockValid (n : Option Bool) (b : Block) (hx : b.list.length < 2 ^ 62) : Det Try.prog 119 [.agg (encBk n b)] (.bool (blockValid b)) := by
  refine fspec_det tab_ok Try.call119 Try.func119 rfl 31 Try.ntmps119 (of_decide_eq_true rfl) fun B => codeK_sound tab_ok _ _ _ ?_
  unfold encBk
  simp (config := { maxSteps := 4000000 }) only [go_sem, Nat.reduceEqDiff, Nat.reduceAdd, Nat.reduceMul, Nat.reduceSub, Nat.reduceLT, Nat.reduceLeDiff, reduceIte, reduceCtorEq, Int.reduceToNat, Int.reduceLE, Int.reduceLT, Int.reduceEq, Int.reduceGT, Int.reduceGE, Int.reduceAdd, Int.reduceSub, Int.reduceNeg, Int.reduceMul, ↓bT, ↓bF, ↓backK_top, ↓backK_int, ↓backK_bool, ↓backK_sl, ↓backK_fn, ↓backK_agg, ↓backK_tup, ↓backK_pel, ↓backK_osl, ↓backK_may, ↓backK_box, ↓bothTT, ↓bothTF, ↓bothFT, ↓bothFF, bothTT, bothTF, bothFT, bothFF, ↓bothTT, ↓bothTF, ↓bothFT, ↓bothFF, ↓bothNT, ↓bothNF, ↓bothCT, ↓bothCF, Try.f119]
  refine CallTo.det (c_impl_isSum _) fun _ => ?_
  cases hc1 : inB b.before 0 1000002
  · (try simp (config := { maxSteps := 4000000 }) only [go_sem, Nat.reduceEqDiff, Nat.reduceAdd, Nat.reduceMul, Nat.reduceSub, Nat.reduceLT, Nat.reduceLeDiff, reduceIte, reduceCtorEq, Int.reduceToNat, Int.reduceLE, Int.reduceLT, Int.reduceEq, Int.reduceGT, Int.reduceGE, Int.reduceAdd, Int.reduceSub, Int.reduceNeg, Int.reduceMul, ↓bT, ↓bF, ↓backK_top, ↓backK_int, ↓backK_bool, ↓backK_sl, ↓backK_fn, ↓backK_agg, ↓backK_tup, ↓backK_pel, ↓backK_osl, ↓backK_may, ↓backK_box, ↓bothTT, ↓bothTF, ↓bothFT, ↓bothFF, bothTT, bothTF, bothFT, bothFF, ↓bothTT, ↓bothTF, ↓bothFT, ↓bothFF, ↓bothNT, ↓bothNF, ↓bothCT, ↓bothCF, Try.f119, blockValid, hc1]) <;> (try rfl)
  (try simp (config := { maxSteps := 4000000 }) only [go_sem, Nat.reduceEqDiff, Nat.reduceAdd, Nat.reduceMul, Nat.reduceSub, Nat.reduceLT, Nat.reduceLeDiff, reduceIte, reduceCtorEq, Int.reduceToNat, Int.reduceLE, Int.reduceLT, Int.reduceEq, Int.reduceGT, Int.reduceGE, Int.reduceAdd, Int.reduceSub, Int.reduceNeg, Int.reduceMul, ↓bT, ↓bF, ↓backK_top, ↓backK_int, ↓backK_bool, ↓backK_sl, ↓backK_fn, ↓backK_agg, ↓backK_tup, ↓backK_pel, ↓backK_osl, ↓backK_may, ↓backK_box, ↓bothTT, ↓bothTF, ↓bothFT, ↓bothFF, bothTT, bothTF, bothFT, bothFF, ↓bothTT, ↓bothTF, ↓bothFT, ↓bothFF, ↓bothNT, ↓bothNF, ↓bothCT, ↓bothCF, Try.f119, blockValid, hc1]) <;> (try rfl)
  refine CallTo.det (c_impl_isSum _) fun _ => ?_
  cases hc2 : inB b.root 0 1000002
  · (try simp (config := { maxSteps := 4000000 }) only [go_sem, Nat.reduceEqDiff, Nat.reduceAdd, Nat.reduceMul, Nat.reduceSub, Nat.reduceLT, Nat.reduceLeDiff, reduceIte, reduceCtorEq, Int.reduceToNat, Int.reduceLE, Int.reduceLT, Int.reduceEq, Int.reduceGT, Int.reduceGE, Int.reduceAdd, Int.reduceSub, Int.reduceNeg, Int.reduceMul, ↓bT, ↓bF, ↓backK_top, ↓backK_int, ↓backK_bool, ↓backK_sl, ↓backK_fn, ↓backK_agg, ↓backK_tup, ↓backK_pel, ↓backK_osl, ↓backK_may, ↓backK_box, ↓bothTT, ↓bothTF, ↓bothFT, ↓bothFF, bothTT, bothTF, bothFT, bothFF, ↓bothTT, ↓bothTF, ↓bothFT, ↓bothFF, ↓bothNT, ↓bothNF, ↓bothCT, ↓bothCF, Try.f119, blockValid, hc1, hc2]) <;> (try rfl)
  (try simp (config := { maxSteps := 4000000 }) only [go_sem, Nat.reduceEqDiff, Nat.reduceAdd, Nat.reduceMul, Nat.reduceSub, Nat.reduceLT, Nat.reduceLeDiff, reduceIte, reduceCtorEq, Int.reduceToNat, Int.reduceLE, Int.reduceLT, Int.reduceEq, Int.reduceGT, Int.reduceGE, Int.reduceAdd, Int.reduceSub, Int.reduceNeg, Int.reduceMul, ↓bT, ↓bF, ↓backK_top, ↓backK_int, ↓backK_bool, ↓backK_sl, ↓backK_fn, ↓backK_agg, ↓backK_tup, ↓backK_pel, ↓backK_osl, ↓backK_may, ↓backK_box, ↓bothTT, ↓bothTF, ↓bothFT, ↓bothFF, bothTT, bothTF, bothFT, bothFF, ↓bothTT, ↓bothTF, ↓bothFT, ↓bothFF, ↓bothNT, ↓bothNF, ↓bothCT, ↓bothCF, Try.f119, blockValid, hc1, hc2]) <;> (try rfl)
  refine CallTo.det (c_impl_isSum _) fun _ => ?_
  cases hc3 : inB b.effects 0 1000002
  · (try simp (config := { maxSteps := 4000000 }) only [go_sem, Nat.reduceEqDiff, Nat.reduceAdd, Nat.reduceMul, Nat.reduceSub, Nat.reduceLT, Nat.reduceLeDiff, reduceIte, reduceCtorEq, Int.reduceToNat, Int.reduceLE, Int.reduceLT, Int.reduceEq, Int.reduceGT, Int.reduceGE, Int.reduceAdd, Int.reduceSub, Int.reduceNeg, Int.reduceMul, ↓bT, ↓bF, ↓backK_top, ↓backK_int, ↓backK_bool, ↓backK_sl, ↓backK_fn, ↓backK_agg, ↓backK_tup, ↓backK_pel, ↓backK_osl, ↓backK_may, ↓backK_box, ↓bothTT, ↓bothTF, ↓bothFT, ↓bothFF, bothTT, bothTF, bothFT, bothFF, ↓bothTT, ↓bothTF, ↓bothFT, ↓bothFF, ↓bothNT, ↓bothNF, ↓bothCT, ↓bothCF, Try.f119, blockValid, hc1, hc2, hc3]) <;> (try rfl)
  (try simp (config := { maxSteps := 4000000 }) only [go_sem, Nat.reduceEqDiff, Nat.reduceAdd, Nat.reduceMul, Nat.reduceSub, Nat.reduceLT, Nat.reduceLeDiff, reduceIte, reduceCtorEq, Int.reduceToNat, Int.reduceLE, Int.reduceLT, Int.reduceEq, Int.reduceGT, Int.reduceGE, Int.reduceAdd, Int.reduceSub, Int.reduceNeg, Int.reduceMul, ↓bT, ↓bF, ↓backK_top, ↓backK_int, ↓backK_bool, ↓backK_sl, ↓backK_fn, ↓backK_agg, ↓backK_tup, ↓backK_pel, ↓backK_osl, ↓backK_may, ↓backK_box, ↓bothTT, ↓bothTF, ↓bothFT, ↓bothFF, bothTT, bothTF, bothFT, bothFF, ↓bothTT, ↓bothTF, ↓bothFT, ↓bothFF, ↓bothNT, ↓bothNF, ↓bothCT, ↓bothCF, Try.f119, blockValid, hc1, hc2, hc3]) <;> (try rfl)
  refine CallTo.det (c_in _ _ _) fun _ => ?_
  cases hc4 : inB b.height 0 100
  · (try simp (config := { maxSteps := 4000000 }) only [go_sem, Nat.reduceEqDiff, Nat.reduceAdd, Nat.reduceMul, Nat.reduceSub, Nat.reduceLT, Nat.reduceLeDiff, reduceIte, reduceCtorEq, Int.reduceToNat, Int.reduceLE, Int.reduceLT, Int.reduceEq, Int.reduceGT, Int.reduceGE, Int.reduceAdd, Int.reduceSub, Int.reduceNeg, Int.reduceMul, ↓bT, ↓bF, ↓backK_top, ↓backK_int, ↓backK_bool, ↓backK_sl, ↓backK_fn, ↓backK_agg, ↓backK_tup, ↓backK_pel, ↓backK_osl, ↓backK_may, ↓backK_box, ↓bothTT, ↓bothTF, ↓bothFT, ↓bothFF, bothTT, bothTF, bothFT, bothFF, ↓bothTT, ↓bothTF, ↓bothFT, ↓bothFF, ↓bothNT, ↓bothNF, ↓bothCT, ↓bothCF, Try.f119, blockValid, hc1, hc2, hc3, hc4]) <;> (try rfl)
  (try simp (config := { maxSteps := 4000000 }) only [go_sem, Nat.reduceEqDiff, Nat.reduceAdd, Nat.reduceMul, Nat.reduceSub, Nat.reduceLT, Nat.reduceLeDiff, reduceIte, reduceCtorEq, Int.reduceToNat, Int.reduceLE, Int.reduceLT, Int.reduceEq, Int.reduceGT, Int.reduceGE, Int.reduceAdd, Int.reduceSub, Int.reduceNeg, Int.reduceMul, ↓bT, ↓bF, ↓backK_top, ↓backK_int, ↓backK_bool, ↓backK_sl, ↓backK_fn, ↓backK_agg, ↓backK_tup, ↓backK_pel, ↓backK_osl, ↓backK_may, ↓backK_box, ↓bothTT, ↓bothTF, ↓bothFT, ↓bothFF, bothTT, bothTF, bothFT, bothFF, ↓bothTT, ↓bothTF, ↓bothFT, ↓bothFF, ↓bothNT, ↓bothNF, ↓bothCT, ↓bothCF, Try.f119, blockValid, hc1, hc2, hc3, hc4]) <;> (try rfl)
  refine CallTo.det (c_isView _) fun _ => ?_
  cases hc5 : inB b.view 0 1000
  · (try simp (config := { maxSteps := 4000000 }) only [go_sem, Nat.reduceEqDiff, Nat.reduceAdd, Nat.reduceMul, Nat.reduceSub, Nat.reduceLT, Nat.reduceLeDiff, reduceIte, reduceCtorEq, Int.reduceToNat, Int.reduceLE, Int.reduceLT, Int.reduceEq, Int.reduceGT, Int.reduceGE, Int.reduceAdd, Int.reduceSub, Int.reduceNeg, Int.reduceMul, ↓bT, ↓bF, ↓backK_top, ↓backK_int, ↓backK_bool, ↓backK_sl, ↓backK_fn, ↓backK_agg, ↓backK_tup, ↓backK_pel, ↓backK_osl, ↓backK_may, ↓backK_box, ↓bothTT, ↓bothTF, ↓bothFT, ↓bothFF, bothTT, bothTF, bothFT, bothFF, ↓bothTT, ↓bothTF, ↓bothFT, ↓bothFF, ↓bothNT, ↓bothNF, ↓bothCT, ↓bothCF, Try.f119, blockValid, hc1, hc2, hc3, hc4, hc5]) <;> (try rfl)
  (try simp (config := { maxSteps := 4000000 }) only [go_sem, Nat.reduceEqDiff, Nat.reduceAdd, Nat.reduceMul, Nat.reduceSub, Nat.reduceLT, Nat.reduceLeDiff, reduceIte, reduceCtorEq, Int.reduceToNat, Int.reduceLE, Int.reduceLT, Int.reduceEq, Int.reduceGT, Int.reduceGE, Int.reduceAdd, Int.reduceSub, Int.reduceNeg, Int.reduceMul, ↓bT, ↓bF, ↓backK_top, ↓backK_int, ↓backK_bool, ↓backK_sl, ↓backK_fn, ↓backK_agg, ↓backK_tup, ↓backK_pel, ↓backK_osl, ↓backK_may, ↓backK_box, ↓bothTT, ↓bothTF, ↓bothFT, ↓bothFF, bothTT, bothTF, bothFT, bothFF, ↓bothTT, ↓bothTF, ↓bothFT, ↓bothFF, ↓bothNT, ↓bothNF, ↓bothCT, ↓bothCF, Try.f119, blockValid, hc1, hc2, hc3, hc4, hc5]) <;> (try rfl)
  refine CallTo.det (c_impl_ActionsValid _ _ hx) fun _ => ?_
  cases hc6 : actionsValid b.list
  · (try simp (config := { maxSteps := 4000000 }) only [go_sem, Nat.reduceEqDiff, Nat.reduceAdd, Nat.reduceMul, Nat.reduceSub, Nat.reduceLT, Nat.reduceLeDiff, reduceIte, reduceCtorEq, Int.reduceToNat, Int.reduceLE, Int.reduceLT, Int.reduceEq, Int.reduceGT, Int.reduceGE, Int.reduceAdd, Int.reduceSub, Int.reduceNeg, Int.reduceMul, ↓bT, ↓bF, ↓backK_top, ↓backK_int, ↓backK_bool, ↓backK_sl, ↓backK_fn, ↓backK_agg, ↓backK_tup, ↓backK_pel, ↓backK_osl, ↓backK_may, ↓backK_box, ↓bothTT, ↓bothTF, ↓bothFT, ↓bothFF, bothTT, bothTF, bothFT, bothFF, ↓bothTT, ↓bothTF, ↓bothFT, ↓bothFF, ↓bothNT, ↓bothNF, ↓bothCT, ↓bothCF, Try.f119, blockValid, hc1, hc2, hc3, hc4, hc5, hc6]) <;> (try rfl)
  (try simp (config := { maxSteps := 4000000 }) only [go_sem, Nat.reduceEqDiff, Nat.reduceAdd, Nat.reduceMul, Nat.reduceSub, Nat.reduceLT, Nat.reduceLeDiff, reduceIte, reduceCtorEq, Int.reduceToNat, Int.reduceLE, Int.reduceLT, Int.reduceEq, Int.reduceGT, Int.reduceGE, Int.reduceAdd, Int.reduceSub, Int.reduceNeg, Int.reduceMul, ↓bT, ↓bF, ↓backK_top, ↓backK_int, ↓backK_bool, ↓backK_sl, ↓backK_fn, ↓backK_agg, ↓backK_tup, ↓backK_pel, ↓backK_osl, ↓backK_may, ↓backK_box, ↓bothTT, ↓bothTF, ↓bothFT, ↓bothFF, bothTT, bothTF, bothFT, bothFF, ↓bothTT, ↓bothTF, ↓bothFT, ↓bothFF, ↓bothNT, ↓bothNF, ↓bothCT, ↓bothCF, Try.f119, blockValid, hc1, hc2, hc3, hc4, hc5, hc6]) <;> (try rfl)

theorem c_spec_BlockValid (n : Option Bool) (b : Block) (hx : b.list.length < 2 ^ 62) : Det Try.prog 115 [.agg (encBk n b)] (.bool (blockValid b)) := by
  refine fspec_det tab_ok Try.call115 Try.func115 rfl 31 Try.ntmps115 (of_decide_eq_true rfl) fun B => codeK_sound tab_ok _ _ _ ?_
  unfold encBk
  simp (config := { maxSteps := 4000000 }) only [go_sem, Nat.reduceEqDiff, Nat.reduceAdd, Nat.reduceMul, Nat.reduceSub, Nat.reduceLT, Nat.reduceLeDiff, reduceIte, reduceCtorEq, Int.reduceToNat, Int.reduceLE, Int.reduceLT, Int.reduceEq, Int.reduceGT, Int.reduceGE, Int.reduceAdd, Int.reduceSub, Int.reduceNeg, Int.reduceMul, ↓bT, ↓bF, ↓backK_top, ↓backK_int, ↓backK_bool, ↓backK_sl, ↓backK_fn, ↓backK_agg, ↓backK_tup, ↓backK_pel, ↓backK_osl, ↓backK_may, ↓backK_box, ↓bothTT, ↓bothTF, ↓bothFT, ↓bothFF, bothTT, bothTF, bothFT, bothFF, ↓bothTT, ↓bothTF, ↓bothFT, ↓bothFF, ↓bothNT, ↓bothNF, ↓bothCT, ↓bothCF, Try.f115]
  refine CallTo.det (c_l1In _ _ _) fun _ => ?_
  cases hc1 : inB b.before 0 1000002
  · (try simp (config := { maxSteps := 4000000 }) only [go_sem, Nat.reduceEqDiff, Nat.reduceAdd, Nat.reduceMul, Nat.reduceSub, Nat.reduceLT, Nat.reduceLeDiff, reduceIte, reduceCtorEq, Int.reduceToNat, Int.reduceLE, Int.reduceLT, Int.reduceEq, Int.reduceGT, Int.reduceGE, Int.reduceAdd, Int.reduceSub, Int.reduceNeg, Int.reduceMul, ↓bT, ↓bF, ↓backK_top, ↓backK_int, ↓backK_bool, ↓backK_sl, ↓backK_fn, ↓backK_agg, ↓backK_tup, ↓backK_pel, ↓backK_osl, ↓backK_may, ↓backK_box, ↓bothTT, ↓bothTF, ↓bothFT, ↓bothFF, bothTT, bothTF, bothFT, bothFF, ↓bothTT, ↓bothTF, ↓bothFT, ↓bothFF, ↓bothNT, ↓bothNF, ↓bothCT, ↓bothCF, Try.f115, blockValid, hc1]) <;> (try rfl)
  (try simp (config := { maxSteps := 4000000 }) only [go_sem, Nat.reduceEqDiff, Nat.reduceAdd, Nat.reduceMul, Nat.reduceSub, Nat.reduceLT, Nat.reduceLeDiff, reduceIte, reduceCtorEq, Int.reduceToNat, Int.reduceLE, Int.reduceLT, Int.reduceEq, Int.reduceGT, Int.reduceGE, Int.reduceAdd, Int.reduceSub, Int.reduceNeg, Int.reduceMul, ↓bT, ↓bF, ↓backK_top, ↓backK_int, ↓backK_bool, ↓backK_sl, ↓backK_fn, ↓backK_agg, ↓backK_tup, ↓backK_pel, ↓backK_osl, ↓backK_may, ↓backK_box, ↓bothTT, ↓bothTF, ↓bothFT, ↓bothFF, bothTT, bothTF, bothFT, bothFF, ↓bothTT, ↓bothTF, ↓bothFT, ↓bothFF, ↓bothNT, ↓bothNF, ↓bothCT, ↓bothCF, Try.f115, blockValid, hc1]) <;> (try rfl)
  refine CallTo.det (c_l1In _ _ _) fun _ => ?_
  cases hc2 : inB b.root 0 1000002
  · (try simp (config := { maxSteps := 4000000 }) only [go_sem, Nat.reduceEqDiff, Nat.reduceAdd, Nat.reduceMul, Nat.reduceSub, Nat.reduceLT, Nat.reduceLeDiff, reduceIte, reduceCtorEq, Int.reduceToNat, Int.reduceLE, Int.reduceLT, Int.reduceEq, Int.reduceGT, Int.reduceGE, Int.reduceAdd, Int.reduceSub, Int.reduceNeg, Int.reduceMul, ↓bT, ↓bF, ↓backK_top, ↓backK_int, ↓backK_bool, ↓backK_sl, ↓backK_fn, ↓backK_agg, ↓backK_tup, ↓backK_pel, ↓backK_osl, ↓backK_may, ↓backK_box, ↓bothTT, ↓bothTF, ↓bothFT, ↓bothFF, bothTT, bothTF, bothFT, bothFF, ↓bothTT, ↓bothTF, ↓bothFT, ↓bothFF, ↓bothNT, ↓bothNF, ↓bothCT, ↓bothCF, Try.f115, blockValid, hc1, hc2]) <;> (try rfl)
  (try simp (config := { maxSteps := 4000000 }) only [go_sem, Nat.reduceEqDiff, Nat.reduceAdd, Nat.reduceMul, Nat.reduceSub, Nat.reduceLT, Nat.reduceLeDiff, reduceIte, reduceCtorEq, Int.reduceToNat, Int.reduceLE, Int.reduceLT, Int.reduceEq, Int.reduceGT, Int.reduceGE, Int.reduceAdd, Int.reduceSub, Int.reduceNeg, Int.reduceMul, ↓bT, ↓bF, ↓backK_top, ↓backK_int, ↓backK_bool, ↓backK_sl, ↓backK_fn, ↓backK_agg, ↓backK_tup, ↓backK_pel, ↓backK_osl, ↓backK_may, ↓backK_box, ↓bothTT, ↓bothTF, ↓bothFT, ↓bothFF, bothTT, bothTF, bothFT, bothFF, ↓bothTT, ↓bothTF, ↓bothFT, ↓bothFF, ↓bothNT, ↓bothNF, ↓bothCT, ↓bothCF, Try.f115, blockValid, hc1, hc2]) <;> (try rfl)
  refine CallTo.det (c_l1In _ _ _) fun _ => ?_
  cases hc3 : inB b.effects 0 1000002
  · (try simp (config := { maxSteps := 4000000 }) only [go_sem, Nat.reduceEqDiff, Nat.reduceAdd, Nat.reduceMul, Nat.reduceSub, Nat.reduceLT, Nat.reduceLeDiff, reduceIte, reduceCtorEq, Int.reduceToNat, Int.reduceLE, Int.reduceLT, Int.reduceEq, Int.reduceGT, Int.reduceGE, Int.reduceAdd, Int.reduceSub, Int.reduceNeg, Int.reduceMul, ↓bT, ↓bF, ↓backK_top, ↓backK_int, ↓backK_bool, ↓backK_sl, ↓backK_fn, ↓backK_agg, ↓backK_tup, ↓backK_pel, ↓backK_osl, ↓backK_may, ↓backK_box, ↓bothTT, ↓bothTF, ↓bothFT, ↓bothFF, bothTT, bothTF, bothFT, bothFF, ↓bothTT, ↓bothTF, ↓bothFT, ↓bothFF, ↓bothNT, ↓bothNF, ↓bothCT, ↓bothCF, Try.f115, blockValid, hc1, hc2, hc3]) <;> (try rfl)
  (try simp (config := { maxSteps := 4000000 }) only [go_sem, Nat.reduceEqDiff, Nat.reduceAdd, Nat.reduceMul, Nat.reduceSub, Nat.reduceLT, Nat.reduceLeDiff, reduceIte, reduceCtorEq, Int.reduceToNat, Int.reduceLE, Int.reduceLT, Int.reduceEq, Int.reduceGT, Int.reduceGE, Int.reduceAdd, Int.reduceSub, Int.reduceNeg, Int.reduceMul, ↓bT, ↓bF, ↓backK_top, ↓backK_int, ↓backK_bool, ↓backK_sl, ↓backK_fn, ↓backK_agg, ↓backK_tup, ↓backK_pel, ↓backK_osl, ↓backK_may, ↓backK_box, ↓bothTT, ↓bothTF, ↓bothFT, ↓bothFF, bothTT, bothTF, bothFT, bothFF, ↓bothTT, ↓bothTF, ↓bothFT, ↓bothFF, ↓bothNT, ↓bothNF, ↓bothCT, ↓bothCF, Try.f115, blockValid, hc1, hc2, hc3]) <;> (try rfl)
  refine CallTo.det (c_l1In _ _ _) fun _ => ?_
  cases hc4 : inB b.height 0 100
  · (try simp (config := { maxSteps := 4000000 }) only [go_sem, Nat.reduceEqDiff, Nat.reduceAdd, Nat.reduceMul, Nat.reduceSub, Nat.reduceLT, Nat.reduceLeDiff, reduceIte, reduceCtorEq, Int.reduceToNat, Int.reduceLE, Int.reduceLT, Int.reduceEq, Int.reduceGT, Int.reduceGE, Int.reduceAdd, Int.reduceSub, Int.reduceNeg, Int.reduceMul, ↓bT, ↓bF, ↓backK_top, ↓backK_int, ↓backK_bool, ↓backK_sl, ↓backK_fn, ↓backK_agg, ↓backK_tup, ↓backK_pel, ↓backK_osl, ↓backK_may, ↓backK_box, ↓bothTT, ↓bothTF, ↓bothFT, ↓bothFF, bothTT, bothTF, bothFT, bothFF, ↓bothTT, ↓bothTF, ↓bothFT, ↓bothFF, ↓bothNT, ↓bothNF, ↓bothCT, ↓bothCF, Try.f115, blockValid, hc1, hc2, hc3, hc4]) <;> (try rfl)
  (try simp (config := { maxSteps := 4000000 }) only [go_sem, Nat.reduceEqDiff, Nat.reduceAdd, Nat.reduceMul, Nat.reduceSub, Nat.reduceLT, Nat.reduceLeDiff, reduceIte, reduceCtorEq, Int.reduceToNat, Int.reduceLE, Int.reduceLT, Int.reduceEq, Int.reduceGT, Int.reduceGE, Int.reduceAdd, Int.reduceSub, Int.reduceNeg, Int.reduceMul, ↓bT, ↓bF, ↓backK_top, ↓backK_int, ↓backK_bool, ↓backK_sl, ↓backK_fn, ↓backK_agg, ↓backK_tup, ↓backK_pel, ↓backK_osl, ↓backK_may, ↓backK_box, ↓bothTT, ↓bothTF, ↓bothFT, ↓bothFF, bothTT, bothTF, bothFT, bothFF, ↓bothTT, ↓bothTF, ↓bothFT, ↓bothFF, ↓bothNT, ↓bothNF, ↓bothCT, ↓bothCF, Try.f115, blockValid, hc1, hc2, hc3, hc4]) <;> (try rfl)
  refine CallTo.det (c_l1In _ _ _) fun _ => ?_
  cases hc5 : inB b.view 0 1000
  · (try simp (config := { maxSteps := 4000000 }) only [go_sem, Nat.reduceEqDiff, Nat.reduceAdd, Nat.reduceMul, Nat.reduceSub, Nat.reduceLT, Nat.reduceLeDiff, reduceIte, reduceCtorEq, Int.reduceToNat, Int.reduceLE, Int.reduceLT, Int.reduceEq, Int.reduceGT, Int.reduceGE, Int.reduceAdd, Int.reduceSub, Int.reduceNeg, Int.reduceMul, ↓bT, ↓bF, ↓backK_top, ↓backK_int, ↓backK_bool, ↓backK_sl, ↓backK_fn, ↓backK_agg, ↓backK_tup, ↓backK_pel, ↓backK_osl, ↓backK_may, ↓backK_box, ↓bothTT, ↓bothTF, ↓bothFT, ↓bothFF, bothTT, bothTF, bothFT, bothFF, ↓bothTT, ↓bothTF, ↓bothFT, ↓bothFF, ↓bothNT, ↓bothNF, ↓bothCT, ↓bothCF, Try.f115, blockValid, hc1, hc2, hc3, hc4, hc5]) <;> (try rfl)
  (try simp (config := { maxSteps := 4000000 }) only [go_sem, Nat.reduceEqDiff, Nat.reduceAdd, Nat.reduceMul, Nat.reduceSub, Nat.reduceLT, Nat.reduceLeDiff, reduceIte, reduceCtorEq, Int.reduceToNat, Int.reduceLE, Int.reduceLT, Int.reduceEq, Int.reduceGT, Int.reduceGE, Int.reduceAdd, Int.reduceSub, Int.reduceNeg, Int.reduceMul, ↓bT, ↓bF, ↓backK_top, ↓backK_int, ↓backK_bool, ↓backK_sl, ↓backK_fn, ↓backK_agg, ↓backK_tup, ↓backK_pel, ↓backK_osl, ↓backK_may, ↓backK_box, ↓bothTT, ↓bothTF, ↓bothFT, ↓bothFF, bothTT, bothTF, bothFT, bothFF, ↓bothTT, ↓bothTF, ↓bothFT, ↓bothFF, ↓bothNT, ↓bothNF, ↓bothCT, ↓bothCF, Try.f115, blockValid, hc1, hc2, hc3, hc4, hc5]) <;> (try rfl)
  refine CallTo.det (c_spec_ActionsValid _ _ hx) fun _ => ?_
  cases hc6 : actionsValid b.list
  · (try simp (config := { maxSteps := 4000000 }) only [go_sem, Nat.reduceEqDiff, Nat.reduceAdd, Nat.reduceMul, Nat.reduceSub, Nat.reduceLT, Nat.reduceLeDiff, reduceIte, reduceCtorEq, Int.reduceToNat, Int.reduceLE, Int.reduceLT, Int.reduceEq, Int.reduceGT, Int.reduceGE, Int.reduceAdd, Int.reduceSub, Int.reduceNeg, Int.reduceMul, ↓bT, ↓bF, ↓backK_top, ↓backK_int, ↓backK_bool, ↓backK_sl, ↓backK_fn, ↓backK_agg, ↓backK_tup, ↓backK_pel, ↓backK_osl, ↓backK_may, ↓backK_box, ↓bothTT, ↓bothTF, ↓bothFT, ↓bothFF, bothTT, bothTF, bothFT, bothFF, ↓bothTT, ↓bothTF, ↓bothFT, ↓bothFF, ↓bothNT, ↓bothNF, ↓bothCT, ↓bothCF, Try.f115, blockValid, hc1, hc2, hc3, hc4, hc5, hc6]) <;> (try rfl)
  (try simp (config := { maxSteps := 4000000 }) only [go_sem, Nat.reduceEqDiff, Nat.reduceAdd, Nat.reduceMul, Nat.reduceSub, Nat.reduceLT, Nat.reduceLeDiff, reduceIte, reduceCtorEq, Int.reduceToNat, Int.reduceLE, Int.reduceLT, Int.reduceEq, Int.reduceGT, Int.reduceGE, Int.reduceAdd, Int.reduceSub, Int.reduceNeg, Int.reduceMul, ↓bT, ↓bF, ↓backK_top, ↓backK_int, ↓backK_bool, ↓backK_sl, ↓backK_fn, ↓backK_agg, ↓backK_tup, ↓backK_pel, ↓backK_osl, ↓backK_may, ↓backK_box, ↓bothTT, ↓bothTF, ↓bothFT, ↓bothFF, bothTT, bothTF, bothFT, bothFF, ↓bothTT, ↓bothTF, ↓bothFT, ↓bothFF, ↓bothNT, ↓bothNF, ↓bothCT, ↓bothCF, Try.f115, blockValid, hc1, hc2, hc3, hc4, hc5, hc6]) <;> (try rfl)

end Go.Proofs.Ytdaemhaecjldaaa

/- Contracts: sums of leaves and of nodes. -/
set_option linter.unusedSimpArgs false
set_option linter.unusedVariables false
set_option maxRecDepth 20000
set_option maxHeartbeats 2000000
namespace Go.Proofs.Ytdaemhaecjldaaa
open Go Go.RowKit

theorem c_spec_l1Sum (tag : Int) (n1 : Option Bool) (xs : List Int) (hx : xs.length < 2 ^ 62) (ht : 0 ≤ tag ∧ tag ≤ 9) (ha : ∀ x, x ∈ xs → 0 ≤ x ∧ x ≤ 2000000) :
    Det Try.prog 165 [.int .i64 tag, .sl n1 (rows encI xs)] (.int .i64 (sumI (17 + tag) xs)) := by
  refine fspec_det tab_ok Try.call165 Try.func165 rfl 25 Try.ntmps165 (of_decide_eq_true rfl) fun B => codeK_sound tab_ok _ _ _ ?_
  simp (config := { maxSteps := 4000000 }) only [go_sem, Nat.reduceEqDiff, Nat.reduceAdd, Nat.reduceMul, Nat.reduceSub, Nat.reduceLT, Nat.reduceLeDiff, reduceIte, reduceCtorEq, Int.reduceToNat, Int.reduceLE, Int.reduceLT, Int.reduceEq, Int.reduceGT, Int.reduceGE, Int.reduceAdd, Int.reduceSub, Int.reduceNeg, Int.reduceMul, ↓bT, ↓bF, ↓backK_top, ↓backK_int, ↓backK_bool, ↓backK_sl, ↓backK_fn, ↓backK_agg, ↓backK_tup, ↓backK_pel, ↓backK_osl, ↓backK_may, ↓backK_box, ↓bothTT, ↓bothTF, ↓bothFT, ↓bothFF, bothTT, bothTF, bothFT, bothFF, ↓bothTT, ↓bothTF, ↓bothFT, ↓bothFF, ↓bothNT, ↓bothNF, ↓bothCT, ↓bothCF, Try.f165, rows_length, wrap_small (17 + tag) (by omega) (by omega)]
  refine semL_for tab_ok (fun p : Nat × Int => ⟨25, [(1, .sl n1 (rows encI xs)), (5, .int .i64 p.2), (6, .int .i64 p.1)], []⟩) (fun p => xs.length - p.1)
    (fun p => p.1 ≤ xs.length ∧ (0 ≤ p.2 ∧ p.2 ≤ 1000003) ∧ sumI p.2 (xs.drop p.1) = sumI (17 + tag) xs) (0, 17 + tag) [] (Weak.of rfl trivial ?_ rfl) ⟨by omega, by simp only; omega, rfl⟩ ?_
  · simp (config := { maxSteps := 4000000 }) only [go_sem, Nat.reduceEqDiff, Nat.reduceAdd, Nat.reduceMul, Nat.reduceSub, Nat.reduceLT, Nat.reduceLeDiff, reduceIte, reduceCtorEq, Int.reduceToNat, Int.reduceLE, Int.reduceLT, Int.reduceEq, Int.reduceGT, Int.reduceGE, Int.reduceAdd, Int.reduceSub, Int.reduceNeg, Int.reduceMul, ↓bT, ↓bF, ↓backK_top, ↓backK_int, ↓backK_bool, ↓backK_sl, ↓backK_fn, ↓backK_agg, ↓backK_tup, ↓backK_pel, ↓backK_osl, ↓backK_may, ↓backK_box, ↓bothTT, ↓bothTF, ↓bothFT, ↓bothFF, bothTT, bothTF, bothFT, bothFF, ↓bothTT, ↓bothTF, ↓bothFT, ↓bothFF, ↓bothNT, ↓bothNF, ↓bothCT, ↓bothCF, Try.f165, frW, wk2, wk1, wkL, wkB, hpW, List.mem_cons, Prod.mk.injEq, exists_eq_left, exists_eq_right, exists_eq]
  · rintro ⟨i, s⟩ ⟨hi, hs, hp⟩
    by_cases h : i < xs.length
    · have hb := ha _ (List.getElem_mem h)
      simp only at hs hp
      simp (config := { maxSteps := 4000000 }) only [go_sem, Nat.reduceEqDiff, Nat.reduceAdd, Nat.reduceMul, Nat.reduceSub, Nat.reduceLT, Nat.reduceLeDiff, reduceIte, reduceCtorEq, Int.reduceToNat, Int.reduceLE, Int.reduceLT, Int.reduceEq, Int.reduceGT, Int.reduceGE, Int.reduceAdd, Int.reduceSub, Int.reduceNeg, Int.reduceMul, ↓bT, ↓bF, ↓backK_top, ↓backK_int, ↓backK_bool, ↓backK_sl, ↓backK_fn, ↓backK_agg, ↓backK_tup, ↓backK_pel, ↓backK_osl, ↓backK_may, ↓backK_box, ↓bothTT, ↓bothTF, ↓bothFT, ↓bothFF, bothTT, bothTF, bothFT, bothFF, ↓bothTT, ↓bothTF, ↓bothFT, ↓bothFF, ↓bothNT, ↓bothNF, ↓bothCT, ↓bothCF, Try.f165, rows_length, rows_get _ _ _ h, encI, nlt h, nn0]
      rw [wrap_small (31 * s) (by omega) (by omega), wrap_small (31 * s + xs[i]) (by omega) (by omega), wrap_small (31 * s + xs[i] + 7) (by omega) (by omega), Int.tmod_eq_emod_of_nonneg (by omega)]
      refine ⟨(i + 1, moreI s xs[i]), [], ⟨by simp only; omega, ⟨(moreI_bd _ _).1, by have := (moreI_bd s xs[i]).2; simp only; omega⟩, ?_⟩, by simp only; omega, Weak.of rfl trivial ?_ rfl⟩
      · rw [← hp, drop_cons xs i h]; rfl
      · simp (config := { maxSteps := 4000000 }) only [go_sem, Nat.reduceEqDiff, Nat.reduceAdd, Nat.reduceMul, Nat.reduceSub, Nat.reduceLT, Nat.reduceLeDiff, reduceIte, reduceCtorEq, Int.reduceToNat, Int.reduceLE, Int.reduceLT, Int.reduceEq, Int.reduceGT, Int.reduceGE, Int.reduceAdd, Int.reduceSub, Int.reduceNeg, Int.reduceMul, ↓bT, ↓bF, ↓backK_top, ↓backK_int, ↓backK_bool, ↓backK_sl, ↓backK_fn, ↓backK_agg, ↓backK_tup, ↓backK_pel, ↓backK_osl, ↓backK_may, ↓backK_box, ↓bothTT, ↓bothTF, ↓bothFT, ↓bothFF, bothTT, bothTF, bothFT, bothFF, ↓bothTT, ↓bothTF, ↓bothFT, ↓bothFF, ↓bothNT, ↓bothNF, ↓bothCT, ↓bothCF, Try.f165, wsucc h hx, moreI, frW, wk2, wk1, wkL, wkB, hpW, List.mem_cons, Prod.mk.injEq, exists_eq_left, exists_eq_right, exists_eq]
    · have : i = xs.length := by simp only at hi; omega
      subst this
      simp only [List.drop_length] at hp
      simp (config := { maxSteps := 4000000 }) only [go_sem, Nat.reduceEqDiff, Nat.reduceAdd, Nat.reduceMul, Nat.reduceSub, Nat.reduceLT, Nat.reduceLeDiff, reduceIte, reduceCtorEq, Int.reduceToNat, Int.reduceLE, Int.reduceLT, Int.reduceEq, Int.reduceGT, Int.reduceGE, Int.reduceAdd, Int.reduceSub, Int.reduceNeg, Int.reduceMul, ↓bT, ↓bF, ↓backK_top, ↓backK_int, ↓backK_bool, ↓backK_sl, ↓backK_fn, ↓backK_agg, ↓backK_tup, ↓backK_pel, ↓backK_osl, ↓backK_may, ↓backK_box, ↓bothTT, ↓bothTF, ↓bothFT, ↓bothFF, bothTT, bothTF, bothFT, bothFF, ↓bothTT, ↓bothTF, ↓bothFT, ↓bothFF, ↓bothNT, ↓bothNF, ↓bothCT, ↓bothCF, Try.f165, rows_length, nlf h]
      exact hp.symm

/-- The sum of a leaf. -/
def leafSum (k v : Int) : Int := if inB k 0 31 && inB v 0 1000000 then sumI 18 [k, v] else -1

theorem c_spec_LeafSum (k v : Int) : Det Try.prog 192 [.int .i64 k, .int .i64 v] (.int .i64 (leafSum k v)) := by
  refine fspec_det tab_ok Try.call192 Try.func192 rfl 17 Try.ntmps192 (of_decide_eq_true rfl) fun B => codeK_sound tab_ok _ _ _ ?_
  simp (config := { maxSteps := 4000000 }) only [go_sem, Nat.reduceEqDiff, Nat.reduceAdd, Nat.reduceMul, Nat.reduceSub, Nat.reduceLT, Nat.reduceLeDiff, reduceIte, reduceCtorEq, Int.reduceToNat, Int.reduceLE, Int.reduceLT, Int.reduceEq, Int.reduceGT, Int.reduceGE, Int.reduceAdd, Int.reduceSub, Int.reduceNeg, Int.reduceMul, ↓bT, ↓bF, ↓backK_top, ↓backK_int, ↓backK_bool, ↓backK_sl, ↓backK_fn, ↓backK_agg, ↓backK_tup, ↓backK_pel, ↓backK_osl, ↓backK_may, ↓backK_box, ↓bothTT, ↓bothTF, ↓bothFT, ↓bothFF, bothTT, bothTF, bothFT, bothFF, ↓bothTT, ↓bothTF, ↓bothFT, ↓bothFF, ↓bothNT, ↓bothNF, ↓bothCT, ↓bothCF, Try.f192]
  refine CallTo.det (c_l1In _ _ _) fun _ => ?_
  cases h1 : inB k 0 31 with
  | false => simp (config := { maxSteps := 4000000 }) only [go_sem, Nat.reduceEqDiff, Nat.reduceAdd, Nat.reduceMul, Nat.reduceSub, Nat.reduceLT, Nat.reduceLeDiff, reduceIte, reduceCtorEq, Int.reduceToNat, Int.reduceLE, Int.reduceLT, Int.reduceEq, Int.reduceGT, Int.reduceGE, Int.reduceAdd, Int.reduceSub, Int.reduceNeg, Int.reduceMul, ↓bT, ↓bF, ↓backK_top, ↓backK_int, ↓backK_bool, ↓backK_sl, ↓backK_fn, ↓backK_agg, ↓backK_tup, ↓backK_pel, ↓backK_osl, ↓backK_may, ↓backK_box, ↓bothTT, ↓bothTF, ↓bothFT, ↓bothFF, bothTT, bothTF, bothFT, bothFF, ↓bothTT, ↓bothTF, ↓bothFT, ↓bothFF, ↓bothNT, ↓bothNF, ↓bothCT, ↓bothCF, Try.f192, h1, leafSum]
  | true =>
    simp (config := { maxSteps := 4000000 }) only [go_sem, Nat.reduceEqDiff, Nat.reduceAdd, Nat.reduceMul, Nat.reduceSub, Nat.reduceLT, Nat.reduceLeDiff, reduceIte, reduceCtorEq, Int.reduceToNat, Int.reduceLE, Int.reduceLT, Int.reduceEq, Int.reduceGT, Int.reduceGE, Int.reduceAdd, Int.reduceSub, Int.reduceNeg, Int.reduceMul, ↓bT, ↓bF, ↓backK_top, ↓backK_int, ↓backK_bool, ↓backK_sl, ↓backK_fn, ↓backK_agg, ↓backK_tup, ↓backK_pel, ↓backK_osl, ↓backK_may, ↓backK_box, ↓bothTT, ↓bothTF, ↓bothFT, ↓bothFF, bothTT, bothTF, bothFT, bothFF, ↓bothTT, ↓bothTF, ↓bothFT, ↓bothFF, ↓bothNT, ↓bothNF, ↓bothCT, ↓bothCF, Try.f192, h1]
    refine CallTo.det (c_l1In _ _ _) fun _ => ?_
    cases h2 : inB v 0 1000000 with
    | false => simp (config := { maxSteps := 4000000 }) only [go_sem, Nat.reduceEqDiff, Nat.reduceAdd, Nat.reduceMul, Nat.reduceSub, Nat.reduceLT, Nat.reduceLeDiff, reduceIte, reduceCtorEq, Int.reduceToNat, Int.reduceLE, Int.reduceLT, Int.reduceEq, Int.reduceGT, Int.reduceGE, Int.reduceAdd, Int.reduceSub, Int.reduceNeg, Int.reduceMul, ↓bT, ↓bF, ↓backK_top, ↓backK_int, ↓backK_bool, ↓backK_sl, ↓backK_fn, ↓backK_agg, ↓backK_tup, ↓backK_pel, ↓backK_osl, ↓backK_may, ↓backK_box, ↓bothTT, ↓bothTF, ↓bothFT, ↓bothFF, bothTT, bothTF, bothFT, bothFF, ↓bothTT, ↓bothTF, ↓bothFT, ↓bothFF, ↓bothNT, ↓bothNF, ↓bothCT, ↓bothCF, Try.f192, h1, h2, leafSum]
    | true =>
      simp (config := { maxSteps := 4000000 }) only [go_sem, Nat.reduceEqDiff, Nat.reduceAdd, Nat.reduceMul, Nat.reduceSub, Nat.reduceLT, Nat.reduceLeDiff, reduceIte, reduceCtorEq, Int.reduceToNat, Int.reduceLE, Int.reduceLT, Int.reduceEq, Int.reduceGT, Int.reduceGE, Int.reduceAdd, Int.reduceSub, Int.reduceNeg, Int.reduceMul, ↓bT, ↓bF, ↓backK_top, ↓backK_int, ↓backK_bool, ↓backK_sl, ↓backK_fn, ↓backK_agg, ↓backK_tup, ↓backK_pel, ↓backK_osl, ↓backK_may, ↓backK_box, ↓bothTT, ↓bothTF, ↓bothFT, ↓bothFF, bothTT, bothTF, bothFT, bothFF, ↓bothTT, ↓bothTF, ↓bothFT, ↓bothFF, ↓bothNT, ↓bothNF, ↓bothCT, ↓bothCF, Try.f192, h1, h2]
      have h1' := inB_iff.1 h1
      have h2' := inB_iff.1 h2
      refine CallTo.det (c_spec_l1Sum 1 _ [k, v] (by simp) (by omega) (by simp; omega)) fun _ => ?_
      simp (config := { maxSteps := 4000000 }) only [go_sem, Nat.reduceEqDiff, Nat.reduceAdd, Nat.reduceMul, Nat.reduceSub, Nat.reduceLT, Nat.reduceLeDiff, reduceIte, reduceCtorEq, Int.reduceToNat, Int.reduceLE, Int.reduceLT, Int.reduceEq, Int.reduceGT, Int.reduceGE, Int.reduceAdd, Int.reduceSub, Int.reduceNeg, Int.reduceMul, ↓bT, ↓bF, ↓backK_top, ↓backK_int, ↓backK_bool, ↓backK_sl, ↓backK_fn, ↓backK_agg, ↓backK_tup, ↓backK_pel, ↓backK_osl, ↓backK_may, ↓backK_box, ↓bothTT, ↓bothTF, ↓bothFT, ↓bothFF, bothTT, bothTF, bothFT, bothFF, ↓bothTT, ↓bothTF, ↓bothFT, ↓bothFF, ↓bothNT, ↓bothNF, ↓bothCT, ↓bothCF, Try.f192, h1, h2, leafSum]

theorem c_impl_LeafSum (k v : Int) : Det Try.prog 194 [.int .i64 k, .int .i64 v] (.int .i64 (leafSum k v)) := by
  refine fspec_det tab_ok Try.call194 Try.func194 rfl 17 Try.ntmps194 (of_decide_eq_true rfl) fun B => codeK_sound tab_ok _ _ _ ?_
  simp (config := { maxSteps := 4000000 }) only [go_sem, Nat.reduceEqDiff, Nat.reduceAdd, Nat.reduceMul, Nat.reduceSub, Nat.reduceLT, Nat.reduceLeDiff, reduceIte, reduceCtorEq, Int.reduceToNat, Int.reduceLE, Int.reduceLT, Int.reduceEq, Int.reduceGT, Int.reduceGE, Int.reduceAdd, Int.reduceSub, Int.reduceNeg, Int.reduceMul, ↓bT, ↓bF, ↓backK_top, ↓backK_int, ↓backK_bool, ↓backK_sl, ↓backK_fn, ↓backK_agg, ↓backK_tup, ↓backK_pel, ↓backK_osl, ↓backK_may, ↓backK_box, ↓bothTT, ↓bothTF, ↓bothFT, ↓bothFF, bothTT, bothTF, bothFT, bothFF, ↓bothTT, ↓bothTF, ↓bothFT, ↓bothFF, ↓bothNT, ↓bothNF, ↓bothCT, ↓bothCF, Try.f194]
  refine CallTo.det (c_impl_isKey _) fun _ => ?_
  cases h1 : inB k 0 31 with
  | false => simp (config := { maxSteps := 4000000 }) only [go_sem, Nat.reduceEqDiff, Nat.reduceAdd, Nat.reduceMul, Nat.reduceSub, Nat.reduceLT, Nat.reduceLeDiff, reduceIte, reduceCtorEq, Int.reduceToNat, Int.reduceLE, Int.reduceLT, Int.reduceEq, Int.reduceGT, Int.reduceGE, Int.reduceAdd, Int.reduceSub, Int.reduceNeg, Int.reduceMul, ↓bT, ↓bF, ↓backK_top, ↓backK_int, ↓backK_bool, ↓backK_sl, ↓backK_fn, ↓backK_agg, ↓backK_tup, ↓backK_pel, ↓backK_osl, ↓backK_may, ↓backK_box, ↓bothTT, ↓bothTF, ↓bothFT, ↓bothFF, bothTT, bothTF, bothFT, bothFF, ↓bothTT, ↓bothTF, ↓bothFT, ↓bothFF, ↓bothNT, ↓bothNF, ↓bothCT, ↓bothCF, Try.f194, h1, leafSum]
  | true =>
    simp (config := { maxSteps := 4000000 }) only [go_sem, Nat.reduceEqDiff, Nat.reduceAdd, Nat.reduceMul, Nat.reduceSub, Nat.reduceLT, Nat.reduceLeDiff, reduceIte, reduceCtorEq, Int.reduceToNat, Int.reduceLE, Int.reduceLT, Int.reduceEq, Int.reduceGT, Int.reduceGE, Int.reduceAdd, Int.reduceSub, Int.reduceNeg, Int.reduceMul, ↓bT, ↓bF, ↓backK_top, ↓backK_int, ↓backK_bool, ↓backK_sl, ↓backK_fn, ↓backK_agg, ↓backK_tup, ↓backK_pel, ↓backK_osl, ↓backK_may, ↓backK_box, ↓bothTT, ↓bothTF, ↓bothFT, ↓bothFF, bothTT, bothTF, bothFT, bothFF, ↓bothTT, ↓bothTF, ↓bothFT, ↓bothFF, ↓bothNT, ↓bothNF, ↓bothCT, ↓bothCF, Try.f194, h1]
    refine CallTo.det (c_impl_isValue _) fun _ => ?_
    cases h2 : inB v 0 1000000 with
    | false => simp (config := { maxSteps := 4000000 }) only [go_sem, Nat.reduceEqDiff, Nat.reduceAdd, Nat.reduceMul, Nat.reduceSub, Nat.reduceLT, Nat.reduceLeDiff, reduceIte, reduceCtorEq, Int.reduceToNat, Int.reduceLE, Int.reduceLT, Int.reduceEq, Int.reduceGT, Int.reduceGE, Int.reduceAdd, Int.reduceSub, Int.reduceNeg, Int.reduceMul, ↓bT, ↓bF, ↓backK_top, ↓backK_int, ↓backK_bool, ↓backK_sl, ↓backK_fn, ↓backK_agg, ↓backK_tup, ↓backK_pel, ↓backK_osl, ↓backK_may, ↓backK_box, ↓bothTT, ↓bothTF, ↓bothFT, ↓bothFF, bothTT, bothTF, bothFT, bothFF, ↓bothTT, ↓bothTF, ↓bothFT, ↓bothFF, ↓bothNT, ↓bothNF, ↓bothCT, ↓bothCF, Try.f194, h1, h2, leafSum]
    | true =>
      simp (config := { maxSteps := 4000000 }) only [go_sem, Nat.reduceEqDiff, Nat.reduceAdd, Nat.reduceMul, Nat.reduceSub, Nat.reduceLT, Nat.reduceLeDiff, reduceIte, reduceCtorEq, Int.reduceToNat, Int.reduceLE, Int.reduceLT, Int.reduceEq, Int.reduceGT, Int.reduceGE, Int.reduceAdd, Int.reduceSub, Int.reduceNeg, Int.reduceMul, ↓bT, ↓bF, ↓backK_top, ↓backK_int, ↓backK_bool, ↓backK_sl, ↓backK_fn, ↓backK_agg, ↓backK_tup, ↓backK_pel, ↓backK_osl, ↓backK_may, ↓backK_box, ↓bothTT, ↓bothTF, ↓bothFT, ↓bothFF, bothTT, bothTF, bothFT, bothFF, ↓bothTT, ↓bothTF, ↓bothFT, ↓bothFF, ↓bothNT, ↓bothNF, ↓bothCT, ↓bothCF, Try.f194, h1, h2]
      have h1' := inB_iff.1 h1
      have h2' := inB_iff.1 h2
      refine CallTo.det (c_impl_SumOf 1 _ [k, v] (by simp)) fun _ => ?_
      simp (config := { maxSteps := 4000000 }) only [go_sem, Nat.reduceEqDiff, Nat.reduceAdd, Nat.reduceMul, Nat.reduceSub, Nat.reduceLT, Nat.reduceLeDiff, reduceIte, reduceCtorEq, Int.reduceToNat, Int.reduceLE, Int.reduceLT, Int.reduceEq, Int.reduceGT, Int.reduceGE, Int.reduceAdd, Int.reduceSub, Int.reduceNeg, Int.reduceMul, ↓bT, ↓bF, ↓backK_top, ↓backK_int, ↓backK_bool, ↓backK_sl, ↓backK_fn, ↓backK_agg, ↓backK_tup, ↓backK_pel, ↓backK_osl, ↓backK_may, ↓backK_box, ↓bothTT, ↓bothTF, ↓bothFT, ↓bothFF, bothTT, bothTF, bothFT, bothFF, ↓bothTT, ↓bothTF, ↓bothFT, ↓bothFF, ↓bothNT, ↓bothNF, ↓bothCT, ↓bothCF, Try.f194, h1, h2, leafSum]
      simp [sumOf, isSummedB]
      omega

theorem c_spec_l3Node (a b : Int) (ha : 0 ≤ a ∧ a ≤ 2000000) (hb : 0 ≤ b ∧ b ≤ 2000000) : Det Try.prog 193 [.int .i64 a, .int .i64 b] (.int .i64 (sumI 19 [a, b])) := by
  refine fspec_det tab_ok Try.call193 Try.func193 rfl 9 Try.ntmps193 (of_decide_eq_true rfl) fun B => codeK_sound tab_ok _ _ _ ?_
  simp (config := { maxSteps := 4000000 }) only [go_sem, Nat.reduceEqDiff, Nat.reduceAdd, Nat.reduceMul, Nat.reduceSub, Nat.reduceLT, Nat.reduceLeDiff, reduceIte, reduceCtorEq, Int.reduceToNat, Int.reduceLE, Int.reduceLT, Int.reduceEq, Int.reduceGT, Int.reduceGE, Int.reduceAdd, Int.reduceSub, Int.reduceNeg, Int.reduceMul, ↓bT, ↓bF, ↓backK_top, ↓backK_int, ↓backK_bool, ↓backK_sl, ↓backK_fn, ↓backK_agg, ↓backK_tup, ↓backK_pel, ↓backK_osl, ↓backK_may, ↓backK_box, ↓bothTT, ↓bothTF, ↓bothFT, ↓bothFF, bothTT, bothTF, bothFT, bothFF, ↓bothTT, ↓bothTF, ↓bothFT, ↓bothFF, ↓bothNT, ↓bothNF, ↓bothCT, ↓bothCF, Try.f193]
  refine CallTo.det (c_spec_l1Sum 2 _ [a, b] (by simp) (by omega) (by simp; omega)) fun _ => ?_
  simp (config := { maxSteps := 4000000 }) only [go_sem, Nat.reduceEqDiff, Nat.reduceAdd, Nat.reduceMul, Nat.reduceSub, Nat.reduceLT, Nat.reduceLeDiff, reduceIte, reduceCtorEq, Int.reduceToNat, Int.reduceLE, Int.reduceLT, Int.reduceEq, Int.reduceGT, Int.reduceGE, Int.reduceAdd, Int.reduceSub, Int.reduceNeg, Int.reduceMul, ↓bT, ↓bF, ↓backK_top, ↓backK_int, ↓backK_bool, ↓backK_sl, ↓backK_fn, ↓backK_agg, ↓backK_tup, ↓backK_pel, ↓backK_osl, ↓backK_may, ↓backK_box, ↓bothTT, ↓bothTF, ↓bothFT, ↓bothFF, bothTT, bothTF, bothFT, bothFF, ↓bothTT, ↓bothTF, ↓bothFT, ↓bothFF, ↓bothNT, ↓bothNF, ↓bothCT, ↓bothCF, Try.f193]

/-- The value of a key. -/
def valAt : List Entry → Int → Int
  | [], _ => 0
  | e :: r, k => if e.key = k then e.value else valAt r k

theorem c_spec_l2At (n1 : Option Bool) (xs : List Entry) (k : Int) (hx : xs.length < 2 ^ 62) : Det Try.prog 161 [.sl n1 (rows encE xs), .int .i64 k] (.int .i64 (valAt xs k)) := by
  refine fspec_det tab_ok Try.call161 Try.func161 rfl 24 Try.ntmps161 (of_decide_eq_true rfl) fun B => codeK_sound tab_ok _ _ _ ?_
  simp (config := { maxSteps := 4000000 }) only [go_sem, Nat.reduceEqDiff, Nat.reduceAdd, Nat.reduceMul, Nat.reduceSub, Nat.reduceLT, Nat.reduceLeDiff, reduceIte, reduceCtorEq, Int.reduceToNat, Int.reduceLE, Int.reduceLT, Int.reduceEq, Int.reduceGT, Int.reduceGE, Int.reduceAdd, Int.reduceSub, Int.reduceNeg, Int.reduceMul, ↓bT, ↓bF, ↓backK_top, ↓backK_int, ↓backK_bool, ↓backK_sl, ↓backK_fn, ↓backK_agg, ↓backK_tup, ↓backK_pel, ↓backK_osl, ↓backK_may, ↓backK_box, ↓bothTT, ↓bothTF, ↓bothFT, ↓bothFF, bothTT, bothTF, bothFT, bothFF, ↓bothTT, ↓bothTF, ↓bothFT, ↓bothFF, ↓bothNT, ↓bothNF, ↓bothCT, ↓bothCF, Try.f161, rows_length]
  refine semL_for tab_ok (fun i : Nat => ⟨24, [(0, .sl n1 (rows encE xs)), (1, .int .i64 k), (5, .int .i64 i)], []⟩) (fun i => xs.length - i)
    (fun i => i ≤ xs.length ∧ valAt (xs.drop i) k = valAt xs k) 0 [] (Weak.of rfl trivial ?_ rfl) ⟨by omega, rfl⟩ ?_
  · simp (config := { maxSteps := 4000000 }) only [go_sem, Nat.reduceEqDiff, Nat.reduceAdd, Nat.reduceMul, Nat.reduceSub, Nat.reduceLT, Nat.reduceLeDiff, reduceIte, reduceCtorEq, Int.reduceToNat, Int.reduceLE, Int.reduceLT, Int.reduceEq, Int.reduceGT, Int.reduceGE, Int.reduceAdd, Int.reduceSub, Int.reduceNeg, Int.reduceMul, ↓bT, ↓bF, ↓backK_top, ↓backK_int, ↓backK_bool, ↓backK_sl, ↓backK_fn, ↓backK_agg, ↓backK_tup, ↓backK_pel, ↓backK_osl, ↓backK_may, ↓backK_box, ↓bothTT, ↓bothTF, ↓bothFT, ↓bothFF, bothTT, bothTF, bothFT, bothFF, ↓bothTT, ↓bothTF, ↓bothFT, ↓bothFF, ↓bothNT, ↓bothNF, ↓bothCT, ↓bothCF, Try.f161, frW, wk2, wk1, wkL, wkB, hpW, List.mem_cons, Prod.mk.injEq, exists_eq_left, exists_eq_right, exists_eq]
  · rintro i ⟨hi, hp⟩
    by_cases h : i < xs.length
    · rw [drop_cons xs i h] at hp
      simp only [valAt] at hp
      simp (config := { maxSteps := 4000000 }) only [go_sem, Nat.reduceEqDiff, Nat.reduceAdd, Nat.reduceMul, Nat.reduceSub, Nat.reduceLT, Nat.reduceLeDiff, reduceIte, reduceCtorEq, Int.reduceToNat, Int.reduceLE, Int.reduceLT, Int.reduceEq, Int.reduceGT, Int.reduceGE, Int.reduceAdd, Int.reduceSub, Int.reduceNeg, Int.reduceMul, ↓bT, ↓bF, ↓backK_top, ↓backK_int, ↓backK_bool, ↓backK_sl, ↓backK_fn, ↓backK_agg, ↓backK_tup, ↓backK_pel, ↓backK_osl, ↓backK_may, ↓backK_box, ↓bothTT, ↓bothTF, ↓bothFT, ↓bothFF, bothTT, bothTF, bothFT, bothFF, ↓bothTT, ↓bothTF, ↓bothFT, ↓bothFF, ↓bothNT, ↓bothNF, ↓bothCT, ↓bothCF, Try.f161, rows_length, rows_get _ _ _ h, encE, nlt h, nn0]
      refine ⟨fun he => ?_, fun he => ?_⟩
      · rw [if_pos (by simpa using he)] at hp
        exact hp.symm
      · rw [if_neg (by simpa using he)] at hp
        refine ⟨i + 1, [], ⟨by omega, hp⟩, by dsimp only; omega, Weak.of rfl trivial ?_ rfl⟩
        simp (config := { maxSteps := 4000000 }) only [go_sem, Nat.reduceEqDiff, Nat.reduceAdd, Nat.reduceMul, Nat.reduceSub, Nat.reduceLT, Nat.reduceLeDiff, reduceIte, reduceCtorEq, Int.reduceToNat, Int.reduceLE, Int.reduceLT, Int.reduceEq, Int.reduceGT, Int.reduceGE, Int.reduceAdd, Int.reduceSub, Int.reduceNeg, Int.reduceMul, ↓bT, ↓bF, ↓backK_top, ↓backK_int, ↓backK_bool, ↓backK_sl, ↓backK_fn, ↓backK_agg, ↓backK_tup, ↓backK_pel, ↓backK_osl, ↓backK_may, ↓backK_box, ↓bothTT, ↓bothTF, ↓bothFT, ↓bothFF, bothTT, bothTF, bothFT, bothFF, ↓bothTT, ↓bothTF, ↓bothFT, ↓bothFF, ↓bothNT, ↓bothNF, ↓bothCT, ↓bothCF, Try.f161, wsucc h hx, frW, wk2, wk1, wkL, wkB, hpW, List.mem_cons, Prod.mk.injEq, exists_eq_left, exists_eq_right, exists_eq]
    · have : i = xs.length := by omega
      subst this
      simp only [List.drop_length] at hp
      simp (config := { maxSteps := 4000000 }) only [go_sem, Nat.reduceEqDiff, Nat.reduceAdd, Nat.reduceMul, Nat.reduceSub, Nat.reduceLT, Nat.reduceLeDiff, reduceIte, reduceCtorEq, Int.reduceToNat, Int.reduceLE, Int.reduceLT, Int.reduceEq, Int.reduceGT, Int.reduceGE, Int.reduceAdd, Int.reduceSub, Int.reduceNeg, Int.reduceMul, ↓bT, ↓bF, ↓backK_top, ↓backK_int, ↓backK_bool, ↓backK_sl, ↓backK_fn, ↓backK_agg, ↓backK_tup, ↓backK_pel, ↓backK_osl, ↓backK_may, ↓backK_box, ↓bothTT, ↓bothTF, ↓bothFT, ↓bothFF, bothTT, bothTF, bothFT, bothFF, ↓bothTT, ↓bothTF, ↓bothFT, ↓bothFF, ↓bothNT, ↓bothNF, ↓bothCT, ↓bothCF, Try.f161, rows_length, nlf h]
      exact hp.symm

end Go.Proofs.Ytdaemhaecjldaaa

/- Contracts: roots. -/
set_option linter.unusedSimpArgs false
set_option linter.unusedVariables false
set_option maxRecDepth 20000
set_option maxHeartbeats 2000000
namespace Go.Proofs.Ytdaemhaecjldaaa
open Go Go.RowKit

/-- The values of a function at 0..n-1. -/
def upto (f : Int → Int) (n : Nat) : List Int := (List.range n).map fun k : Nat => f (k : Int)

theorem upto_succ (f : Int → Int) (n : Nat) : upto f (n + 1) = upto f n ++ [f n] := by simp [upto, List.range_succ]
theorem upto_length (f : Int → Int) (n : Nat) : (upto f n).length = n := by simp [upto]

/-- The next level. -/
def pairUp : List Int → List Int
  | a :: b :: r => sumI 19 [a, b] :: pairUp r
  | _ => []

def upN : Nat → List Int → List Int
  | 0, l => l
  | n + 1, l => upN n (pairUp l)

/-- Numbers that sums take. -/
def Smd (l : List Int) : Prop := ∀ x, x ∈ l → 0 ≤ x ∧ x ≤ 2000000

theorem sumI2_bd (s a b : Int) : 0 ≤ sumI s [a, b] ∧ sumI s [a, b] ≤ 2000000 := by
  have := moreI_bd (moreI s a) b
  show 0 ≤ moreI (moreI s a) b ∧ moreI (moreI s a) b ≤ 2000000
  omega

theorem pairUp_smd : ∀ (l : List Int), Smd (pairUp l)
  | a :: b :: r => by
    intro x hx
    rcases List.mem_cons.1 hx with rfl | hx
    · exact sumI2_bd _ _ _
    · exact pairUp_smd r x hx
  | [] => fun x hx => by cases hx
  | [_] => fun x hx => by cases hx

theorem pairUp_len : ∀ (l : List Int), 2 * (pairUp l).length ≤ l.length
  | a :: b :: r => by have := pairUp_len r; simp [pairUp]; omega
  | [] => by simp [pairUp]
  | [_] => by simp [pairUp]

theorem leafSum_bd {k v : Int} (hk : 0 ≤ k ∧ k ≤ 31) (hv : 0 ≤ v ∧ v ≤ 1000000) : 0 ≤ leafSum k v ∧ leafSum k v ≤ 2000000 := by
  unfold leafSum
  rw [inB_iff.2 hk, inB_iff.2 hv]
  exact sumI2_bd _ _ _

/-- The sums of the leaves. -/
def leaves (xs : List Entry) : List Int := upto (fun k => leafSum k (valAt xs k)) 32

theorem leaves_smd (xs : List Entry) (hv : ∀ k, 0 ≤ valAt xs k ∧ valAt xs k ≤ 1000000) : Smd (leaves xs) := by
  intro x hx
  simp only [leaves, upto, List.mem_map, List.mem_range] at hx
  obtain ⟨k, hk, rfl⟩ := hx
  exact leafSum_bd (by omega) (hv _)

theorem rows_snoc {α : Type} (e : α → List AV) (xs : List α) (x : α) : rows e xs ++ [e x] = rows e (xs ++ [x]) := by simp [rows]
theorem take_rows {α : Type} (e : α → List AV) (xs : List α) (n : Nat) (h : n = xs.length) : (rows e xs).take n = rows e xs := by
  rw [List.take_of_length_le]; simp [rows]; omega

theorem c_spec_l3Level (n1 : Option Bool) (xs : List Entry) (lv : Nat) (hx : xs.length < 2 ^ 62) (hlv : lv ≤ 5) (hv : ∀ k, 0 ≤ valAt xs k ∧ valAt xs k ≤ 1000000) :
    Det Try.prog 166 [.sl n1 (rows encE xs), .int .i64 lv] (.osl true 1 (rows encI (upN lv (leaves xs)))) := by
  refine fspec_det tab_ok Try.call166 Try.func166 rfl 51 Try.ntmps166 (of_decide_eq_true rfl) fun B => codeK_sound tab_ok _ _ _ ?_
  simp (config := { maxSteps := 4000000 }) only [go_sem, Nat.reduceEqDiff, Nat.reduceAdd, Nat.reduceMul, Nat.reduceSub, Nat.reduceLT, Nat.reduceLeDiff, reduceIte, reduceCtorEq, Int.reduceToNat, Int.reduceLE, Int.reduceLT, Int.reduceEq, Int.reduceGT, Int.reduceGE, Int.reduceAdd, Int.reduceSub, Int.reduceNeg, Int.reduceMul, ↓bT, ↓bF, ↓backK_top, ↓backK_int, ↓backK_bool, ↓backK_sl, ↓backK_fn, ↓backK_agg, ↓backK_tup, ↓backK_pel, ↓backK_osl, ↓backK_may, ↓backK_box, ↓bothTT, ↓bothTF, ↓bothFT, ↓bothFF, bothTT, bothTF, bothFT, bothFF, ↓bothTT, ↓bothTF, ↓bothFT, ↓bothFF, ↓bothNT, ↓bothNF, ↓bothCT, ↓bothCF, Try.f166]
  refine semL_for tab_ok (fun i : Nat => ⟨51, [(0, .sl n1 (rows encE xs)), (1, .int .i64 lv), (5, .row 10 i), (6, .int .i64 i)], [(10, .row true true 1 (rows encI (upto (fun k => leafSum k (valAt xs k)) i)))]⟩) (fun i => 32 - i)
    (fun i => i ≤ 32) 0 [(10, 10)] (Weak.of rfl ?_ ?_ rfl) (by omega) ?_
  · simp (config := { maxSteps := 4000000 }) only [go_sem, Nat.reduceEqDiff, Nat.reduceAdd, Nat.reduceMul, Nat.reduceSub, Nat.reduceLT, Nat.reduceLeDiff, reduceIte, reduceCtorEq, Int.reduceToNat, Int.reduceLE, Int.reduceLT, Int.reduceEq, Int.reduceGT, Int.reduceGE, Int.reduceAdd, Int.reduceSub, Int.reduceNeg, Int.reduceMul, ↓bT, ↓bF, ↓backK_top, ↓backK_int, ↓backK_bool, ↓backK_sl, ↓backK_fn, ↓backK_agg, ↓backK_tup, ↓backK_pel, ↓backK_osl, ↓backK_may, ↓backK_box, ↓bothTT, ↓bothTF, ↓bothFT, ↓bothFF, bothTT, bothTF, bothFT, bothFF, ↓bothTT, ↓bothTF, ↓bothFT, ↓bothFF, ↓bothNT, ↓bothNF, ↓bothCT, ↓bothCF, Try.f166, frW, wk2, wk1, wkL, wkB, hpW, List.mem_cons, Prod.mk.injEq, exists_eq_left, exists_eq_right, exists_eq]
    rfl
  · simp (config := { maxSteps := 4000000 }) only [go_sem, Nat.reduceEqDiff, Nat.reduceAdd, Nat.reduceMul, Nat.reduceSub, Nat.reduceLT, Nat.reduceLeDiff, reduceIte, reduceCtorEq, Int.reduceToNat, Int.reduceLE, Int.reduceLT, Int.reduceEq, Int.reduceGT, Int.reduceGE, Int.reduceAdd, Int.reduceSub, Int.reduceNeg, Int.reduceMul, ↓bT, ↓bF, ↓backK_top, ↓backK_int, ↓backK_bool, ↓backK_sl, ↓backK_fn, ↓backK_agg, ↓backK_tup, ↓backK_pel, ↓backK_osl, ↓backK_may, ↓backK_box, ↓bothTT, ↓bothTF, ↓bothFT, ↓bothFF, bothTT, bothTF, bothFT, bothFF, ↓bothTT, ↓bothTF, ↓bothFT, ↓bothFF, ↓bothNT, ↓bothNF, ↓bothCT, ↓bothCF, Try.f166, frW, wk2, wk1, wkL, wkB, hpW, List.mem_cons, Prod.mk.injEq, exists_eq_left, exists_eq_right, exists_eq]
  · rintro i hi
    by_cases h : i < 32
    · have hd : decide ((i : Int) ≤ 31) = true := by simp; omega
      have hw : IntKind.i64.wrap ((i : Int) + 1) = ((i + 1 : Nat) : Int) := by rw [wrap_small _ (by omega) (by omega)]; simp
      have ht := take_rows encI (upto (fun k => leafSum k (valAt xs k)) i) i (upto_length _ _).symm
      simp (config := { maxSteps := 4000000 }) only [go_sem, Nat.reduceEqDiff, Nat.reduceAdd, Nat.reduceMul, Nat.reduceSub, Nat.reduceLT, Nat.reduceLeDiff, reduceIte, reduceCtorEq, Int.reduceToNat, Int.reduceLE, Int.reduceLT, Int.reduceEq, Int.reduceGT, Int.reduceGE, Int.reduceAdd, Int.reduceSub, Int.reduceNeg, Int.reduceMul, ↓bT, ↓bF, ↓backK_top, ↓backK_int, ↓backK_bool, ↓backK_sl, ↓backK_fn, ↓backK_agg, ↓backK_tup, ↓backK_pel, ↓backK_osl, ↓backK_may, ↓backK_box, ↓bothTT, ↓bothTF, ↓bothFT, ↓bothFF, bothTT, bothTF, bothFT, bothFF, ↓bothTT, ↓bothTF, ↓bothFT, ↓bothFF, ↓bothNT, ↓bothNF, ↓bothCT, ↓bothCF, Try.f166, hd, rows_length, upto_length]
      refine CallTo.det (c_spec_l2At _ _ _ hx) fun _ => ?_
      simp (config := { maxSteps := 4000000 }) only [go_sem, Nat.reduceEqDiff, Nat.reduceAdd, Nat.reduceMul, Nat.reduceSub, Nat.reduceLT, Nat.reduceLeDiff, reduceIte, reduceCtorEq, Int.reduceToNat, Int.reduceLE, Int.reduceLT, Int.reduceEq, Int.reduceGT, Int.reduceGE, Int.reduceAdd, Int.reduceSub, Int.reduceNeg, Int.reduceMul, ↓bT, ↓bF, ↓backK_top, ↓backK_int, ↓backK_bool, ↓backK_sl, ↓backK_fn, ↓backK_agg, ↓backK_tup, ↓backK_pel, ↓backK_osl, ↓backK_may, ↓backK_box, ↓bothTT, ↓bothTF, ↓bothFT, ↓bothFF, bothTT, bothTF, bothFT, bothFF, ↓bothTT, ↓bothTF, ↓bothFT, ↓bothFF, ↓bothNT, ↓bothNF, ↓bothCT, ↓bothCF, Try.f166, hd, rows_length, upto_length]
      refine CallTo.det (c_spec_LeafSum _ _) fun _ => ?_
      simp (config := { maxSteps := 4000000 }) only [go_sem, Nat.reduceEqDiff, Nat.reduceAdd, Nat.reduceMul, Nat.reduceSub, Nat.reduceLT, Nat.reduceLeDiff, reduceIte, reduceCtorEq, Int.reduceToNat, Int.reduceLE, Int.reduceLT, Int.reduceEq, Int.reduceGT, Int.reduceGE, Int.reduceAdd, Int.reduceSub, Int.reduceNeg, Int.reduceMul, ↓bT, ↓bF, ↓backK_top, ↓backK_int, ↓backK_bool, ↓backK_sl, ↓backK_fn, ↓backK_agg, ↓backK_tup, ↓backK_pel, ↓backK_osl, ↓backK_may, ↓backK_box, ↓bothTT, ↓bothTF, ↓bothFT, ↓bothFF, bothTT, bothTF, bothFT, bothFF, ↓bothTT, ↓bothTF, ↓bothFT, ↓bothFF, ↓bothNT, ↓bothNF, ↓bothCT, ↓bothCF, Try.f166, hd, rows_length, upto_length, hw, ht]
      refine ⟨by omega, by simp, by omega, by omega, i + 1, [(22, 10)], by omega, by dsimp only; omega, Weak.of (by rfl) ?_ ?_ (by rfl)⟩
      · simp (config := { maxSteps := 4000000 }) only [go_sem, Nat.reduceEqDiff, Nat.reduceAdd, Nat.reduceMul, Nat.reduceSub, Nat.reduceLT, Nat.reduceLeDiff, reduceIte, reduceCtorEq, Int.reduceToNat, Int.reduceLE, Int.reduceLT, Int.reduceEq, Int.reduceGT, Int.reduceGE, Int.reduceAdd, Int.reduceSub, Int.reduceNeg, Int.reduceMul, ↓bT, ↓bF, ↓backK_top, ↓backK_int, ↓backK_bool, ↓backK_sl, ↓backK_fn, ↓backK_agg, ↓backK_tup, ↓backK_pel, ↓backK_osl, ↓backK_may, ↓backK_box, ↓bothTT, ↓bothTF, ↓bothFT, ↓bothFF, bothTT, bothTF, bothFT, bothFF, ↓bothTT, ↓bothTF, ↓bothFT, ↓bothFF, ↓bothNT, ↓bothNF, ↓bothCT, ↓bothCF, Try.f166, upto_succ, frW, wk2, wk1, wkL, wkB, hpW, List.mem_cons, Prod.mk.injEq, exists_eq_left, exists_eq_right, exists_eq]
        exact (rows_snoc encI _ _).symm
      · simp (config := { maxSteps := 4000000 }) only [go_sem, Nat.reduceEqDiff, Nat.reduceAdd, Nat.reduceMul, Nat.reduceSub, Nat.reduceLT, Nat.reduceLeDiff, reduceIte, reduceCtorEq, Int.reduceToNat, Int.reduceLE, Int.reduceLT, Int.reduceEq, Int.reduceGT, Int.reduceGE, Int.reduceAdd, Int.reduceSub, Int.reduceNeg, Int.reduceMul, ↓bT, ↓bF, ↓backK_top, ↓backK_int, ↓backK_bool, ↓backK_sl, ↓backK_fn, ↓backK_agg, ↓backK_tup, ↓backK_pel, ↓backK_osl, ↓backK_may, ↓backK_box, ↓bothTT, ↓bothTF, ↓bothFT, ↓bothFF, bothTT, bothTF, bothFT, bothFF, ↓bothTT, ↓bothTF, ↓bothFT, ↓bothFF, ↓bothNT, ↓bothNF, ↓bothCT, ↓bothCF, Try.f166, frW, wk2, wk1, wkL, wkB, hpW, List.mem_cons, Prod.mk.injEq, exists_eq_left, exists_eq_right, exists_eq]
    · have : i = 32 := by omega
      subst this
      simp (config := { maxSteps := 4000000 }) only [go_sem, Nat.reduceEqDiff, Nat.reduceAdd, Nat.reduceMul, Nat.reduceSub, Nat.reduceLT, Nat.reduceLeDiff, reduceIte, reduceCtorEq, Int.reduceToNat, Int.reduceLE, Int.reduceLT, Int.reduceEq, Int.reduceGT, Int.reduceGE, Int.reduceAdd, Int.reduceSub, Int.reduceNeg, Int.reduceMul, ↓bT, ↓bF, ↓backK_top, ↓backK_int, ↓backK_bool, ↓backK_sl, ↓backK_fn, ↓backK_agg, ↓backK_tup, ↓backK_pel, ↓backK_osl, ↓backK_may, ↓backK_box, ↓bothTT, ↓bothTF, ↓bothFT, ↓bothFF, bothTT, bothTF, bothFT, bothFF, ↓bothTT, ↓bothTF, ↓bothFT, ↓bothFF, ↓bothNT, ↓bothNF, ↓bothCT, ↓bothCF, Try.f166, rows_length, upto_length]
      refine semL_for tab_ok (fun p : Nat × List Int => ⟨51, [(0, .sl n1 (rows encE xs)), (1, .int .i64 lv), (5, .row 10 p.2.length), (7, .int .i64 p.1)], [(10, .row true true 1 (rows encI p.2))]⟩) (fun p => lv - p.1)
        (fun p => p.1 ≤ lv ∧ Smd p.2 ∧ p.2.length ≤ 32 ∧ upN (lv - p.1) p.2 = upN lv (leaves xs)) (0, leaves xs) [(10, 10)] (Weak.of rfl ?_ ?_ rfl) ⟨by omega, leaves_smd xs hv, by simp [leaves, upto_length], rfl⟩ ?_
      · simp (config := { maxSteps := 4000000 }) only [go_sem, Nat.reduceEqDiff, Nat.reduceAdd, Nat.reduceMul, Nat.reduceSub, Nat.reduceLT, Nat.reduceLeDiff, reduceIte, reduceCtorEq, Int.reduceToNat, Int.reduceLE, Int.reduceLT, Int.reduceEq, Int.reduceGT, Int.reduceGE, Int.reduceAdd, Int.reduceSub, Int.reduceNeg, Int.reduceMul, ↓bT, ↓bF, ↓backK_top, ↓backK_int, ↓backK_bool, ↓backK_sl, ↓backK_fn, ↓backK_agg, ↓backK_tup, ↓backK_pel, ↓backK_osl, ↓backK_may, ↓backK_box, ↓bothTT, ↓bothTF, ↓bothFT, ↓bothFF, bothTT, bothTF, bothFT, bothFF, ↓bothTT, ↓bothTF, ↓bothFT, ↓bothFF, ↓bothNT, ↓bothNF, ↓bothCT, ↓bothCF, Try.f166, frW, wk2, wk1, wkL, wkB, hpW, List.mem_cons, Prod.mk.injEq, exists_eq_left, exists_eq_right, exists_eq]
        rfl
      · simp (config := { maxSteps := 4000000 }) only [go_sem, Nat.reduceEqDiff, Nat.reduceAdd, Nat.reduceMul, Nat.reduceSub, Nat.reduceLT, Nat.reduceLeDiff, reduceIte, reduceCtorEq, Int.reduceToNat, Int.reduceLE, Int.reduceLT, Int.reduceEq, Int.reduceGT, Int.reduceGE, Int.reduceAdd, Int.reduceSub, Int.reduceNeg, Int.reduceMul, ↓bT, ↓bF, ↓backK_top, ↓backK_int, ↓backK_bool, ↓backK_sl, ↓backK_fn, ↓backK_agg, ↓backK_tup, ↓backK_pel, ↓backK_osl, ↓backK_may, ↓backK_box, ↓bothTT, ↓bothTF, ↓bothFT, ↓bothFF, bothTT, bothTF, bothFT, bothFF, ↓bothTT, ↓bothTF, ↓bothFT, ↓bothFF, ↓bothNT, ↓bothNF, ↓bothCT, ↓bothCF, Try.f166, leaves, upto_length, frW, wk2, wk1, wkL, wkB, hpW, List.mem_cons, Prod.mk.injEq, exists_eq_left, exists_eq_right, exists_eq]
      · rintro ⟨i, r⟩ ⟨hi, hr, hl, hu⟩
        simp only at hi hr hl hu
        by_cases h : i < lv
        · simp (config := { maxSteps := 4000000 }) only [go_sem, Nat.reduceEqDiff, Nat.reduceAdd, Nat.reduceMul, Nat.reduceSub, Nat.reduceLT, Nat.reduceLeDiff, reduceIte, reduceCtorEq, Int.reduceToNat, Int.reduceLE, Int.reduceLT, Int.reduceEq, Int.reduceGT, Int.reduceGE, Int.reduceAdd, Int.reduceSub, Int.reduceNeg, Int.reduceMul, ↓bT, ↓bF, ↓backK_top, ↓backK_int, ↓backK_bool, ↓backK_sl, ↓backK_fn, ↓backK_agg, ↓backK_tup, ↓backK_pel, ↓backK_osl, ↓backK_may, ↓backK_box, ↓bothTT, ↓bothTF, ↓bothFT, ↓bothFF, bothTT, bothTF, bothFT, bothFF, ↓bothTT, ↓bothTF, ↓bothFT, ↓bothFF, ↓bothNT, ↓bothNF, ↓bothCT, ↓bothCF, Try.f166, rows_length, nlt h]
          refine semL_for tab_ok (fun p : Nat × List Int => ⟨51, [(0, .sl n1 (rows encE xs)), (1, .int .i64 lv), (5, .row 10 r.length), (7, .int .i64 i), (8, .row 28 p.2.length), (9, .int .i64 p.1)], [(10, .row true true 1 (rows encI r)), (28, .row true true 1 (rows encI p.2))]⟩) (fun p => r.length - p.1)
            (fun p => p.1 ≤ r.length ∧ p.2.length ≤ 32 ∧ p.2 ++ pairUp (r.drop p.1) = pairUp r) (0, []) [(10, 10), (28, 28)] (Weak.of rfl ?_ ?_ rfl) ⟨by omega, by simp, rfl⟩ ?_
          · simp (config := { maxSteps := 4000000 }) only [go_sem, Nat.reduceEqDiff, Nat.reduceAdd, Nat.reduceMul, Nat.reduceSub, Nat.reduceLT, Nat.reduceLeDiff, reduceIte, reduceCtorEq, Int.reduceToNat, Int.reduceLE, Int.reduceLT, Int.reduceEq, Int.reduceGT, Int.reduceGE, Int.reduceAdd, Int.reduceSub, Int.reduceNeg, Int.reduceMul, ↓bT, ↓bF, ↓backK_top, ↓backK_int, ↓backK_bool, ↓backK_sl, ↓backK_fn, ↓backK_agg, ↓backK_tup, ↓backK_pel, ↓backK_osl, ↓backK_may, ↓backK_box, ↓bothTT, ↓bothTF, ↓bothFT, ↓bothFF, bothTT, bothTF, bothFT, bothFF, ↓bothTT, ↓bothTF, ↓bothFT, ↓bothFF, ↓bothNT, ↓bothNF, ↓bothCT, ↓bothCF, Try.f166, frW, wk2, wk1, wkL, wkB, hpW, List.mem_cons, Prod.mk.injEq, exists_eq_left, exists_eq_right, exists_eq]
            rfl
          · simp (config := { maxSteps := 4000000 }) only [go_sem, Nat.reduceEqDiff, Nat.reduceAdd, Nat.reduceMul, Nat.reduceSub, Nat.reduceLT, Nat.reduceLeDiff, reduceIte, reduceCtorEq, Int.reduceToNat, Int.reduceLE, Int.reduceLT, Int.reduceEq, Int.reduceGT, Int.reduceGE, Int.reduceAdd, Int.reduceSub, Int.reduceNeg, Int.reduceMul, ↓bT, ↓bF, ↓backK_top, ↓backK_int, ↓backK_bool, ↓backK_sl, ↓backK_fn, ↓backK_agg, ↓backK_tup, ↓backK_pel, ↓backK_osl, ↓backK_may, ↓backK_box, ↓bothTT, ↓bothTF, ↓bothFT, ↓bothFF, bothTT, bothTF, bothFT, bothFF, ↓bothTT, ↓bothTF, ↓bothFT, ↓bothFF, ↓bothNT, ↓bothNF, ↓bothCT, ↓bothCF, Try.f166, frW, wk2, wk1, wkL, wkB, hpW, List.mem_cons, Prod.mk.injEq, exists_eq_left, exists_eq_right, exists_eq]
          · rintro ⟨j, nx⟩ ⟨hj, hn, hp⟩
            simp only at hj hn hp
            have hw1 : IntKind.i64.wrap ((j : Int) + 1) = ((j + 1 : Nat) : Int) := by rw [wrap_small _ (by omega) (by omega)]; simp
            by_cases h1 : j + 1 < r.length
            · have h0 : j < r.length := by omega
              simp (config := { maxSteps := 4000000 }) only [go_sem, Nat.reduceEqDiff, Nat.reduceAdd, Nat.reduceMul, Nat.reduceSub, Nat.reduceLT, Nat.reduceLeDiff, reduceIte, reduceCtorEq, Int.reduceToNat, Int.reduceLE, Int.reduceLT, Int.reduceEq, Int.reduceGT, Int.reduceGE, Int.reduceAdd, Int.reduceSub, Int.reduceNeg, Int.reduceMul, ↓bT, ↓bF, ↓backK_top, ↓backK_int, ↓backK_bool, ↓backK_sl, ↓backK_fn, ↓backK_agg, ↓backK_tup, ↓backK_pel, ↓backK_osl, ↓backK_may, ↓backK_box, ↓bothTT, ↓bothTF, ↓bothFT, ↓bothFF, bothTT, bothTF, bothFT, bothFF, ↓bothTT, ↓bothTF, ↓bothFT, ↓bothFF, ↓bothNT, ↓bothNF, ↓bothCT, ↓bothCF, Try.f166, rows_length, hw1, nlt h1]
              refine semL_drawL tab_ok 13 mixed_ rfl (ord := [(0, []), (1, []), (2, []), (3, []), (4, []), (5, []), (6, []), (7, []), (8, []), (9, []), (10, [0]), (11, [0]), (12, [])]) (by dsimp only; decide +kernel) ?_
              simp (config := { maxSteps := 4000000 }) only [go_sem, Nat.reduceEqDiff, Nat.reduceAdd, Nat.reduceMul, Nat.reduceSub, Nat.reduceLT, Nat.reduceLeDiff, reduceIte, reduceCtorEq, Int.reduceToNat, Int.reduceLE, Int.reduceLT, Int.reduceEq, Int.reduceGT, Int.reduceGE, Int.reduceAdd, Int.reduceSub, Int.reduceNeg, Int.reduceMul, ↓bT, ↓bF, ↓backK_top, ↓backK_int, ↓backK_bool, ↓backK_sl, ↓backK_fn, ↓backK_agg, ↓backK_tup, ↓backK_pel, ↓backK_osl, ↓backK_may, ↓backK_box, ↓bothTT, ↓bothTF, ↓bothFT, ↓bothFF, bothTT, bothTF, bothFT, bothFF, ↓bothTT, ↓bothTF, ↓bothFT, ↓bothFF, ↓bothNT, ↓bothNF, ↓bothCT, ↓bothCF, Try.f166, rows_length, hw1, nlt h1, nlt h0, nn0, rows_get _ _ _ h0, rows_get _ _ _ h1, encI]
              have hb1 := hr _ (List.getElem_mem h0)
              have hb2 := hr _ (List.getElem_mem h1)
              have hw2 : IntKind.i64.wrap ((j : Int) + 2) = ((j + 2 : Nat) : Int) := by rw [wrap_small _ (by omega) (by omega)]; simp
              have ht := take_rows encI nx nx.length rfl
              have hnl : nx.length < 32 := by
                have h2 := congrArg List.length hp
                have h3 := pairUp_len r
                rw [drop_cons r j h0, drop_cons r (j + 1) h1] at h2
                simp [pairUp] at h2
                omega
              rw [drop_cons r j h0, drop_cons r (j + 1) h1] at hp
              simp only [pairUp] at hp
              refine ⟨h0, h1, CallTo.det (c_spec_l3Node _ _ hb1 hb2) fun _ => ?_⟩
              simp (config := { maxSteps := 4000000 }) only [go_sem, Nat.reduceEqDiff, Nat.reduceAdd, Nat.reduceMul, Nat.reduceSub, Nat.reduceLT, Nat.reduceLeDiff, reduceIte, reduceCtorEq, Int.reduceToNat, Int.reduceLE, Int.reduceLT, Int.reduceEq, Int.reduceGT, Int.reduceGE, Int.reduceAdd, Int.reduceSub, Int.reduceNeg, Int.reduceMul, ↓bT, ↓bF, ↓backK_top, ↓backK_int, ↓backK_bool, ↓backK_sl, ↓backK_fn, ↓backK_agg, ↓backK_tup, ↓backK_pel, ↓backK_osl, ↓backK_may, ↓backK_box, ↓bothTT, ↓bothTF, ↓bothFT, ↓bothFF, bothTT, bothTF, bothFT, bothFF, ↓bothTT, ↓bothTF, ↓bothFT, ↓bothFF, ↓bothNT, ↓bothNF, ↓bothCT, ↓bothCF, Try.f166, rows_length, hw1, nlt h1, nlt h0, nn0, rows_get _ _ _ h0, rows_get _ _ _ h1, encI, ht, hw2]
              refine ⟨by omega, by simp, by omega, by omega, (j + 2, nx ++ [sumI 19 [r[j], r[j + 1]]]), [(10, 10), (48, 28)], ⟨by dsimp only; omega, by simp; omega, ?_⟩, by dsimp only; omega, Weak.of (by rfl) ?_ ?_ (by rfl)⟩
              · rw [← hp]; simp
              · simp (config := { maxSteps := 4000000 }) only [go_sem, Nat.reduceEqDiff, Nat.reduceAdd, Nat.reduceMul, Nat.reduceSub, Nat.reduceLT, Nat.reduceLeDiff, reduceIte, reduceCtorEq, Int.reduceToNat, Int.reduceLE, Int.reduceLT, Int.reduceEq, Int.reduceGT, Int.reduceGE, Int.reduceAdd, Int.reduceSub, Int.reduceNeg, Int.reduceMul, ↓bT, ↓bF, ↓backK_top, ↓backK_int, ↓backK_bool, ↓backK_sl, ↓backK_fn, ↓backK_agg, ↓backK_tup, ↓backK_pel, ↓backK_osl, ↓backK_may, ↓backK_box, ↓bothTT, ↓bothTF, ↓bothFT, ↓bothFF, bothTT, bothTF, bothFT, bothFF, ↓bothTT, ↓bothTF, ↓bothFT, ↓bothFF, ↓bothNT, ↓bothNF, ↓bothCT, ↓bothCF, Try.f166, frW, wk2, wk1, wkL, wkB, hpW, List.mem_cons, Prod.mk.injEq, exists_eq_left, exists_eq_right, exists_eq]
                exact (rows_snoc encI _ _).symm
              · simp (config := { maxSteps := 4000000 }) only [go_sem, Nat.reduceEqDiff, Nat.reduceAdd, Nat.reduceMul, Nat.reduceSub, Nat.reduceLT, Nat.reduceLeDiff, reduceIte, reduceCtorEq, Int.reduceToNat, Int.reduceLE, Int.reduceLT, Int.reduceEq, Int.reduceGT, Int.reduceGE, Int.reduceAdd, Int.reduceSub, Int.reduceNeg, Int.reduceMul, ↓bT, ↓bF, ↓backK_top, ↓backK_int, ↓backK_bool, ↓backK_sl, ↓backK_fn, ↓backK_agg, ↓backK_tup, ↓backK_pel, ↓backK_osl, ↓backK_may, ↓backK_box, ↓bothTT, ↓bothTF, ↓bothFT, ↓bothFF, bothTT, bothTF, bothFT, bothFF, ↓bothTT, ↓bothTF, ↓bothFT, ↓bothFF, ↓bothNT, ↓bothNF, ↓bothCT, ↓bothCF, Try.f166, List.length_append, frW, wk2, wk1, wkL, wkB, hpW, List.mem_cons, Prod.mk.injEq, exists_eq_left, exists_eq_right, exists_eq]
            · simp (config := { maxSteps := 4000000 }) only [go_sem, Nat.reduceEqDiff, Nat.reduceAdd, Nat.reduceMul, Nat.reduceSub, Nat.reduceLT, Nat.reduceLeDiff, reduceIte, reduceCtorEq, Int.reduceToNat, Int.reduceLE, Int.reduceLT, Int.reduceEq, Int.reduceGT, Int.reduceGE, Int.reduceAdd, Int.reduceSub, Int.reduceNeg, Int.reduceMul, ↓bT, ↓bF, ↓backK_top, ↓backK_int, ↓backK_bool, ↓backK_sl, ↓backK_fn, ↓backK_agg, ↓backK_tup, ↓backK_pel, ↓backK_osl, ↓backK_may, ↓backK_box, ↓bothTT, ↓bothTF, ↓bothFT, ↓bothFF, bothTT, bothTF, bothFT, bothFF, ↓bothTT, ↓bothTF, ↓bothFT, ↓bothFF, ↓bothNT, ↓bothNF, ↓bothCT, ↓bothCF, Try.f166, rows_length, hw1, nlf h1]
              have hw : IntKind.i64.wrap ((i : Int) + 1) = ((i + 1 : Nat) : Int) := by rw [wrap_small _ (by omega) (by omega)]; simp
              have hd : pairUp (r.drop j) = [] := by
                rcases Nat.lt_or_ge j r.length with hjl | hjl
                · rw [drop_cons r j hjl, List.drop_of_length_le (by omega)]; rfl
                · rw [List.drop_of_length_le hjl]; rfl
              rw [hd, List.append_nil] at hp
              subst hp
              refine ⟨(i + 1, pairUp r), [(28, 10)], ⟨by dsimp only; omega, pairUp_smd r, hn, ?_⟩, by dsimp only; omega, Weak.of (by rfl) ?_ ?_ (by rfl)⟩
              · rw [← hu, show lv - i = (lv - (i + 1)) + 1 by omega]; rfl
              · simp (config := { maxSteps := 4000000 }) only [go_sem, Nat.reduceEqDiff, Nat.reduceAdd, Nat.reduceMul, Nat.reduceSub, Nat.reduceLT, Nat.reduceLeDiff, reduceIte, reduceCtorEq, Int.reduceToNat, Int.reduceLE, Int.reduceLT, Int.reduceEq, Int.reduceGT, Int.reduceGE, Int.reduceAdd, Int.reduceSub, Int.reduceNeg, Int.reduceMul, ↓bT, ↓bF, ↓backK_top, ↓backK_int, ↓backK_bool, ↓backK_sl, ↓backK_fn, ↓backK_agg, ↓backK_tup, ↓backK_pel, ↓backK_osl, ↓backK_may, ↓backK_box, ↓bothTT, ↓bothTF, ↓bothFT, ↓bothFF, bothTT, bothTF, bothFT, bothFF, ↓bothTT, ↓bothTF, ↓bothFT, ↓bothFF, ↓bothNT, ↓bothNF, ↓bothCT, ↓bothCF, Try.f166, frW, wk2, wk1, wkL, wkB, hpW, List.mem_cons, Prod.mk.injEq, exists_eq_left, exists_eq_right, exists_eq]
              · simp (config := { maxSteps := 4000000 }) only [go_sem, Nat.reduceEqDiff, Nat.reduceAdd, Nat.reduceMul, Nat.reduceSub, Nat.reduceLT, Nat.reduceLeDiff, reduceIte, reduceCtorEq, Int.reduceToNat, Int.reduceLE, Int.reduceLT, Int.reduceEq, Int.reduceGT, Int.reduceGE, Int.reduceAdd, Int.reduceSub, Int.reduceNeg, Int.reduceMul, ↓bT, ↓bF, ↓backK_top, ↓backK_int, ↓backK_bool, ↓backK_sl, ↓backK_fn, ↓backK_agg, ↓backK_tup, ↓backK_pel, ↓backK_osl, ↓backK_may, ↓backK_box, ↓bothTT, ↓bothTF, ↓bothFT, ↓bothFF, bothTT, bothTF, bothFT, bothFF, ↓bothTT, ↓bothTF, ↓bothFT, ↓bothFF, ↓bothNT, ↓bothNF, ↓bothCT, ↓bothCF, Try.f166, hw, frW, wk2, wk1, wkL, wkB, hpW, List.mem_cons, Prod.mk.injEq, exists_eq_left, exists_eq_right, exists_eq]
        · have : i = lv := by omega
          subst this
          simp (config := { maxSteps := 4000000 }) only [go_sem, Nat.reduceEqDiff, Nat.reduceAdd, Nat.reduceMul, Nat.reduceSub, Nat.reduceLT, Nat.reduceLeDiff, reduceIte, reduceCtorEq, Int.reduceToNat, Int.reduceLE, Int.reduceLT, Int.reduceEq, Int.reduceGT, Int.reduceGE, Int.reduceAdd, Int.reduceSub, Int.reduceNeg, Int.reduceMul, ↓bT, ↓bF, ↓backK_top, ↓backK_int, ↓backK_bool, ↓backK_sl, ↓backK_fn, ↓backK_agg, ↓backK_tup, ↓backK_pel, ↓backK_osl, ↓backK_may, ↓backK_box, ↓bothTT, ↓bothTF, ↓bothFT, ↓bothFF, bothTT, bothTF, bothFT, bothFF, ↓bothTT, ↓bothTF, ↓bothFT, ↓bothFF, ↓bothNT, ↓bothNF, ↓bothCT, ↓bothCF, Try.f166, rows_length, nlf h]
          simp only [Nat.sub_self, upN] at hu
          rw [hu]
          simp

end Go.Proofs.Ytdaemhaecjldaaa

/- Contracts: values of all keys, levels, roots. -/
set_option linter.unusedSimpArgs false
set_option linter.unusedVariables false
set_option maxRecDepth 20000
set_option maxHeartbeats 2000000
namespace Go.Proofs.Ytdaemhaecjldaaa
open Go Go.RowKit

def cellsI (v : List Int) : List AV := v.map fun n => .int .i64 n
theorem cellsI_length (v : List Int) : (cellsI v).length = v.length := by simp [cellsI]

theorem cellsI_wk (ρ : List (Nat × Nat)) : ∀ v : List Int, wkL ρ (cellsI v) (cellsI v) = True
  | [] => by simp [cellsI, wkL]
  | n :: v => by
    have := cellsI_wk ρ v
    simp only [cellsI] at this
    simp [cellsI, wkL, wk1, this]
theorem cellsI_exp (s : AState) (fin : Bool) : ∀ (v : List Int) (K : List AV → List Nat → Prop), expL s fin (cellsI v) K = K (cellsI v) []
  | [], K => rfl
  | n :: v, K => by
    have := cellsI_exp s fin v
    show expL s fin (cellsI v) _ = _
    rw [this]; rfl
theorem cellsI_rw : ∀ v : List Int, rwL (cellsI v) (cellsI v) = True
  | [] => by simp [cellsI, rwL]
  | n :: v => by
    have := cellsI_rw v
    simp only [cellsI] at this
    simp [cellsI, rwL, rwC, this]
theorem cellsI_set (v : List Int) (i : Nat) (x : Int) : (cellsI v).set i (.int .i64 x) = cellsI (v.set i x) := by simp [cellsI, List.map_set]
theorem cellsI_one (v : List Int) : (cellsI v).all AV.one = true := by simp [cellsI, AV.one]
theorem cellsI_take (v : List Int) (n : Nat) (h : v.length = n) : (cellsI v).take n = cellsI v := by rw [List.take_of_length_le]; simp [cellsI, h]

theorem cellsI_impL : ∀ (v : List Int) (n : Nat), impL n (cellsI v) = cellsI v
  | [], _ => rfl
  | x :: v, n => by
    have := cellsI_impL v (n + 1)
    simp only [cellsI] at this
    simp [cellsI, impL, impC, this]
theorem cellsI_impLB : ∀ (v : List Int) (n : Nat), impLB n (cellsI v) = []
  | [], _ => rfl
  | x :: v, n => by
    have := cellsI_impLB v (n + 1)
    simp only [cellsI] at this
    simp [cellsI, impLB, impCB, this]

def zeros32 : List Int := List.replicate 32 0
theorem zeros32_len : zeros32.length = 32 := rfl
theorem zeros32_cells : cellsI zeros32 = List.replicate 32 (.int .i64 0) := by simp [cellsI, zeros32]

def putV (v : List Int) (e : Entry) : List Int := v.set e.key.toNat e.value
def valuesL (xs : List Entry) : List Int := xs.foldl putV zeros32

theorem c_impl_valuesOf (n1 : Option Bool) (xs : List Entry) (hx : xs.length < 2 ^ 62) (hk : ∀ e, e ∈ xs → 0 ≤ e.key ∧ e.key ≤ 31) : Det Try.prog 105 [.sl n1 (rows encE xs)] (.agg (cellsI (valuesL xs))) := by
  refine fspec_det tab_ok Try.call105 Try.func105 rfl 19 Try.ntmps105 (of_decide_eq_true rfl) fun B => codeK_sound tab_ok _ _ _ ?_
  simp (config := { maxSteps := 4000000 }) only [go_sem, Nat.reduceEqDiff, Nat.reduceAdd, Nat.reduceMul, Nat.reduceSub, Nat.reduceLT, Nat.reduceLeDiff, reduceIte, reduceCtorEq, Int.reduceToNat, Int.reduceLE, Int.reduceLT, Int.reduceEq, Int.reduceGT, Int.reduceGE, Int.reduceAdd, Int.reduceSub, Int.reduceNeg, Int.reduceMul, ↓bT, ↓bF, ↓backK_top, ↓backK_int, ↓backK_bool, ↓backK_sl, ↓backK_fn, ↓backK_agg, ↓backK_tup, ↓backK_pel, ↓backK_osl, ↓backK_may, ↓backK_box, ↓bothTT, ↓bothTF, ↓bothFT, ↓bothFF, bothTT, bothTF, bothFT, bothFF, ↓bothTT, ↓bothTF, ↓bothFT, ↓bothFF, ↓bothNT, ↓bothNF, ↓bothCT, ↓bothCF, Try.f105, rows_length]
  refine semL_for tab_ok (fun p : Nat × List Int => ⟨19, [(2, .loc 2 0), (3, .loc 3 0), (6, .sl n1 (rows encE xs)), (7, .int .i64 xs.length), (8, .int .i64 p.1)], [(2, .var (cellsI zeros32)), (3, .var (cellsI p.2))]⟩) (fun p => xs.length - p.1)
    (fun p => p.1 ≤ xs.length ∧ p.2.length = 32 ∧ (xs.drop p.1).foldl putV p.2 = valuesL xs) (0, zeros32) [(2, 2), (3, 3)] (Weak.of rfl ?_ ?_ rfl) ⟨by omega, by simp [zeros32], rfl⟩ ?_
  · simp (config := { maxSteps := 4000000 }) only [go_sem, Nat.reduceEqDiff, Nat.reduceAdd, Nat.reduceMul, Nat.reduceSub, Nat.reduceLT, Nat.reduceLeDiff, reduceIte, reduceCtorEq, Int.reduceToNat, Int.reduceLE, Int.reduceLT, Int.reduceEq, Int.reduceGT, Int.reduceGE, Int.reduceAdd, Int.reduceSub, Int.reduceNeg, Int.reduceMul, ↓bT, ↓bF, ↓backK_top, ↓backK_int, ↓backK_bool, ↓backK_sl, ↓backK_fn, ↓backK_agg, ↓backK_tup, ↓backK_pel, ↓backK_osl, ↓backK_may, ↓backK_box, ↓bothTT, ↓bothTF, ↓bothFT, ↓bothFF, bothTT, bothTF, bothFT, bothFF, ↓bothTT, ↓bothTF, ↓bothFT, ↓bothFF, ↓bothNT, ↓bothNF, ↓bothCT, ↓bothCF, Try.f105, zeros32_cells, frW, wk2, wk1, wkL, wkB, hpW, List.mem_cons, Prod.mk.injEq, exists_eq_left, exists_eq_right, exists_eq]
  · simp (config := { maxSteps := 4000000 }) only [go_sem, Nat.reduceEqDiff, Nat.reduceAdd, Nat.reduceMul, Nat.reduceSub, Nat.reduceLT, Nat.reduceLeDiff, reduceIte, reduceCtorEq, Int.reduceToNat, Int.reduceLE, Int.reduceLT, Int.reduceEq, Int.reduceGT, Int.reduceGE, Int.reduceAdd, Int.reduceSub, Int.reduceNeg, Int.reduceMul, ↓bT, ↓bF, ↓backK_top, ↓backK_int, ↓backK_bool, ↓backK_sl, ↓backK_fn, ↓backK_agg, ↓backK_tup, ↓backK_pel, ↓backK_osl, ↓backK_may, ↓backK_box, ↓bothTT, ↓bothTF, ↓bothFT, ↓bothFF, bothTT, bothTF, bothFT, bothFF, ↓bothTT, ↓bothTF, ↓bothFT, ↓bothFF, ↓bothNT, ↓bothNF, ↓bothCT, ↓bothCF, Try.f105, frW, wk2, wk1, wkL, wkB, hpW, List.mem_cons, Prod.mk.injEq, exists_eq_left, exists_eq_right, exists_eq]
  · rintro ⟨i, v⟩ ⟨hi, hv, hp⟩
    dsimp only at hi hp hv
    have cl : (cellsI v).length = 32 := by rw [cellsI_length, hv]
    have cz : (cellsI zeros32).length = 32 := by rw [cellsI_length]; rfl
    by_cases h : i < xs.length
    · rw [drop_cons xs i h, List.foldl_cons] at hp
      have hb := hk _ (List.getElem_mem h)
      have hw : IntKind.i64.wrap ((i : Int) + 1) = ((i + 1 : Nat) : Int) := wsucc h hx
      simp (config := { maxSteps := 4000000 }) only [go_sem, Nat.reduceEqDiff, Nat.reduceAdd, Nat.reduceMul, Nat.reduceSub, Nat.reduceLT, Nat.reduceLeDiff, reduceIte, reduceCtorEq, Int.reduceToNat, Int.reduceLE, Int.reduceLT, Int.reduceEq, Int.reduceGT, Int.reduceGE, Int.reduceAdd, Int.reduceSub, Int.reduceNeg, Int.reduceMul, ↓bT, ↓bF, ↓backK_top, ↓backK_int, ↓backK_bool, ↓backK_sl, ↓backK_fn, ↓backK_agg, ↓backK_tup, ↓backK_pel, ↓backK_osl, ↓backK_may, ↓backK_box, ↓bothTT, ↓bothTF, ↓bothFT, ↓bothFF, bothTT, bothTF, bothFT, bothFF, ↓bothTT, ↓bothTF, ↓bothFT, ↓bothFF, ↓bothNT, ↓bothNF, ↓bothCT, ↓bothCF, Try.f105, rows_length, rows_get _ _ _ h, encE, nlt h, nn0, cl, cellsI_set, Nat.mul_one, show ¬ (1 = 32) by decide]
      refine ⟨⟨by omega, by omega⟩, by omega, (i + 1, putV v xs[i]), [(2, 2), (3, 3)], ⟨by dsimp only; omega, by simp [putV, hv], hp⟩, by dsimp only; omega, Weak.of (by rfl) ?_ ?_ (by rfl)⟩
      · simp (config := { maxSteps := 4000000 }) only [go_sem, Nat.reduceEqDiff, Nat.reduceAdd, Nat.reduceMul, Nat.reduceSub, Nat.reduceLT, Nat.reduceLeDiff, reduceIte, reduceCtorEq, Int.reduceToNat, Int.reduceLE, Int.reduceLT, Int.reduceEq, Int.reduceGT, Int.reduceGE, Int.reduceAdd, Int.reduceSub, Int.reduceNeg, Int.reduceMul, ↓bT, ↓bF, ↓backK_top, ↓backK_int, ↓backK_bool, ↓backK_sl, ↓backK_fn, ↓backK_agg, ↓backK_tup, ↓backK_pel, ↓backK_osl, ↓backK_may, ↓backK_box, ↓bothTT, ↓bothTF, ↓bothFT, ↓bothFF, bothTT, bothTF, bothFT, bothFF, ↓bothTT, ↓bothTF, ↓bothFT, ↓bothFF, ↓bothNT, ↓bothNF, ↓bothCT, ↓bothCF, Try.f105, cellsI_wk, putV, frW, wk2, wk1, wkL, wkB, hpW, List.mem_cons, Prod.mk.injEq, exists_eq_left, exists_eq_right, exists_eq]
      · simp (config := { maxSteps := 4000000 }) only [go_sem, Nat.reduceEqDiff, Nat.reduceAdd, Nat.reduceMul, Nat.reduceSub, Nat.reduceLT, Nat.reduceLeDiff, reduceIte, reduceCtorEq, Int.reduceToNat, Int.reduceLE, Int.reduceLT, Int.reduceEq, Int.reduceGT, Int.reduceGE, Int.reduceAdd, Int.reduceSub, Int.reduceNeg, Int.reduceMul, ↓bT, ↓bF, ↓backK_top, ↓backK_int, ↓backK_bool, ↓backK_sl, ↓backK_fn, ↓backK_agg, ↓backK_tup, ↓backK_pel, ↓backK_osl, ↓backK_may, ↓backK_box, ↓bothTT, ↓bothTF, ↓bothFT, ↓bothFF, bothTT, bothTF, bothFT, bothFF, ↓bothTT, ↓bothTF, ↓bothFT, ↓bothFF, ↓bothNT, ↓bothNF, ↓bothCT, ↓bothCF, Try.f105, hw, frW, wk2, wk1, wkL, wkB, hpW, List.mem_cons, Prod.mk.injEq, exists_eq_left, exists_eq_right, exists_eq]
    · have : i = xs.length := by omega
      subst this
      simp only [List.drop_length, List.foldl_nil] at hp
      subst hp
      simp (config := { maxSteps := 4000000 }) only [go_sem, Nat.reduceEqDiff, Nat.reduceAdd, Nat.reduceMul, Nat.reduceSub, Nat.reduceLT, Nat.reduceLeDiff, reduceIte, reduceCtorEq, Int.reduceToNat, Int.reduceLE, Int.reduceLT, Int.reduceEq, Int.reduceGT, Int.reduceGE, Int.reduceAdd, Int.reduceSub, Int.reduceNeg, Int.reduceMul, ↓bT, ↓bF, ↓backK_top, ↓backK_int, ↓backK_bool, ↓backK_sl, ↓backK_fn, ↓backK_agg, ↓backK_tup, ↓backK_pel, ↓backK_osl, ↓backK_may, ↓backK_box, ↓bothTT, ↓bothTF, ↓bothFT, ↓bothFF, bothTT, bothTF, bothFT, bothFF, ↓bothTT, ↓bothTF, ↓bothFT, ↓bothFF, ↓bothNT, ↓bothNF, ↓bothCT, ↓bothCF, Try.f105, nlf h, cl, cz, cellsI_take _ 32 hv, cellsI_one, cellsI_exp, cellsI_rw]

theorem foldl_putV (xs : List Entry) (v : List Int) (k : Nat) (hv : v.length = 32) (hk : k < 32) (ha : ∀ e, e ∈ xs → 0 ≤ e.key) (hd : (xs.map Entry.key).Nodup) :
    ((xs.foldl putV v).length = 32) ∧ (xs.foldl putV v).getD k 0 = if (k : Int) ∈ xs.map Entry.key then valAt xs k else v.getD k 0 := by
  induction xs generalizing v with
  | nil => exact ⟨hv, by simp⟩
  | cons e r ih =>
    have h0 : 0 ≤ e.key := ha e (by simp)
    rw [List.map_cons, List.nodup_cons] at hd
    have hv' : (putV v e).length = 32 := by simp [putV, hv]
    obtain ⟨h1, h2⟩ := ih (putV v e) hv' (fun x hx => ha x (List.mem_cons_of_mem _ hx)) hd.2
    refine ⟨h1, ?_⟩
    rw [List.foldl_cons, h2]
    simp only [List.map_cons, List.mem_cons]
    rw [show valAt (e :: r) k = if e.key = (k : Int) then e.value else valAt r k from rfl]
    by_cases he : e.key = (k : Int)
    · have : ¬ (k : Int) ∈ r.map Entry.key := by rw [← he]; exact hd.1
      rw [if_neg this, if_pos (.inl he.symm), if_pos he]
      have hkt : e.key.toNat = k := by omega
      simp [putV, List.getD_eq_getElem?_getD, hkt, hv, hk]
    · rw [if_neg he]
      have hkt : e.key.toNat ≠ k := by omega
      have : (putV v e).getD k 0 = v.getD k 0 := by simp [putV, List.getD_eq_getElem?_getD, hkt]
      rw [this]
      have he' : ¬ (k : Int) = e.key := fun h => he h.symm
      simp only [he', false_or]

/-- Keys of a store. -/
theorem entOk_spec (least : Int) : ∀ (xs : List Entry) (last : Int), entOk least last xs = true → (∀ e, e ∈ xs → last < e.key ∧ e.key ≤ 31 ∧ least ≤ e.value ∧ e.value ≤ 1000000) ∧ (xs.map Entry.key).Nodup
  | [], _, _ => ⟨fun e he => (by cases he), by simp⟩
  | e :: r, last, h => by
    simp only [entOk, Bool.and_eq_true] at h
    obtain ⟨⟨h1, h2⟩, h3⟩ := h
    have h1 := inB_iff.1 h1
    have h2 := inB_iff.1 h2
    obtain ⟨h4, h5⟩ := entOk_spec least r _ h3
    refine ⟨fun x hx => ?_, ?_⟩
    · rcases List.mem_cons.1 hx with rfl | hx
      · omega
      · have := h4 x hx; omega
    · rw [List.map_cons, List.nodup_cons]
      refine ⟨fun hm => ?_, h5⟩
      obtain ⟨x, hx, e'⟩ := List.mem_map.1 hm
      have := h4 x hx; omega

theorem valAt_bd {xs : List Entry} (h : ∀ e, e ∈ xs → 0 ≤ e.value ∧ e.value ≤ 1000000) (k : Int) : 0 ≤ valAt xs k ∧ valAt xs k ≤ 1000000 := by
  induction xs with
  | nil => simp [valAt]
  | cons e r ih =>
    unfold valAt
    split
    · exact h e (by simp)
    · exact ih fun x hx => h x (List.mem_cons_of_mem _ hx)

theorem valAt_none {xs : List Entry} {k : Int} (h : ¬ k ∈ xs.map Entry.key) : valAt xs k = 0 := by
  induction xs with
  | nil => rfl
  | cons e r ih =>
    simp only [List.map_cons, List.mem_cons, not_or] at h
    unfold valAt
    rw [if_neg (fun e => h.1 e.symm)]
    exact ih h.2

/-- The values of a store, one by one. -/
theorem valuesL_get {xs : List Entry} (h : storeValid xs = true) (k : Nat) (hk : k < 32) : (valuesL xs).length = 32 ∧ (valuesL xs).getD k 0 = valAt xs k := by
  obtain ⟨h1, h2⟩ := entOk_spec 1 xs (-1) h
  obtain ⟨h3, h4⟩ := foldl_putV xs zeros32 k rfl hk (fun e he => by have := h1 e he; omega) h2
  refine ⟨h3, ?_⟩
  unfold valuesL
  rw [h4]
  split
  · rfl
  · rename_i hm
    rw [valAt_none hm]
    simp only [zeros32, List.getD_eq_getElem?_getD, List.getElem?_replicate, hk, if_true, Option.getD_some]

end Go.Proofs.Ytdaemhaecjldaaa

/- Contracts: levels, roots. -/
set_option linter.unusedSimpArgs false
set_option linter.unusedVariables false
set_option maxRecDepth 20000
set_option maxHeartbeats 2000000
namespace Go.Proofs.Ytdaemhaecjldaaa
open Go Go.RowKit

/-- The root of a store. -/
def rootOf (xs : List Entry) : Int := if storeValid xs then (upN 5 (leaves xs)).getD 0 0 else -1

def encL (l : List Int) : List AV := [.sl none (rows encI l)]

theorem upN_succ : ∀ (n : Nat) (l : List Int), upN (n + 1) l = pairUp (upN n l)
  | 0, _ => rfl
  | n + 1, l => upN_succ n (pairUp l)

theorem pairUp_lenE : ∀ (l : List Int), l.length % 2 = 0 → 2 * (pairUp l).length = l.length
  | a :: b :: r, h => by have := pairUp_lenE r (by simp at h; omega); simp [pairUp]; omega
  | [], _ => by simp [pairUp]
  | [_], h => by simp at h

theorem cellsI_get (v : List Int) (i : Nat) (d : AV) (h : i < v.length) : (cellsI v).getD i d = .int .i64 (v.getD i 0) := by
  simp [cellsI, List.getD_eq_getElem?_getD, h]

theorem c_impl_levels (n1 : Option Bool) (xs : List Entry) (hx : xs.length < 2 ^ 62) (hs : storeValid xs = true) :
    Det Try.prog 170 [.sl n1 (rows encE xs)] (.sl none (rows encL [leaves xs, upN 1 (leaves xs), upN 2 (leaves xs), upN 3 (leaves xs), upN 4 (leaves xs), upN 5 (leaves xs)])) := by
  obtain ⟨hk, _⟩ := entOk_spec 1 xs (-1) hs
  have hv : ∀ k, 0 ≤ valAt xs k ∧ valAt xs k ≤ 1000000 := valAt_bd fun e he => by have := hk e he; omega
  refine fspec_det tab_ok Try.call170 Try.func170 rfl 48 Try.ntmps170 (of_decide_eq_true rfl) fun B => codeK_sound tab_ok _ _ _ ?_
  simp (config := { maxSteps := 4000000 }) only [go_sem, Nat.reduceEqDiff, Nat.reduceAdd, Nat.reduceMul, Nat.reduceSub, Nat.reduceLT, Nat.reduceLeDiff, reduceIte, reduceCtorEq, Int.reduceToNat, Int.reduceLE, Int.reduceLT, Int.reduceEq, Int.reduceGT, Int.reduceGE, Int.reduceAdd, Int.reduceSub, Int.reduceNeg, Int.reduceMul, ↓bT, ↓bF, ↓backK_top, ↓backK_int, ↓backK_bool, ↓backK_sl, ↓backK_fn, ↓backK_agg, ↓backK_tup, ↓backK_pel, ↓backK_osl, ↓backK_may, ↓backK_box, ↓bothTT, ↓bothTF, ↓bothFT, ↓bothFF, bothTT, bothTF, bothFT, bothFF, ↓bothTT, ↓bothTF, ↓bothFT, ↓bothFF, ↓bothNT, ↓bothNF, ↓bothCT, ↓bothCF, Try.f170]
  refine CallTo.det (c_impl_valuesOf _ _ hx fun e he => by have := hk e he; omega) fun _ => ?_
  simp (config := { maxSteps := 4000000 }) only [go_sem, Nat.reduceEqDiff, Nat.reduceAdd, Nat.reduceMul, Nat.reduceSub, Nat.reduceLT, Nat.reduceLeDiff, reduceIte, reduceCtorEq, Int.reduceToNat, Int.reduceLE, Int.reduceLT, Int.reduceEq, Int.reduceGT, Int.reduceGE, Int.reduceAdd, Int.reduceSub, Int.reduceNeg, Int.reduceMul, ↓bT, ↓bF, ↓backK_top, ↓backK_int, ↓backK_bool, ↓backK_sl, ↓backK_fn, ↓backK_agg, ↓backK_tup, ↓backK_pel, ↓backK_osl, ↓backK_may, ↓backK_box, ↓bothTT, ↓bothTF, ↓bothFT, ↓bothFF, bothTT, bothTF, bothFT, bothFF, ↓bothTT, ↓bothTF, ↓bothFT, ↓bothFF, ↓bothNT, ↓bothNF, ↓bothCT, ↓bothCF, Try.f170, cellsI_impL, cellsI_impLB]
  refine semL_nilA 3 3 1 true (by rfl) (by rfl) (by decide) (by decide) ?_
  refine semL_ghostX ?_
  refine semL_for tab_ok (fun i : Nat => ⟨48, [(3, .row 3 i), (10, .agg (cellsI (valuesL xs))), (11, .int .i64 i)], [(3, .row true false 1 (rows encI (upto (fun k => leafSum k (valAt xs k)) i)))]⟩) (fun i => 32 - i)
    (fun i => i ≤ 32) 0 [(3, 3)] (Weak.of (by rfl) ?_ ?_ (by rfl)) (by omega) ?_
  · simp (config := { maxSteps := 4000000 }) only [go_sem, Nat.reduceEqDiff, Nat.reduceAdd, Nat.reduceMul, Nat.reduceSub, Nat.reduceLT, Nat.reduceLeDiff, reduceIte, reduceCtorEq, Int.reduceToNat, Int.reduceLE, Int.reduceLT, Int.reduceEq, Int.reduceGT, Int.reduceGE, Int.reduceAdd, Int.reduceSub, Int.reduceNeg, Int.reduceMul, ↓bT, ↓bF, ↓backK_top, ↓backK_int, ↓backK_bool, ↓backK_sl, ↓backK_fn, ↓backK_agg, ↓backK_tup, ↓backK_pel, ↓backK_osl, ↓backK_may, ↓backK_box, ↓bothTT, ↓bothTF, ↓bothFT, ↓bothFF, bothTT, bothTF, bothFT, bothFF, ↓bothTT, ↓bothTF, ↓bothFT, ↓bothFF, ↓bothNT, ↓bothNF, ↓bothCT, ↓bothCF, Try.f170, frW, wk2, wk1, wkL, wkB, hpW, List.mem_cons, Prod.mk.injEq, exists_eq_left, exists_eq_right, exists_eq]
    rfl
  · simp (config := { maxSteps := 4000000 }) only [go_sem, Nat.reduceEqDiff, Nat.reduceAdd, Nat.reduceMul, Nat.reduceSub, Nat.reduceLT, Nat.reduceLeDiff, reduceIte, reduceCtorEq, Int.reduceToNat, Int.reduceLE, Int.reduceLT, Int.reduceEq, Int.reduceGT, Int.reduceGE, Int.reduceAdd, Int.reduceSub, Int.reduceNeg, Int.reduceMul, ↓bT, ↓bF, ↓backK_top, ↓backK_int, ↓backK_bool, ↓backK_sl, ↓backK_fn, ↓backK_agg, ↓backK_tup, ↓backK_pel, ↓backK_osl, ↓backK_may, ↓backK_box, ↓bothTT, ↓bothTF, ↓bothFT, ↓bothFF, bothTT, bothTF, bothFT, bothFF, ↓bothTT, ↓bothTF, ↓bothFT, ↓bothFF, ↓bothNT, ↓bothNF, ↓bothCT, ↓bothCF, Try.f170, cellsI_wk, frW, wk2, wk1, wkL, wkB, hpW, List.mem_cons, Prod.mk.injEq, exists_eq_left, exists_eq_right, exists_eq]
  · rintro i hi
    by_cases h : i < 32
    · have hd : decide ((i : Int) < 32) = true := by simp; omega
      have hw : IntKind.i64.wrap ((i : Int) + 1) = ((i + 1 : Nat) : Int) := by rw [wrap_small _ (by omega) (by omega)]; simp
      have ht := take_rows encI (upto (fun k => leafSum k (valAt xs k)) i) i (upto_length _ _).symm
      obtain ⟨hl, hg⟩ := valuesL_get hs i h
      have hg' : (cellsI (valuesL xs)).getD i .top = .int .i64 (valAt xs i) := by rw [cellsI_get _ _ _ (by omega), hg]
      have hcl : (cellsI (valuesL xs)).length = 32 := by rw [cellsI_length]; exact hl
      simp (config := { maxSteps := 4000000 }) only [go_sem, Nat.reduceEqDiff, Nat.reduceAdd, Nat.reduceMul, Nat.reduceSub, Nat.reduceLT, Nat.reduceLeDiff, reduceIte, reduceCtorEq, Int.reduceToNat, Int.reduceLE, Int.reduceLT, Int.reduceEq, Int.reduceGT, Int.reduceGE, Int.reduceAdd, Int.reduceSub, Int.reduceNeg, Int.reduceMul, ↓bT, ↓bF, ↓backK_top, ↓backK_int, ↓backK_bool, ↓backK_sl, ↓backK_fn, ↓backK_agg, ↓backK_tup, ↓backK_pel, ↓backK_osl, ↓backK_may, ↓backK_box, ↓bothTT, ↓bothTF, ↓bothFT, ↓bothFF, bothTT, bothTF, bothFT, bothFF, ↓bothTT, ↓bothTF, ↓bothFT, ↓bothFF, ↓bothNT, ↓bothNF, ↓bothCT, ↓bothCF, Try.f170, hd, hw, hg', hcl, nn0]
      refine ⟨by omega, h, CallTo.det (c_impl_LeafSum _ _) fun _ => ?_⟩
      simp (config := { maxSteps := 4000000 }) only [go_sem, Nat.reduceEqDiff, Nat.reduceAdd, Nat.reduceMul, Nat.reduceSub, Nat.reduceLT, Nat.reduceLeDiff, reduceIte, reduceCtorEq, Int.reduceToNat, Int.reduceLE, Int.reduceLT, Int.reduceEq, Int.reduceGT, Int.reduceGE, Int.reduceAdd, Int.reduceSub, Int.reduceNeg, Int.reduceMul, ↓bT, ↓bF, ↓backK_top, ↓backK_int, ↓backK_bool, ↓backK_sl, ↓backK_fn, ↓backK_agg, ↓backK_tup, ↓backK_pel, ↓backK_osl, ↓backK_may, ↓backK_box, ↓bothTT, ↓bothTF, ↓bothFT, ↓bothFF, bothTT, bothTF, bothFT, bothFF, ↓bothTT, ↓bothTF, ↓bothFT, ↓bothFF, ↓bothNT, ↓bothNF, ↓bothCT, ↓bothCF, Try.f170, hd, hw, hg', hcl, nn0, ht, rows_length, upto_length]
      refine ⟨by omega, by simp, by omega, by omega, i + 1, [(20, 3)], by omega, by dsimp only; omega, Weak.of (by rfl) ?_ ?_ (by rfl)⟩
      · simp (config := { maxSteps := 4000000 }) only [go_sem, Nat.reduceEqDiff, Nat.reduceAdd, Nat.reduceMul, Nat.reduceSub, Nat.reduceLT, Nat.reduceLeDiff, reduceIte, reduceCtorEq, Int.reduceToNat, Int.reduceLE, Int.reduceLT, Int.reduceEq, Int.reduceGT, Int.reduceGE, Int.reduceAdd, Int.reduceSub, Int.reduceNeg, Int.reduceMul, ↓bT, ↓bF, ↓backK_top, ↓backK_int, ↓backK_bool, ↓backK_sl, ↓backK_fn, ↓backK_agg, ↓backK_tup, ↓backK_pel, ↓backK_osl, ↓backK_may, ↓backK_box, ↓bothTT, ↓bothTF, ↓bothFT, ↓bothFF, bothTT, bothTF, bothFT, bothFF, ↓bothTT, ↓bothTF, ↓bothFT, ↓bothFF, ↓bothNT, ↓bothNF, ↓bothCT, ↓bothCF, Try.f170, upto_succ, frW, wk2, wk1, wkL, wkB, hpW, List.mem_cons, Prod.mk.injEq, exists_eq_left, exists_eq_right, exists_eq]
        exact (rows_snoc encI _ _).symm
      · simp (config := { maxSteps := 4000000 }) only [go_sem, Nat.reduceEqDiff, Nat.reduceAdd, Nat.reduceMul, Nat.reduceSub, Nat.reduceLT, Nat.reduceLeDiff, reduceIte, reduceCtorEq, Int.reduceToNat, Int.reduceLE, Int.reduceLT, Int.reduceEq, Int.reduceGT, Int.reduceGE, Int.reduceAdd, Int.reduceSub, Int.reduceNeg, Int.reduceMul, ↓bT, ↓bF, ↓backK_top, ↓backK_int, ↓backK_bool, ↓backK_sl, ↓backK_fn, ↓backK_agg, ↓backK_tup, ↓backK_pel, ↓backK_osl, ↓backK_may, ↓backK_box, ↓bothTT, ↓bothTF, ↓bothFT, ↓bothFF, bothTT, bothTF, bothFT, bothFF, ↓bothTT, ↓bothTF, ↓bothFT, ↓bothFF, ↓bothNT, ↓bothNF, ↓bothCT, ↓bothCF, Try.f170, cellsI_wk, frW, wk2, wk1, wkL, wkB, hpW, List.mem_cons, Prod.mk.injEq, exists_eq_left, exists_eq_right, exists_eq]
    · have : i = 32 := by omega
      subst this
      simp (config := { maxSteps := 4000000 }) only [go_sem, Nat.reduceEqDiff, Nat.reduceAdd, Nat.reduceMul, Nat.reduceSub, Nat.reduceLT, Nat.reduceLeDiff, reduceIte, reduceCtorEq, Int.reduceToNat, Int.reduceLE, Int.reduceLT, Int.reduceEq, Int.reduceGT, Int.reduceGE, Int.reduceAdd, Int.reduceSub, Int.reduceNeg, Int.reduceMul, ↓bT, ↓bF, ↓backK_top, ↓backK_int, ↓backK_bool, ↓backK_sl, ↓backK_fn, ↓backK_agg, ↓backK_tup, ↓backK_pel, ↓backK_osl, ↓backK_may, ↓backK_box, ↓bothTT, ↓bothTF, ↓bothFT, ↓bothFF, bothTT, bothTF, bothFT, bothFF, ↓bothTT, ↓bothTF, ↓bothFT, ↓bothFF, ↓bothNT, ↓bothNF, ↓bothCT, ↓bothCF, Try.f170]
      refine GhostK.go _ ((Ghost.weak (t := ⟨48, [(3, .row 3 32)], [(3, .fro 1 (rows encI (leaves xs)))]⟩) (ρ := [(3, 3)]) (Weak.of (by rfl) ?_ ?_ (by rfl))).trans ((Ghost.pure 3 3 32 1 rfl rfl ?_).trans
        (Ghost.weak (t := ⟨48, [(3, .sl none (rows encI (leaves xs)))], []⟩) (ρ := []) (Weak.of (by rfl) ?_ ?_ (by rfl))))) ?_
      · simp (config := { maxSteps := 4000000 }) only [go_sem, Nat.reduceEqDiff, Nat.reduceAdd, Nat.reduceMul, Nat.reduceSub, Nat.reduceLT, Nat.reduceLeDiff, reduceIte, reduceCtorEq, Int.reduceToNat, Int.reduceLE, Int.reduceLT, Int.reduceEq, Int.reduceGT, Int.reduceGE, Int.reduceAdd, Int.reduceSub, Int.reduceNeg, Int.reduceMul, ↓bT, ↓bF, ↓backK_top, ↓backK_int, ↓backK_bool, ↓backK_sl, ↓backK_fn, ↓backK_agg, ↓backK_tup, ↓backK_pel, ↓backK_osl, ↓backK_may, ↓backK_box, ↓bothTT, ↓bothTF, ↓bothFT, ↓bothFF, bothTT, bothTF, bothFT, bothFF, ↓bothTT, ↓bothTF, ↓bothFT, ↓bothFF, ↓bothNT, ↓bothNF, ↓bothCT, ↓bothCF, Try.f170, frW, wk2, wk1, wkL, wkB, hpW, List.mem_cons, Prod.mk.injEq, exists_eq_left, exists_eq_right, exists_eq]
        rfl
      · simp (config := { maxSteps := 4000000 }) only [go_sem, Nat.reduceEqDiff, Nat.reduceAdd, Nat.reduceMul, Nat.reduceSub, Nat.reduceLT, Nat.reduceLeDiff, reduceIte, reduceCtorEq, Int.reduceToNat, Int.reduceLE, Int.reduceLT, Int.reduceEq, Int.reduceGT, Int.reduceGE, Int.reduceAdd, Int.reduceSub, Int.reduceNeg, Int.reduceMul, ↓bT, ↓bF, ↓backK_top, ↓backK_int, ↓backK_bool, ↓backK_sl, ↓backK_fn, ↓backK_agg, ↓backK_tup, ↓backK_pel, ↓backK_osl, ↓backK_may, ↓backK_box, ↓bothTT, ↓bothTF, ↓bothFT, ↓bothFF, bothTT, bothTF, bothFT, bothFF, ↓bothTT, ↓bothTF, ↓bothFT, ↓bothFF, ↓bothNT, ↓bothNF, ↓bothCT, ↓bothCF, Try.f170, frW, wk2, wk1, wkL, wkB, hpW, List.mem_cons, Prod.mk.injEq, exists_eq_left, exists_eq_right, exists_eq]
      · simp [rows_length, leaves, upto_length]
      · simp (config := { maxSteps := 4000000 }) only [go_sem, Nat.reduceEqDiff, Nat.reduceAdd, Nat.reduceMul, Nat.reduceSub, Nat.reduceLT, Nat.reduceLeDiff, reduceIte, reduceCtorEq, Int.reduceToNat, Int.reduceLE, Int.reduceLT, Int.reduceEq, Int.reduceGT, Int.reduceGE, Int.reduceAdd, Int.reduceSub, Int.reduceNeg, Int.reduceMul, ↓bT, ↓bF, ↓backK_top, ↓backK_int, ↓backK_bool, ↓backK_sl, ↓backK_fn, ↓backK_agg, ↓backK_tup, ↓backK_pel, ↓backK_osl, ↓backK_may, ↓backK_box, ↓bothTT, ↓bothTF, ↓bothFT, ↓bothFF, bothTT, bothTF, bothFT, bothFF, ↓bothTT, ↓bothTF, ↓bothFT, ↓bothFF, ↓bothNT, ↓bothNF, ↓bothCT, ↓bothCF, Try.f170, frW, wk2, wk1, wkL, wkB, hpW, List.mem_cons, Prod.mk.injEq, exists_eq_left, exists_eq_right, exists_eq]
      · simp (config := { maxSteps := 4000000 }) only [go_sem, Nat.reduceEqDiff, Nat.reduceAdd, Nat.reduceMul, Nat.reduceSub, Nat.reduceLT, Nat.reduceLeDiff, reduceIte, reduceCtorEq, Int.reduceToNat, Int.reduceLE, Int.reduceLT, Int.reduceEq, Int.reduceGT, Int.reduceGE, Int.reduceAdd, Int.reduceSub, Int.reduceNeg, Int.reduceMul, ↓bT, ↓bF, ↓backK_top, ↓backK_int, ↓backK_bool, ↓backK_sl, ↓backK_fn, ↓backK_agg, ↓backK_tup, ↓backK_pel, ↓backK_osl, ↓backK_may, ↓backK_box, ↓bothTT, ↓bothTF, ↓bothFT, ↓bothFF, bothTT, bothTF, bothFT, bothFF, ↓bothTT, ↓bothTF, ↓bothFT, ↓bothFF, ↓bothNT, ↓bothNF, ↓bothCT, ↓bothCF, Try.f170, frW, wk2, wk1, wkL, wkB, hpW, List.mem_cons, Prod.mk.injEq, exists_eq_left, exists_eq_right, exists_eq]
      · simp (config := { maxSteps := 4000000 }) only [go_sem, Nat.reduceEqDiff, Nat.reduceAdd, Nat.reduceMul, Nat.reduceSub, Nat.reduceLT, Nat.reduceLeDiff, reduceIte, reduceCtorEq, Int.reduceToNat, Int.reduceLE, Int.reduceLT, Int.reduceEq, Int.reduceGT, Int.reduceGE, Int.reduceAdd, Int.reduceSub, Int.reduceNeg, Int.reduceMul, ↓bT, ↓bF, ↓backK_top, ↓backK_int, ↓backK_bool, ↓backK_sl, ↓backK_fn, ↓backK_agg, ↓backK_tup, ↓backK_pel, ↓backK_osl, ↓backK_may, ↓backK_box, ↓bothTT, ↓bothTF, ↓bothFT, ↓bothFF, bothTT, bothTF, bothFT, bothFF, ↓bothTT, ↓bothTF, ↓bothFT, ↓bothFF, ↓bothNT, ↓bothNF, ↓bothCT, ↓bothCF, Try.f170]
        refine semL_for tab_ok (fun p : Nat × List Int × List (List Int) => ⟨48, [(3, .sl none (rows encI p.2.1)), (6, .row 23 p.2.2.length), (24, .int .i64 p.1)], [(23, .row false true 1 (rows encL p.2.2))]⟩) (fun p => 5 - p.1)
          (fun p => p.1 ≤ 5 ∧ Smd p.2.1 ∧ p.2.1.length = 32 / 2 ^ p.1 ∧ p.2.1 = upN p.1 (leaves xs) ∧ p.2.2 = (List.range (p.1 + 1)).map fun j => upN j (leaves xs)) (0, leaves xs, [leaves xs]) [(23, 23)] (Weak.of (by rfl) ?_ ?_ (by rfl)) ⟨by omega, leaves_smd xs hv, by simp [leaves, upto_length], rfl, rfl⟩ ?_
        · simp (config := { maxSteps := 4000000 }) only [go_sem, Nat.reduceEqDiff, Nat.reduceAdd, Nat.reduceMul, Nat.reduceSub, Nat.reduceLT, Nat.reduceLeDiff, reduceIte, reduceCtorEq, Int.reduceToNat, Int.reduceLE, Int.reduceLT, Int.reduceEq, Int.reduceGT, Int.reduceGE, Int.reduceAdd, Int.reduceSub, Int.reduceNeg, Int.reduceMul, ↓bT, ↓bF, ↓backK_top, ↓backK_int, ↓backK_bool, ↓backK_sl, ↓backK_fn, ↓backK_agg, ↓backK_tup, ↓backK_pel, ↓backK_osl, ↓backK_may, ↓backK_box, ↓bothTT, ↓bothTF, ↓bothFT, ↓bothFF, bothTT, bothTF, bothFT, bothFF, ↓bothTT, ↓bothTF, ↓bothFT, ↓bothFF, ↓bothNT, ↓bothNF, ↓bothCT, ↓bothCF, Try.f170, frW, wk2, wk1, wkL, wkB, hpW, List.mem_cons, Prod.mk.injEq, exists_eq_left, exists_eq_right, exists_eq]
          rfl
        · simp (config := { maxSteps := 4000000 }) only [go_sem, Nat.reduceEqDiff, Nat.reduceAdd, Nat.reduceMul, Nat.reduceSub, Nat.reduceLT, Nat.reduceLeDiff, reduceIte, reduceCtorEq, Int.reduceToNat, Int.reduceLE, Int.reduceLT, Int.reduceEq, Int.reduceGT, Int.reduceGE, Int.reduceAdd, Int.reduceSub, Int.reduceNeg, Int.reduceMul, ↓bT, ↓bF, ↓backK_top, ↓backK_int, ↓backK_bool, ↓backK_sl, ↓backK_fn, ↓backK_agg, ↓backK_tup, ↓backK_pel, ↓backK_osl, ↓backK_may, ↓backK_box, ↓bothTT, ↓bothTF, ↓bothFT, ↓bothFF, bothTT, bothTF, bothFT, bothFF, ↓bothTT, ↓bothTF, ↓bothFT, ↓bothFF, ↓bothNT, ↓bothNF, ↓bothCT, ↓bothCF, Try.f170, frW, wk2, wk1, wkL, wkB, hpW, List.mem_cons, Prod.mk.injEq, exists_eq_left, exists_eq_right, exists_eq]
        · rintro ⟨i, r, acc⟩ ⟨hi, hr, hl, hu, hacc⟩
          dsimp only at hi hr hl hu hacc
          by_cases h : i < 5
          · have hd : decide ((i : Int) < 5) = true := by simp; omega
            simp (config := { maxSteps := 4000000 }) only [go_sem, Nat.reduceEqDiff, Nat.reduceAdd, Nat.reduceMul, Nat.reduceSub, Nat.reduceLT, Nat.reduceLeDiff, reduceIte, reduceCtorEq, Int.reduceToNat, Int.reduceLE, Int.reduceLT, Int.reduceEq, Int.reduceGT, Int.reduceGE, Int.reduceAdd, Int.reduceSub, Int.reduceNeg, Int.reduceMul, ↓bT, ↓bF, ↓backK_top, ↓backK_int, ↓backK_bool, ↓backK_sl, ↓backK_fn, ↓backK_agg, ↓backK_tup, ↓backK_pel, ↓backK_osl, ↓backK_may, ↓backK_box, ↓bothTT, ↓bothTF, ↓bothFT, ↓bothFF, bothTT, bothTF, bothFT, bothFF, ↓bothTT, ↓bothTF, ↓bothFT, ↓bothFF, ↓bothNT, ↓bothNF, ↓bothCT, ↓bothCF, Try.f170, hd]
            have he : r.length % 2 = 0 ∧ r.length ≤ 32 := by
              rcases (by omega : i = 0 ∨ i = 1 ∨ i = 2 ∨ i = 3 ∨ i = 4) with rfl | rfl | rfl | rfl | rfl <;> simp at hl <;> omega
            refine semL_nilA 7 7 1 true (by rfl) (by rfl) (by decide) (by decide) ?_
            refine semL_ghostX ?_
            refine semL_for tab_ok (fun p : Nat × List Int => ⟨48, [(3, .sl none (rows encI r)), (6, .row 23 acc.length), (7, .row 7 p.2.length), (8, .int .i64 p.1), (24, .int .i64 i)], [(7, .row true false 1 (rows encI p.2)), (23, .row false true 1 (rows encL acc))]⟩) (fun p => r.length - p.1)
              (fun p => p.1 ≤ r.length ∧ p.1 % 2 = 0 ∧ p.2.length ≤ 32 ∧ p.2 ++ pairUp (r.drop p.1) = pairUp r) (0, []) [(7, 7), (23, 23)] (Weak.of (by rfl) ?_ ?_ (by rfl)) ⟨by omega, rfl, by simp, rfl⟩ ?_
            · simp (config := { maxSteps := 4000000 }) only [go_sem, Nat.reduceEqDiff, Nat.reduceAdd, Nat.reduceMul, Nat.reduceSub, Nat.reduceLT, Nat.reduceLeDiff, reduceIte, reduceCtorEq, Int.reduceToNat, Int.reduceLE, Int.reduceLT, Int.reduceEq, Int.reduceGT, Int.reduceGE, Int.reduceAdd, Int.reduceSub, Int.reduceNeg, Int.reduceMul, ↓bT, ↓bF, ↓backK_top, ↓backK_int, ↓backK_bool, ↓backK_sl, ↓backK_fn, ↓backK_agg, ↓backK_tup, ↓backK_pel, ↓backK_osl, ↓backK_may, ↓backK_box, ↓bothTT, ↓bothTF, ↓bothFT, ↓bothFF, bothTT, bothTF, bothFT, bothFF, ↓bothTT, ↓bothTF, ↓bothFT, ↓bothFF, ↓bothNT, ↓bothNF, ↓bothCT, ↓bothCF, Try.f170, frW, wk2, wk1, wkL, wkB, hpW, List.mem_cons, Prod.mk.injEq, exists_eq_left, exists_eq_right, exists_eq]
              rfl
            · simp (config := { maxSteps := 4000000 }) only [go_sem, Nat.reduceEqDiff, Nat.reduceAdd, Nat.reduceMul, Nat.reduceSub, Nat.reduceLT, Nat.reduceLeDiff, reduceIte, reduceCtorEq, Int.reduceToNat, Int.reduceLE, Int.reduceLT, Int.reduceEq, Int.reduceGT, Int.reduceGE, Int.reduceAdd, Int.reduceSub, Int.reduceNeg, Int.reduceMul, ↓bT, ↓bF, ↓backK_top, ↓backK_int, ↓backK_bool, ↓backK_sl, ↓backK_fn, ↓backK_agg, ↓backK_tup, ↓backK_pel, ↓backK_osl, ↓backK_may, ↓backK_box, ↓bothTT, ↓bothTF, ↓bothFT, ↓bothFF, bothTT, bothTF, bothFT, bothFF, ↓bothTT, ↓bothTF, ↓bothFT, ↓bothFF, ↓bothNT, ↓bothNF, ↓bothCT, ↓bothCF, Try.f170, frW, wk2, wk1, wkL, wkB, hpW, List.mem_cons, Prod.mk.injEq, exists_eq_left, exists_eq_right, exists_eq]
            · rintro ⟨j, nx⟩ ⟨hj, hj2, hn, hp⟩
              dsimp only at hj hj2 hn hp
              by_cases h0 : j < r.length
              · have h1 : j + 1 < r.length := by omega
                have hw2 : IntKind.i64.wrap ((j : Int) + 2) = ((j + 2 : Nat) : Int) := by rw [wrap_small _ (by omega) (by omega)]; simp
                simp (config := { maxSteps := 4000000 }) only [go_sem, Nat.reduceEqDiff, Nat.reduceAdd, Nat.reduceMul, Nat.reduceSub, Nat.reduceLT, Nat.reduceLeDiff, reduceIte, reduceCtorEq, Int.reduceToNat, Int.reduceLE, Int.reduceLT, Int.reduceEq, Int.reduceGT, Int.reduceGE, Int.reduceAdd, Int.reduceSub, Int.reduceNeg, Int.reduceMul, ↓bT, ↓bF, ↓backK_top, ↓backK_int, ↓backK_bool, ↓backK_sl, ↓backK_fn, ↓backK_agg, ↓backK_tup, ↓backK_pel, ↓backK_osl, ↓backK_may, ↓backK_box, ↓bothTT, ↓bothTF, ↓bothFT, ↓bothFF, bothTT, bothTF, bothFT, bothFF, ↓bothTT, ↓bothTF, ↓bothFT, ↓bothFF, ↓bothNT, ↓bothNF, ↓bothCT, ↓bothCF, Try.f170, rows_length, nlt h0, hw2]
                have hb1 := hr _ (List.getElem_mem h0)
                have hb2 := hr _ (List.getElem_mem h1)
                have hsl : List.drop j (List.take (j + 2) (rows encI r)) = rows encI [r[j], r[j + 1]] := by
                  rw [List.drop_take, show rows encI r = r.map encI from rfl, ← List.map_drop, drop_cons r j h0, drop_cons r (j + 1) h1, show j + 2 - j = 2 by omega]; rfl
                have hso : sumOf 2 [r[j], r[j + 1]] = sumI 19 [r[j], r[j + 1]] := by
                  unfold sumOf; rw [if_pos (by simp [isSummedB]; omega)]; rfl
                have ht := take_rows encI nx nx.length rfl
                have hnl : nx.length < 32 := by
                  have h2 := congrArg List.length hp
                  have h3 := pairUp_len r
                  rw [drop_cons r j h0, drop_cons r (j + 1) h1] at h2
                  simp [pairUp] at h2
                  omega
                rw [drop_cons r j h0, drop_cons r (j + 1) h1] at hp
                simp only [pairUp] at hp
                rw [hsl]
                refine ⟨⟨by omega, by omega, by omega⟩, fun _ _ => by rw [rows_get _ _ 0 (by omega)]; rfl, CallTo.det (c_impl_SumOf 2 _ _ (by simp)) fun _ => ?_⟩
                simp (config := { maxSteps := 4000000 }) only [go_sem, Nat.reduceEqDiff, Nat.reduceAdd, Nat.reduceMul, Nat.reduceSub, Nat.reduceLT, Nat.reduceLeDiff, reduceIte, reduceCtorEq, Int.reduceToNat, Int.reduceLE, Int.reduceLT, Int.reduceEq, Int.reduceGT, Int.reduceGE, Int.reduceAdd, Int.reduceSub, Int.reduceNeg, Int.reduceMul, ↓bT, ↓bF, ↓backK_top, ↓backK_int, ↓backK_bool, ↓backK_sl, ↓backK_fn, ↓backK_agg, ↓backK_tup, ↓backK_pel, ↓backK_osl, ↓backK_may, ↓backK_box, ↓bothTT, ↓bothTF, ↓bothFT, ↓bothFF, bothTT, bothTF, bothFT, bothFF, ↓bothTT, ↓bothTF, ↓bothFT, ↓bothFF, ↓bothNT, ↓bothNF, ↓bothCT, ↓bothCF, Try.f170, rows_length, nlt h0, hw2, hso, ht]
                refine ⟨by omega, by simp, by omega, by omega, (j + 2, nx ++ [sumI 19 [r[j], r[j + 1]]]), [(40, 7), (23, 23)], ⟨by dsimp only; omega, by dsimp only; omega, by simp; omega, ?_⟩, by dsimp only; omega, Weak.of (by rfl) ?_ ?_ (by rfl)⟩
                · rw [← hp]; simp
                · simp (config := { maxSteps := 4000000 }) only [go_sem, Nat.reduceEqDiff, Nat.reduceAdd, Nat.reduceMul, Nat.reduceSub, Nat.reduceLT, Nat.reduceLeDiff, reduceIte, reduceCtorEq, Int.reduceToNat, Int.reduceLE, Int.reduceLT, Int.reduceEq, Int.reduceGT, Int.reduceGE, Int.reduceAdd, Int.reduceSub, Int.reduceNeg, Int.reduceMul, ↓bT, ↓bF, ↓backK_top, ↓backK_int, ↓backK_bool, ↓backK_sl, ↓backK_fn, ↓backK_agg, ↓backK_tup, ↓backK_pel, ↓backK_osl, ↓backK_may, ↓backK_box, ↓bothTT, ↓bothTF, ↓bothFT, ↓bothFF, bothTT, bothTF, bothFT, bothFF, ↓bothTT, ↓bothTF, ↓bothFT, ↓bothFF, ↓bothNT, ↓bothNF, ↓bothCT, ↓bothCF, Try.f170, frW, wk2, wk1, wkL, wkB, hpW, List.mem_cons, Prod.mk.injEq, exists_eq_left, exists_eq_right, exists_eq]
                  exact (rows_snoc encI _ _).symm
                · simp (config := { maxSteps := 4000000 }) only [go_sem, Nat.reduceEqDiff, Nat.reduceAdd, Nat.reduceMul, Nat.reduceSub, Nat.reduceLT, Nat.reduceLeDiff, reduceIte, reduceCtorEq, Int.reduceToNat, Int.reduceLE, Int.reduceLT, Int.reduceEq, Int.reduceGT, Int.reduceGE, Int.reduceAdd, Int.reduceSub, Int.reduceNeg, Int.reduceMul, ↓bT, ↓bF, ↓backK_top, ↓backK_int, ↓backK_bool, ↓backK_sl, ↓backK_fn, ↓backK_agg, ↓backK_tup, ↓backK_pel, ↓backK_osl, ↓backK_may, ↓backK_box, ↓bothTT, ↓bothTF, ↓bothFT, ↓bothFF, bothTT, bothTF, bothFT, bothFF, ↓bothTT, ↓bothTF, ↓bothFT, ↓bothFF, ↓bothNT, ↓bothNF, ↓bothCT, ↓bothCF, Try.f170, List.length_append, frW, wk2, wk1, wkL, wkB, hpW, List.mem_cons, Prod.mk.injEq, exists_eq_left, exists_eq_right, exists_eq]
              · simp (config := { maxSteps := 4000000 }) only [go_sem, Nat.reduceEqDiff, Nat.reduceAdd, Nat.reduceMul, Nat.reduceSub, Nat.reduceLT, Nat.reduceLeDiff, reduceIte, reduceCtorEq, Int.reduceToNat, Int.reduceLE, Int.reduceLT, Int.reduceEq, Int.reduceGT, Int.reduceGE, Int.reduceAdd, Int.reduceSub, Int.reduceNeg, Int.reduceMul, ↓bT, ↓bF, ↓backK_top, ↓backK_int, ↓backK_bool, ↓backK_sl, ↓backK_fn, ↓backK_agg, ↓backK_tup, ↓backK_pel, ↓backK_osl, ↓backK_may, ↓backK_box, ↓bothTT, ↓bothTF, ↓bothFT, ↓bothFF, bothTT, bothTF, bothFT, bothFF, ↓bothTT, ↓bothTF, ↓bothFT, ↓bothFF, ↓bothNT, ↓bothNF, ↓bothCT, ↓bothCF, Try.f170, rows_length, nlf h0]
                have hd' : pairUp (r.drop j) = [] := by rw [List.drop_of_length_le (by omega)]; rfl
                rw [hd', List.append_nil] at hp
                subst hp
                have hw : IntKind.i64.wrap ((i : Int) + 1) = ((i + 1 : Nat) : Int) := by rw [wrap_small _ (by omega) (by omega)]; simp
                have hal : acc.length = i + 1 := by rw [hacc]; simp
                have ht := take_rows encL acc acc.length rfl
                refine GhostK.go _ ((Ghost.weak (t := ⟨48, [(3, .sl none (rows encI r)), (6, .row 23 acc.length), (7, .row 7 (pairUp r).length), (24, .int .i64 i)], [(7, .fro 1 (rows encI (pairUp r))), (23, .row false true 1 (rows encL acc))]⟩) (ρ := [(7, 7), (23, 23)]) (Weak.of (by rfl) ?_ ?_ (by rfl))).trans ((Ghost.pure 7 7 (pairUp r).length 1 rfl rfl ?_).trans
                  (Ghost.weak (t := ⟨48, [(3, .sl none (rows encI r)), (6, .row 23 acc.length), (7, .sl none (rows encI (pairUp r))), (24, .int .i64 i)], [(23, .row false true 1 (rows encL acc))]⟩) (ρ := [(23, 23)]) (Weak.of (by rfl) ?_ ?_ (by rfl))))) ?_
                · simp (config := { maxSteps := 4000000 }) only [go_sem, Nat.reduceEqDiff, Nat.reduceAdd, Nat.reduceMul, Nat.reduceSub, Nat.reduceLT, Nat.reduceLeDiff, reduceIte, reduceCtorEq, Int.reduceToNat, Int.reduceLE, Int.reduceLT, Int.reduceEq, Int.reduceGT, Int.reduceGE, Int.reduceAdd, Int.reduceSub, Int.reduceNeg, Int.reduceMul, ↓bT, ↓bF, ↓backK_top, ↓backK_int, ↓backK_bool, ↓backK_sl, ↓backK_fn, ↓backK_agg, ↓backK_tup, ↓backK_pel, ↓backK_osl, ↓backK_may, ↓backK_box, ↓bothTT, ↓bothTF, ↓bothFT, ↓bothFF, bothTT, bothTF, bothFT, bothFF, ↓bothTT, ↓bothTF, ↓bothFT, ↓bothFF, ↓bothNT, ↓bothNF, ↓bothCT, ↓bothCF, Try.f170, frW, wk2, wk1, wkL, wkB, hpW, List.mem_cons, Prod.mk.injEq, exists_eq_left, exists_eq_right, exists_eq]
                · simp (config := { maxSteps := 4000000 }) only [go_sem, Nat.reduceEqDiff, Nat.reduceAdd, Nat.reduceMul, Nat.reduceSub, Nat.reduceLT, Nat.reduceLeDiff, reduceIte, reduceCtorEq, Int.reduceToNat, Int.reduceLE, Int.reduceLT, Int.reduceEq, Int.reduceGT, Int.reduceGE, Int.reduceAdd, Int.reduceSub, Int.reduceNeg, Int.reduceMul, ↓bT, ↓bF, ↓backK_top, ↓backK_int, ↓backK_bool, ↓backK_sl, ↓backK_fn, ↓backK_agg, ↓backK_tup, ↓backK_pel, ↓backK_osl, ↓backK_may, ↓backK_box, ↓bothTT, ↓bothTF, ↓bothFT, ↓bothFF, bothTT, bothTF, bothFT, bothFF, ↓bothTT, ↓bothTF, ↓bothFT, ↓bothFF, ↓bothNT, ↓bothNF, ↓bothCT, ↓bothCF, Try.f170, frW, wk2, wk1, wkL, wkB, hpW, List.mem_cons, Prod.mk.injEq, exists_eq_left, exists_eq_right, exists_eq]
                · simp [rows_length]
                · simp (config := { maxSteps := 4000000 }) only [go_sem, Nat.reduceEqDiff, Nat.reduceAdd, Nat.reduceMul, Nat.reduceSub, Nat.reduceLT, Nat.reduceLeDiff, reduceIte, reduceCtorEq, Int.reduceToNat, Int.reduceLE, Int.reduceLT, Int.reduceEq, Int.reduceGT, Int.reduceGE, Int.reduceAdd, Int.reduceSub, Int.reduceNeg, Int.reduceMul, ↓bT, ↓bF, ↓backK_top, ↓backK_int, ↓backK_bool, ↓backK_sl, ↓backK_fn, ↓backK_agg, ↓backK_tup, ↓backK_pel, ↓backK_osl, ↓backK_may, ↓backK_box, ↓bothTT, ↓bothTF, ↓bothFT, ↓bothFF, bothTT, bothTF, bothFT, bothFF, ↓bothTT, ↓bothTF, ↓bothFT, ↓bothFF, ↓bothNT, ↓bothNF, ↓bothCT, ↓bothCF, Try.f170, frW, wk2, wk1, wkL, wkB, hpW, List.mem_cons, Prod.mk.injEq, exists_eq_left, exists_eq_right, exists_eq]
                · simp (config := { maxSteps := 4000000 }) only [go_sem, Nat.reduceEqDiff, Nat.reduceAdd, Nat.reduceMul, Nat.reduceSub, Nat.reduceLT, Nat.reduceLeDiff, reduceIte, reduceCtorEq, Int.reduceToNat, Int.reduceLE, Int.reduceLT, Int.reduceEq, Int.reduceGT, Int.reduceGE, Int.reduceAdd, Int.reduceSub, Int.reduceNeg, Int.reduceMul, ↓bT, ↓bF, ↓backK_top, ↓backK_int, ↓backK_bool, ↓backK_sl, ↓backK_fn, ↓backK_agg, ↓backK_tup, ↓backK_pel, ↓backK_osl, ↓backK_may, ↓backK_box, ↓bothTT, ↓bothTF, ↓bothFT, ↓bothFF, bothTT, bothTF, bothFT, bothFF, ↓bothTT, ↓bothTF, ↓bothFT, ↓bothFF, ↓bothNT, ↓bothNF, ↓bothCT, ↓bothCF, Try.f170, frW, wk2, wk1, wkL, wkB, hpW, List.mem_cons, Prod.mk.injEq, exists_eq_left, exists_eq_right, exists_eq]
                · simp (config := { maxSteps := 4000000 }) only [go_sem, Nat.reduceEqDiff, Nat.reduceAdd, Nat.reduceMul, Nat.reduceSub, Nat.reduceLT, Nat.reduceLeDiff, reduceIte, reduceCtorEq, Int.reduceToNat, Int.reduceLE, Int.reduceLT, Int.reduceEq, Int.reduceGT, Int.reduceGE, Int.reduceAdd, Int.reduceSub, Int.reduceNeg, Int.reduceMul, ↓bT, ↓bF, ↓backK_top, ↓backK_int, ↓backK_bool, ↓backK_sl, ↓backK_fn, ↓backK_agg, ↓backK_tup, ↓backK_pel, ↓backK_osl, ↓backK_may, ↓backK_box, ↓bothTT, ↓bothTF, ↓bothFT, ↓bothFF, bothTT, bothTF, bothFT, bothFF, ↓bothTT, ↓bothTF, ↓bothFT, ↓bothFF, ↓bothNT, ↓bothNF, ↓bothCT, ↓bothCF, Try.f170, rows_length, ht, hw]
                  refine ⟨by omega, by simp, by omega, by omega, (i + 1, pairUp r, acc ++ [pairUp r]), [(44, 23)], ⟨by dsimp only; omega, pairUp_smd r, ?_, by dsimp only; rw [upN_succ, ← hu], ?_⟩, by dsimp only; omega, Weak.of (by rfl) ?_ ?_ (by rfl)⟩
                  · have := pairUp_lenE r he.1
                    dsimp only
                    rw [Nat.pow_succ, ← Nat.div_div_eq_div_mul, ← hl]; omega
                  · dsimp only
                    rw [List.map_append, ← hacc, List.map_singleton, upN_succ, ← hu]
                  · simp (config := { maxSteps := 4000000 }) only [go_sem, Nat.reduceEqDiff, Nat.reduceAdd, Nat.reduceMul, Nat.reduceSub, Nat.reduceLT, Nat.reduceLeDiff, reduceIte, reduceCtorEq, Int.reduceToNat, Int.reduceLE, Int.reduceLT, Int.reduceEq, Int.reduceGT, Int.reduceGE, Int.reduceAdd, Int.reduceSub, Int.reduceNeg, Int.reduceMul, ↓bT, ↓bF, ↓backK_top, ↓backK_int, ↓backK_bool, ↓backK_sl, ↓backK_fn, ↓backK_agg, ↓backK_tup, ↓backK_pel, ↓backK_osl, ↓backK_may, ↓backK_box, ↓bothTT, ↓bothTF, ↓bothFT, ↓bothFF, bothTT, bothTF, bothFT, bothFF, ↓bothTT, ↓bothTF, ↓bothFT, ↓bothFF, ↓bothNT, ↓bothNF, ↓bothCT, ↓bothCF, Try.f170, frW, wk2, wk1, wkL, wkB, hpW, List.mem_cons, Prod.mk.injEq, exists_eq_left, exists_eq_right, exists_eq]
                    exact (rows_snoc encL _ _).symm
                  · simp (config := { maxSteps := 4000000 }) only [go_sem, Nat.reduceEqDiff, Nat.reduceAdd, Nat.reduceMul, Nat.reduceSub, Nat.reduceLT, Nat.reduceLeDiff, reduceIte, reduceCtorEq, Int.reduceToNat, Int.reduceLE, Int.reduceLT, Int.reduceEq, Int.reduceGT, Int.reduceGE, Int.reduceAdd, Int.reduceSub, Int.reduceNeg, Int.reduceMul, ↓bT, ↓bF, ↓backK_top, ↓backK_int, ↓backK_bool, ↓backK_sl, ↓backK_fn, ↓backK_agg, ↓backK_tup, ↓backK_pel, ↓backK_osl, ↓backK_may, ↓backK_box, ↓bothTT, ↓bothTF, ↓bothFT, ↓bothFF, bothTT, bothTF, bothFT, bothFF, ↓bothTT, ↓bothTF, ↓bothFT, ↓bothFF, ↓bothNT, ↓bothNF, ↓bothCT, ↓bothCF, Try.f170, List.length_append, frW, wk2, wk1, wkL, wkB, hpW, List.mem_cons, Prod.mk.injEq, exists_eq_left, exists_eq_right, exists_eq]
          · have : i = 5 := by omega
            subst this
            simp (config := { maxSteps := 4000000 }) only [go_sem, Nat.reduceEqDiff, Nat.reduceAdd, Nat.reduceMul, Nat.reduceSub, Nat.reduceLT, Nat.reduceLeDiff, reduceIte, reduceCtorEq, Int.reduceToNat, Int.reduceLE, Int.reduceLT, Int.reduceEq, Int.reduceGT, Int.reduceGE, Int.reduceAdd, Int.reduceSub, Int.reduceNeg, Int.reduceMul, ↓bT, ↓bF, ↓backK_top, ↓backK_int, ↓backK_bool, ↓backK_sl, ↓backK_fn, ↓backK_agg, ↓backK_tup, ↓backK_pel, ↓backK_osl, ↓backK_may, ↓backK_box, ↓bothTT, ↓bothTF, ↓bothFT, ↓bothFF, bothTT, bothTF, bothFT, bothFF, ↓bothTT, ↓bothTF, ↓bothFT, ↓bothFF, ↓bothNT, ↓bothNF, ↓bothCT, ↓bothCF, Try.f170]
            subst hacc
            refine ⟨by simp [rows_length], rfl⟩

theorem upN_len1 (xs : List Entry) : (upN 5 (leaves xs)).length = 1 := by
  have h0 : (leaves xs).length = 32 := by simp [leaves, upto_length]
  have h1 := pairUp_lenE (leaves xs) (by omega)
  have h2 := pairUp_lenE (pairUp (leaves xs)) (by omega)
  have h3 := pairUp_lenE (pairUp (pairUp (leaves xs))) (by omega)
  have h4 := pairUp_lenE (pairUp (pairUp (pairUp (leaves xs)))) (by omega)
  have h5 := pairUp_lenE (pairUp (pairUp (pairUp (pairUp (leaves xs))))) (by omega)
  show (pairUp (pairUp (pairUp (pairUp (pairUp (leaves xs)))))).length = 1
  omega

theorem c_spec_RootOf (n1 : Option Bool) (xs : List Entry) (hx : xs.length < 2 ^ 62) : Det Try.prog 117 [.sl n1 (rows encE xs)] (.int .i64 (rootOf xs)) := by
  refine fspec_det tab_ok Try.call117 Try.func117 rfl 10 Try.ntmps117 (of_decide_eq_true rfl) fun B => codeK_sound tab_ok _ _ _ ?_
  simp (config := { maxSteps := 4000000 }) only [go_sem, Nat.reduceEqDiff, Nat.reduceAdd, Nat.reduceMul, Nat.reduceSub, Nat.reduceLT, Nat.reduceLeDiff, reduceIte, reduceCtorEq, Int.reduceToNat, Int.reduceLE, Int.reduceLT, Int.reduceEq, Int.reduceGT, Int.reduceGE, Int.reduceAdd, Int.reduceSub, Int.reduceNeg, Int.reduceMul, ↓bT, ↓bF, ↓backK_top, ↓backK_int, ↓backK_bool, ↓backK_sl, ↓backK_fn, ↓backK_agg, ↓backK_tup, ↓backK_pel, ↓backK_osl, ↓backK_may, ↓backK_box, ↓bothTT, ↓bothTF, ↓bothFT, ↓bothFF, bothTT, bothTF, bothFT, bothFF, ↓bothTT, ↓bothTF, ↓bothFT, ↓bothFF, ↓bothNT, ↓bothNF, ↓bothCT, ↓bothCF, Try.f117]
  refine CallTo.det (c_spec_StoreValid _ _ hx) fun _ => ?_
  cases h : storeValid xs with
  | false => simp (config := { maxSteps := 4000000 }) only [go_sem, Nat.reduceEqDiff, Nat.reduceAdd, Nat.reduceMul, Nat.reduceSub, Nat.reduceLT, Nat.reduceLeDiff, reduceIte, reduceCtorEq, Int.reduceToNat, Int.reduceLE, Int.reduceLT, Int.reduceEq, Int.reduceGT, Int.reduceGE, Int.reduceAdd, Int.reduceSub, Int.reduceNeg, Int.reduceMul, ↓bT, ↓bF, ↓backK_top, ↓backK_int, ↓backK_bool, ↓backK_sl, ↓backK_fn, ↓backK_agg, ↓backK_tup, ↓backK_pel, ↓backK_osl, ↓backK_may, ↓backK_box, ↓bothTT, ↓bothTF, ↓bothFT, ↓bothFF, bothTT, bothTF, bothFT, bothFF, ↓bothTT, ↓bothTF, ↓bothFT, ↓bothFF, ↓bothNT, ↓bothNF, ↓bothCT, ↓bothCF, Try.f117, h, rootOf]
  | true =>
    obtain ⟨hk, _⟩ := entOk_spec 1 xs (-1) h
    simp (config := { maxSteps := 4000000 }) only [go_sem, Nat.reduceEqDiff, Nat.reduceAdd, Nat.reduceMul, Nat.reduceSub, Nat.reduceLT, Nat.reduceLeDiff, reduceIte, reduceCtorEq, Int.reduceToNat, Int.reduceLE, Int.reduceLT, Int.reduceEq, Int.reduceGT, Int.reduceGE, Int.reduceAdd, Int.reduceSub, Int.reduceNeg, Int.reduceMul, ↓bT, ↓bF, ↓backK_top, ↓backK_int, ↓backK_bool, ↓backK_sl, ↓backK_fn, ↓backK_agg, ↓backK_tup, ↓backK_pel, ↓backK_osl, ↓backK_may, ↓backK_box, ↓bothTT, ↓bothTF, ↓bothFT, ↓bothFF, bothTT, bothTF, bothFT, bothFF, ↓bothTT, ↓bothTF, ↓bothFT, ↓bothFF, ↓bothNT, ↓bothNF, ↓bothCT, ↓bothCF, Try.f117, h]
    refine CallTo.det (c_spec_l3Level _ _ 5 hx (by omega) (valAt_bd fun e he => by have := hk e he; omega)) fun _ => ?_
    have hl := upN_len1 xs
    simp (config := { maxSteps := 4000000 }) only [go_sem, Nat.reduceEqDiff, Nat.reduceAdd, Nat.reduceMul, Nat.reduceSub, Nat.reduceLT, Nat.reduceLeDiff, reduceIte, reduceCtorEq, Int.reduceToNat, Int.reduceLE, Int.reduceLT, Int.reduceEq, Int.reduceGT, Int.reduceGE, Int.reduceAdd, Int.reduceSub, Int.reduceNeg, Int.reduceMul, ↓bT, ↓bF, ↓backK_top, ↓backK_int, ↓backK_bool, ↓backK_sl, ↓backK_fn, ↓backK_agg, ↓backK_tup, ↓backK_pel, ↓backK_osl, ↓backK_may, ↓backK_box, ↓bothTT, ↓bothTF, ↓bothFT, ↓bothFF, bothTT, bothTF, bothFT, bothFF, ↓bothTT, ↓bothTF, ↓bothFT, ↓bothFF, ↓bothNT, ↓bothNF, ↓bothCT, ↓bothCF, Try.f117, h, rootOf, rows_length, hl, rows_get _ _ 0 (by omega : 0 < (upN 5 (leaves xs)).length), encI]
    simp [List.getD_eq_getElem?_getD, hl]

theorem c_impl_RootOf (n1 : Option Bool) (xs : List Entry) (hx : xs.length < 2 ^ 62) : Det Try.prog 122 [.sl n1 (rows encE xs)] (.int .i64 (rootOf xs)) := by
  refine fspec_det tab_ok Try.call122 Try.func122 rfl 12 Try.ntmps122 (of_decide_eq_true rfl) fun B => codeK_sound tab_ok _ _ _ ?_
  simp (config := { maxSteps := 4000000 }) only [go_sem, Nat.reduceEqDiff, Nat.reduceAdd, Nat.reduceMul, Nat.reduceSub, Nat.reduceLT, Nat.reduceLeDiff, reduceIte, reduceCtorEq, Int.reduceToNat, Int.reduceLE, Int.reduceLT, Int.reduceEq, Int.reduceGT, Int.reduceGE, Int.reduceAdd, Int.reduceSub, Int.reduceNeg, Int.reduceMul, ↓bT, ↓bF, ↓backK_top, ↓backK_int, ↓backK_bool, ↓backK_sl, ↓backK_fn, ↓backK_agg, ↓backK_tup, ↓backK_pel, ↓backK_osl, ↓backK_may, ↓backK_box, ↓bothTT, ↓bothTF, ↓bothFT, ↓bothFF, bothTT, bothTF, bothFT, bothFF, ↓bothTT, ↓bothTF, ↓bothFT, ↓bothFF, ↓bothNT, ↓bothNF, ↓bothCT, ↓bothCF, Try.f122]
  refine CallTo.det (c_impl_StoreValid _ _ hx) fun _ => ?_
  cases h : storeValid xs with
  | false => simp (config := { maxSteps := 4000000 }) only [go_sem, Nat.reduceEqDiff, Nat.reduceAdd, Nat.reduceMul, Nat.reduceSub, Nat.reduceLT, Nat.reduceLeDiff, reduceIte, reduceCtorEq, Int.reduceToNat, Int.reduceLE, Int.reduceLT, Int.reduceEq, Int.reduceGT, Int.reduceGE, Int.reduceAdd, Int.reduceSub, Int.reduceNeg, Int.reduceMul, ↓bT, ↓bF, ↓backK_top, ↓backK_int, ↓backK_bool, ↓backK_sl, ↓backK_fn, ↓backK_agg, ↓backK_tup, ↓backK_pel, ↓backK_osl, ↓backK_may, ↓backK_box, ↓bothTT, ↓bothTF, ↓bothFT, ↓bothFF, bothTT, bothTF, bothFT, bothFF, ↓bothTT, ↓bothTF, ↓bothFT, ↓bothFF, ↓bothNT, ↓bothNF, ↓bothCT, ↓bothCF, Try.f122, h, rootOf]
  | true =>
    simp (config := { maxSteps := 4000000 }) only [go_sem, Nat.reduceEqDiff, Nat.reduceAdd, Nat.reduceMul, Nat.reduceSub, Nat.reduceLT, Nat.reduceLeDiff, reduceIte, reduceCtorEq, Int.reduceToNat, Int.reduceLE, Int.reduceLT, Int.reduceEq, Int.reduceGT, Int.reduceGE, Int.reduceAdd, Int.reduceSub, Int.reduceNeg, Int.reduceMul, ↓bT, ↓bF, ↓backK_top, ↓backK_int, ↓backK_bool, ↓backK_sl, ↓backK_fn, ↓backK_agg, ↓backK_tup, ↓backK_pel, ↓backK_osl, ↓backK_may, ↓backK_box, ↓bothTT, ↓bothTF, ↓bothFT, ↓bothFF, bothTT, bothTF, bothFT, bothFF, ↓bothTT, ↓bothTF, ↓bothFT, ↓bothFF, ↓bothNT, ↓bothNF, ↓bothCT, ↓bothCF, Try.f122, h]
    refine CallTo.det (c_impl_levels _ _ hx h) fun _ => ?_
    have hl := upN_len1 xs
    have hg : (rows encI (upN 5 (leaves xs))).getD 0 [] = [.int .i64 ((upN 5 (leaves xs)).getD 0 0)] := by
      rw [rows_get _ _ 0 (by omega)]; simp [encI, List.getD_eq_getElem?_getD, hl]
    have hr : ∀ a b c d e f : List Int, rows encL [a, b, c, d, e, f] = [[.sl none (rows encI a)], [.sl none (rows encI b)], [.sl none (rows encI c)], [.sl none (rows encI d)], [.sl none (rows encI e)], [.sl none (rows encI f)]] := fun _ _ _ _ _ _ => rfl
    simp (config := { maxSteps := 4000000 }) only [go_sem, Nat.reduceEqDiff, Nat.reduceAdd, Nat.reduceMul, Nat.reduceSub, Nat.reduceLT, Nat.reduceLeDiff, reduceIte, reduceCtorEq, Int.reduceToNat, Int.reduceLE, Int.reduceLT, Int.reduceEq, Int.reduceGT, Int.reduceGE, Int.reduceAdd, Int.reduceSub, Int.reduceNeg, Int.reduceMul, ↓bT, ↓bF, ↓backK_top, ↓backK_int, ↓backK_bool, ↓backK_sl, ↓backK_fn, ↓backK_agg, ↓backK_tup, ↓backK_pel, ↓backK_osl, ↓backK_may, ↓backK_box, ↓bothTT, ↓bothTF, ↓bothFT, ↓bothFF, bothTT, bothTF, bothFT, bothFF, ↓bothTT, ↓bothTF, ↓bothFT, ↓bothFF, ↓bothNT, ↓bothNF, ↓bothCT, ↓bothCF, Try.f122, h, rootOf, rows_length, hr, hl, hg]

end Go.Proofs.Ytdaemhaecjldaaa

/- Contracts: sums of blocks. -/
set_option linter.unusedSimpArgs false
set_option linter.unusedVariables false
set_option maxRecDepth 20000
set_option maxHeartbeats 2000000
namespace Go.Proofs.Ytdaemhaecjldaaa
open Go Go.RowKit

def actNums (a : Action) : List Int := [a.kind, a.fr, a.to, a.amount]
def headNums (b : Block) : List Int := [b.before, b.height, b.view, b.list.length]
def blockNums (b : Block) : List Int := headNums b ++ b.list.flatMap actNums ++ [b.root, b.effects]
def blockSum (b : Block) : Int := if blockValid b then sumI 22 (blockNums b) else -1

theorem kindOk_bd {a : Action} (h : kindOk a = true) : 1 ≤ a.kind ∧ a.kind ≤ 6 := by
  unfold kindOk at h
  split at h
  · rename_i h1; simp at h1; omega
  · split at h
    · rename_i h1; simp at h1; omega
    · simp at h; omega

theorem actNums_smd {a : Action} (h : actionValid a = true) : Smd (actNums a) := by
  simp only [actionValid, Bool.and_eq_true] at h
  obtain ⟨⟨⟨h1, h2⟩, h3⟩, h4⟩ := h
  have h1 := inB_iff.1 h1
  have h2 := inB_iff.1 h2
  have h3 := inB_iff.1 h3
  have h4 := kindOk_bd h4
  intro x hx
  simp only [actNums, List.mem_cons, List.not_mem_nil, or_false] at hx
  rcases hx with rfl | rfl | rfl | rfl <;> omega

theorem blockNums_smd {b : Block} (h : blockValid b = true) : Smd (blockNums b) ∧ b.list.length ≤ 10 := by
  simp only [blockValid, Bool.and_eq_true] at h
  obtain ⟨⟨⟨⟨⟨h1, h2⟩, h3⟩, h4⟩, h5⟩, h6⟩ := h
  have h1 := inB_iff.1 h1
  have h2 := inB_iff.1 h2
  have h3 := inB_iff.1 h3
  have h4 := inB_iff.1 h4
  have h5 := inB_iff.1 h5
  simp only [actionsValid, Bool.and_eq_true, decide_eq_true_eq] at h6
  refine ⟨fun x hx => ?_, h6.1⟩
  simp only [blockNums, headNums, List.mem_append, List.mem_cons, List.not_mem_nil, or_false, List.mem_flatMap] at hx
  rcases hx with (hx | ⟨a, ha, hx⟩) | hx
  · rcases hx with rfl | rfl | rfl | rfl <;> omega
  · exact actNums_smd (List.all_eq_true.1 h6.2 a ha) x hx
  · rcases hx with rfl | rfl <;> omega

theorem flat_len (l : List Action) : (l.flatMap actNums).length = 4 * l.length := by
  induction l with
  | nil => rfl
  | cons a r ih => simp [List.flatMap_cons, ih, actNums]; omega

theorem c_impl_BlockSum (n : Option Bool) (b : Block) (hx : b.list.length < 2 ^ 62) : Det Try.prog 121 [.agg (encBk n b)] (.int .i64 (blockSum b)) := by
  refine fspec_det tab_ok Try.call121 Try.func121 rfl 46 Try.ntmps121 (of_decide_eq_true rfl) fun B => codeK_sound tab_ok _ _ _ ?_
  unfold encBk
  simp (config := { maxSteps := 4000000 }) only [go_sem, Nat.reduceEqDiff, Nat.reduceAdd, Nat.reduceMul, Nat.reduceSub, Nat.reduceLT, Nat.reduceLeDiff, reduceIte, reduceCtorEq, Int.reduceToNat, Int.reduceLE, Int.reduceLT, Int.reduceEq, Int.reduceGT, Int.reduceGE, Int.reduceAdd, Int.reduceSub, Int.reduceNeg, Int.reduceMul, ↓bT, ↓bF, ↓backK_top, ↓backK_int, ↓backK_bool, ↓backK_sl, ↓backK_fn, ↓backK_agg, ↓backK_tup, ↓backK_pel, ↓backK_osl, ↓backK_may, ↓backK_box, ↓bothTT, ↓bothTF, ↓bothFT, ↓bothFF, bothTT, bothTF, bothFT, bothFF, ↓bothTT, ↓bothTF, ↓bothFT, ↓bothFF, ↓bothNT, ↓bothNF, ↓bothCT, ↓bothCF, Try.f121]
  refine CallTo.det (c_impl_BlockValid n b hx) fun _ => ?_
  cases h : blockValid b with
  | false => simp (config := { maxSteps := 4000000 }) only [go_sem, Nat.reduceEqDiff, Nat.reduceAdd, Nat.reduceMul, Nat.reduceSub, Nat.reduceLT, Nat.reduceLeDiff, reduceIte, reduceCtorEq, Int.reduceToNat, Int.reduceLE, Int.reduceLT, Int.reduceEq, Int.reduceGT, Int.reduceGE, Int.reduceAdd, Int.reduceSub, Int.reduceNeg, Int.reduceMul, ↓bT, ↓bF, ↓backK_top, ↓backK_int, ↓backK_bool, ↓backK_sl, ↓backK_fn, ↓backK_agg, ↓backK_tup, ↓backK_pel, ↓backK_osl, ↓backK_may, ↓backK_box, ↓bothTT, ↓bothTF, ↓bothFT, ↓bothFF, bothTT, bothTF, bothFT, bothFF, ↓bothTT, ↓bothTF, ↓bothFT, ↓bothFF, ↓bothNT, ↓bothNF, ↓bothCT, ↓bothCF, Try.f121, h, blockSum]
  | true =>
    obtain ⟨hs, h10⟩ := blockNums_smd h
    simp (config := { maxSteps := 4000000 }) only [go_sem, Nat.reduceEqDiff, Nat.reduceAdd, Nat.reduceMul, Nat.reduceSub, Nat.reduceLT, Nat.reduceLeDiff, reduceIte, reduceCtorEq, Int.reduceToNat, Int.reduceLE, Int.reduceLT, Int.reduceEq, Int.reduceGT, Int.reduceGE, Int.reduceAdd, Int.reduceSub, Int.reduceNeg, Int.reduceMul, ↓bT, ↓bF, ↓backK_top, ↓backK_int, ↓backK_bool, ↓backK_sl, ↓backK_fn, ↓backK_agg, ↓backK_tup, ↓backK_pel, ↓backK_osl, ↓backK_may, ↓backK_box, ↓bothTT, ↓bothTF, ↓bothFT, ↓bothFF, bothTT, bothTF, bothFT, bothFF, ↓bothTT, ↓bothTF, ↓bothFT, ↓bothFF, ↓bothNT, ↓bothNF, ↓bothCT, ↓bothCF, Try.f121, h, rows_length]
    refine semL_for tab_ok (fun i : Nat => ⟨46, [(1, .loc 1 0), (3, .row 18 (4 + 4 * i)), (20, .sl n (rows encA b.list)), (21, .int .i64 b.list.length), (22, .int .i64 i)], [(1, .var (encBk n b)), (18, .row true true 1 (rows encI (headNums b ++ (b.list.take i).flatMap actNums)))]⟩) (fun i => b.list.length - i)
      (fun i => i ≤ b.list.length) 0 [(1, 1), (18, 18)] (Weak.of (by rfl) ?_ ?_ (by rfl)) (by omega) ?_
    · simp (config := { maxSteps := 4000000 }) only [go_sem, Nat.reduceEqDiff, Nat.reduceAdd, Nat.reduceMul, Nat.reduceSub, Nat.reduceLT, Nat.reduceLeDiff, reduceIte, reduceCtorEq, Int.reduceToNat, Int.reduceLE, Int.reduceLT, Int.reduceEq, Int.reduceGT, Int.reduceGE, Int.reduceAdd, Int.reduceSub, Int.reduceNeg, Int.reduceMul, ↓bT, ↓bF, ↓backK_top, ↓backK_int, ↓backK_bool, ↓backK_sl, ↓backK_fn, ↓backK_agg, ↓backK_tup, ↓backK_pel, ↓backK_osl, ↓backK_may, ↓backK_box, ↓bothTT, ↓bothTF, ↓bothFT, ↓bothFF, bothTT, bothTF, bothFT, bothFF, ↓bothTT, ↓bothTF, ↓bothFT, ↓bothFF, ↓bothNT, ↓bothNF, ↓bothCT, ↓bothCF, Try.f121, encBk, frW, wk2, wk1, wkL, wkB, hpW, List.mem_cons, Prod.mk.injEq, exists_eq_left, exists_eq_right, exists_eq]
      rfl
    · simp (config := { maxSteps := 4000000 }) only [go_sem, Nat.reduceEqDiff, Nat.reduceAdd, Nat.reduceMul, Nat.reduceSub, Nat.reduceLT, Nat.reduceLeDiff, reduceIte, reduceCtorEq, Int.reduceToNat, Int.reduceLE, Int.reduceLT, Int.reduceEq, Int.reduceGT, Int.reduceGE, Int.reduceAdd, Int.reduceSub, Int.reduceNeg, Int.reduceMul, ↓bT, ↓bF, ↓backK_top, ↓backK_int, ↓backK_bool, ↓backK_sl, ↓backK_fn, ↓backK_agg, ↓backK_tup, ↓backK_pel, ↓backK_osl, ↓backK_may, ↓backK_box, ↓bothTT, ↓bothTF, ↓bothFT, ↓bothFF, bothTT, bothTF, bothFT, bothFF, ↓bothTT, ↓bothTF, ↓bothFT, ↓bothFF, ↓bothNT, ↓bothNF, ↓bothCT, ↓bothCF, Try.f121, frW, wk2, wk1, wkL, wkB, hpW, List.mem_cons, Prod.mk.injEq, exists_eq_left, exists_eq_right, exists_eq]
    · rintro i hi
      have hfl : (rows encI (headNums b ++ (b.list.take i).flatMap actNums)).length = 4 + 4 * i := by
        rw [rows_length, List.length_append, flat_len, List.length_take]
        have : (headNums b).length = 4 := rfl
        omega
      have ht := List.take_of_length_le (Nat.le_of_eq hfl)
      by_cases h' : i < b.list.length
      · have hw : IntKind.i64.wrap ((i : Int) + 1) = ((i + 1 : Nat) : Int) := wsucc h' hx
        simp (config := { maxSteps := 4000000 }) only [go_sem, Nat.reduceEqDiff, Nat.reduceAdd, Nat.reduceMul, Nat.reduceSub, Nat.reduceLT, Nat.reduceLeDiff, reduceIte, reduceCtorEq, Int.reduceToNat, Int.reduceLE, Int.reduceLT, Int.reduceEq, Int.reduceGT, Int.reduceGE, Int.reduceAdd, Int.reduceSub, Int.reduceNeg, Int.reduceMul, ↓bT, ↓bF, ↓backK_top, ↓backK_int, ↓backK_bool, ↓backK_sl, ↓backK_fn, ↓backK_agg, ↓backK_tup, ↓backK_pel, ↓backK_osl, ↓backK_may, ↓backK_box, ↓bothTT, ↓bothTF, ↓bothFT, ↓bothFF, bothTT, bothTF, bothFT, bothFF, ↓bothTT, ↓bothTF, ↓bothFT, ↓bothFF, ↓bothNT, ↓bothNF, ↓bothCT, ↓bothCF, Try.f121, rows_length, rows_get _ _ _ h', nlt h', nn0, encA, ht, hfl, hw]
        have htk : b.list.take (i + 1) = b.list.take i ++ [b.list[i]] := (List.take_append_getElem h').symm
        refine ⟨by omega, by simp, by omega, by omega, i + 1, [(1, 1), (36, 18)], by omega, by dsimp only; omega, Weak.of (by rfl) ?_ ?_ (by rfl)⟩
        · simp (config := { maxSteps := 4000000 }) only [go_sem, Nat.reduceEqDiff, Nat.reduceAdd, Nat.reduceMul, Nat.reduceSub, Nat.reduceLT, Nat.reduceLeDiff, reduceIte, reduceCtorEq, Int.reduceToNat, Int.reduceLE, Int.reduceLT, Int.reduceEq, Int.reduceGT, Int.reduceGE, Int.reduceAdd, Int.reduceSub, Int.reduceNeg, Int.reduceMul, ↓bT, ↓bF, ↓backK_top, ↓backK_int, ↓backK_bool, ↓backK_sl, ↓backK_fn, ↓backK_agg, ↓backK_tup, ↓backK_pel, ↓backK_osl, ↓backK_may, ↓backK_box, ↓bothTT, ↓bothTF, ↓bothFT, ↓bothFF, bothTT, bothTF, bothFT, bothFF, ↓bothTT, ↓bothTF, ↓bothFT, ↓bothFF, ↓bothNT, ↓bothNF, ↓bothCT, ↓bothCF, Try.f121, encBk, htk, frW, wk2, wk1, wkL, wkB, hpW, List.mem_cons, Prod.mk.injEq, exists_eq_left, exists_eq_right, exists_eq]
          simp only [rows, List.flatMap_append, List.map_append, List.append_assoc, List.flatMap_cons, List.flatMap_nil, List.append_nil]
          rfl
        · simp (config := { maxSteps := 4000000 }) only [go_sem, Nat.reduceEqDiff, Nat.reduceAdd, Nat.reduceMul, Nat.reduceSub, Nat.reduceLT, Nat.reduceLeDiff, reduceIte, reduceCtorEq, Int.reduceToNat, Int.reduceLE, Int.reduceLT, Int.reduceEq, Int.reduceGT, Int.reduceGE, Int.reduceAdd, Int.reduceSub, Int.reduceNeg, Int.reduceMul, ↓bT, ↓bF, ↓backK_top, ↓backK_int, ↓backK_bool, ↓backK_sl, ↓backK_fn, ↓backK_agg, ↓backK_tup, ↓backK_pel, ↓backK_osl, ↓backK_may, ↓backK_box, ↓bothTT, ↓bothTF, ↓bothFT, ↓bothFF, bothTT, bothTF, bothFT, bothFF, ↓bothTT, ↓bothTF, ↓bothFT, ↓bothFF, ↓bothNT, ↓bothNF, ↓bothCT, ↓bothCF, Try.f121, show 4 + 4 * (i + 1) = 4 + 4 * i + 4 by omega, frW, wk2, wk1, wkL, wkB, hpW, List.mem_cons, Prod.mk.injEq, exists_eq_left, exists_eq_right, exists_eq]
      · have : i = b.list.length := by omega
        subst this
        rw [List.take_length] at ht hfl
        have hrw : rows encI (headNums b ++ b.list.flatMap actNums) ++ [[.int .i64 b.root], [.int .i64 b.effects]] = rows encI (blockNums b) := by simp [rows, blockNums, encI]
        have hl2 : (rows encI (blockNums b)).length = 4 + 4 * b.list.length + 2 := by rw [← hrw, List.length_append, hfl]; rfl
        have hso : sumOf 5 (blockNums b) = sumI 22 (blockNums b) := by
          unfold sumOf
          rw [if_pos]
          · rfl
          · simp only [Bool.and_eq_true, decide_eq_true_eq, List.all_eq_true]
            exact ⟨by omega, fun x hx => by have := hs x hx; simp [isSummedB]; omega⟩
        simp (config := { maxSteps := 4000000 }) only [go_sem, Nat.reduceEqDiff, Nat.reduceAdd, Nat.reduceMul, Nat.reduceSub, Nat.reduceLT, Nat.reduceLeDiff, reduceIte, reduceCtorEq, Int.reduceToNat, Int.reduceLE, Int.reduceLT, Int.reduceEq, Int.reduceGT, Int.reduceGE, Int.reduceAdd, Int.reduceSub, Int.reduceNeg, Int.reduceMul, ↓bT, ↓bF, ↓backK_top, ↓backK_int, ↓backK_bool, ↓backK_sl, ↓backK_fn, ↓backK_agg, ↓backK_tup, ↓backK_pel, ↓backK_osl, ↓backK_may, ↓backK_box, ↓bothTT, ↓bothTF, ↓bothFT, ↓bothFF, bothTT, bothTF, bothFT, bothFF, ↓bothTT, ↓bothTF, ↓bothFT, ↓bothFF, ↓bothNT, ↓bothNF, ↓bothCT, ↓bothCF, Try.f121, nlf h', encBk, ht, hfl, List.take_length, hrw, hl2]
        refine ⟨by omega, by simp, by omega, by omega, CallTo.det (c_impl_SumOf 5 _ _ (by rw [rows_length] at hl2; omega)) fun _ => ?_⟩
        simp (config := { maxSteps := 4000000 }) only [go_sem, Nat.reduceEqDiff, Nat.reduceAdd, Nat.reduceMul, Nat.reduceSub, Nat.reduceLT, Nat.reduceLeDiff, reduceIte, reduceCtorEq, Int.reduceToNat, Int.reduceLE, Int.reduceLT, Int.reduceEq, Int.reduceGT, Int.reduceGE, Int.reduceAdd, Int.reduceSub, Int.reduceNeg, Int.reduceMul, ↓bT, ↓bF, ↓backK_top, ↓backK_int, ↓backK_bool, ↓backK_sl, ↓backK_fn, ↓backK_agg, ↓backK_tup, ↓backK_pel, ↓backK_osl, ↓backK_may, ↓backK_box, ↓bothTT, ↓bothTF, ↓bothFT, ↓bothFF, bothTT, bothTF, bothFT, bothFF, ↓bothTT, ↓bothTF, ↓bothFT, ↓bothFF, ↓bothNT, ↓bothNF, ↓bothCT, ↓bothCF, Try.f121, nlf h', encBk, ht, hfl, List.take_length, hrw, hl2, blockSum, h, hso]

theorem c_spec_BlockSum (n : Option Bool) (b : Block) (hx : b.list.length < 2 ^ 62) : Det Try.prog 116 [.agg (encBk n b)] (.int .i64 (blockSum b)) := by
  refine fspec_det tab_ok Try.call116 Try.func116 rfl 60 Try.ntmps116 (of_decide_eq_true rfl) fun B => codeK_sound tab_ok _ _ _ ?_
  unfold encBk
  simp (config := { maxSteps := 4000000 }) only [go_sem, Nat.reduceEqDiff, Nat.reduceAdd, Nat.reduceMul, Nat.reduceSub, Nat.reduceLT, Nat.reduceLeDiff, reduceIte, reduceCtorEq, Int.reduceToNat, Int.reduceLE, Int.reduceLT, Int.reduceEq, Int.reduceGT, Int.reduceGE, Int.reduceAdd, Int.reduceSub, Int.reduceNeg, Int.reduceMul, ↓bT, ↓bF, ↓backK_top, ↓backK_int, ↓backK_bool, ↓backK_sl, ↓backK_fn, ↓backK_agg, ↓backK_tup, ↓backK_pel, ↓backK_osl, ↓backK_may, ↓backK_box, ↓bothTT, ↓bothTF, ↓bothFT, ↓bothFF, bothTT, bothTF, bothFT, bothFF, ↓bothTT, ↓bothTF, ↓bothFT, ↓bothFF, ↓bothNT, ↓bothNF, ↓bothCT, ↓bothCF, Try.f116]
  refine CallTo.det (c_spec_BlockValid n b hx) fun _ => ?_
  cases h : blockValid b with
  | false => simp (config := { maxSteps := 4000000 }) only [go_sem, Nat.reduceEqDiff, Nat.reduceAdd, Nat.reduceMul, Nat.reduceSub, Nat.reduceLT, Nat.reduceLeDiff, reduceIte, reduceCtorEq, Int.reduceToNat, Int.reduceLE, Int.reduceLT, Int.reduceEq, Int.reduceGT, Int.reduceGE, Int.reduceAdd, Int.reduceSub, Int.reduceNeg, Int.reduceMul, ↓bT, ↓bF, ↓backK_top, ↓backK_int, ↓backK_bool, ↓backK_sl, ↓backK_fn, ↓backK_agg, ↓backK_tup, ↓backK_pel, ↓backK_osl, ↓backK_may, ↓backK_box, ↓bothTT, ↓bothTF, ↓bothFT, ↓bothFF, bothTT, bothTF, bothFT, bothFF, ↓bothTT, ↓bothTF, ↓bothFT, ↓bothFF, ↓bothNT, ↓bothNF, ↓bothCT, ↓bothCF, Try.f116, h, blockSum]
  | true =>
    obtain ⟨hs, h10⟩ := blockNums_smd h
    simp (config := { maxSteps := 4000000 }) only [go_sem, Nat.reduceEqDiff, Nat.reduceAdd, Nat.reduceMul, Nat.reduceSub, Nat.reduceLT, Nat.reduceLeDiff, reduceIte, reduceCtorEq, Int.reduceToNat, Int.reduceLE, Int.reduceLT, Int.reduceEq, Int.reduceGT, Int.reduceGE, Int.reduceAdd, Int.reduceSub, Int.reduceNeg, Int.reduceMul, ↓bT, ↓bF, ↓backK_top, ↓backK_int, ↓backK_bool, ↓backK_sl, ↓backK_fn, ↓backK_agg, ↓backK_tup, ↓backK_pel, ↓backK_osl, ↓backK_may, ↓backK_box, ↓bothTT, ↓bothTF, ↓bothFT, ↓bothFF, bothTT, bothTF, bothFT, bothFF, ↓bothTT, ↓bothTF, ↓bothFT, ↓bothFF, ↓bothNT, ↓bothNF, ↓bothCT, ↓bothCF, Try.f116, h, rows_length]
    refine semL_for tab_ok (fun i : Nat => ⟨60, [(1, .loc 1 0), (3, .row 17 (4 + 4 * i)), (4, .int .i64 i)], [(1, .var (encBk n b)), (17, .row true true 1 (rows encI (headNums b ++ (b.list.take i).flatMap actNums)))]⟩) (fun i => b.list.length - i)
      (fun i => i ≤ b.list.length) 0 [(1, 1), (17, 17)] (Weak.of (by rfl) ?_ ?_ (by rfl)) (by omega) ?_
    · simp (config := { maxSteps := 4000000 }) only [go_sem, Nat.reduceEqDiff, Nat.reduceAdd, Nat.reduceMul, Nat.reduceSub, Nat.reduceLT, Nat.reduceLeDiff, reduceIte, reduceCtorEq, Int.reduceToNat, Int.reduceLE, Int.reduceLT, Int.reduceEq, Int.reduceGT, Int.reduceGE, Int.reduceAdd, Int.reduceSub, Int.reduceNeg, Int.reduceMul, ↓bT, ↓bF, ↓backK_top, ↓backK_int, ↓backK_bool, ↓backK_sl, ↓backK_fn, ↓backK_agg, ↓backK_tup, ↓backK_pel, ↓backK_osl, ↓backK_may, ↓backK_box, ↓bothTT, ↓bothTF, ↓bothFT, ↓bothFF, bothTT, bothTF, bothFT, bothFF, ↓bothTT, ↓bothTF, ↓bothFT, ↓bothFF, ↓bothNT, ↓bothNF, ↓bothCT, ↓bothCF, Try.f116, encBk, frW, wk2, wk1, wkL, wkB, hpW, List.mem_cons, Prod.mk.injEq, exists_eq_left, exists_eq_right, exists_eq]
      rfl
    · simp (config := { maxSteps := 4000000 }) only [go_sem, Nat.reduceEqDiff, Nat.reduceAdd, Nat.reduceMul, Nat.reduceSub, Nat.reduceLT, Nat.reduceLeDiff, reduceIte, reduceCtorEq, Int.reduceToNat, Int.reduceLE, Int.reduceLT, Int.reduceEq, Int.reduceGT, Int.reduceGE, Int.reduceAdd, Int.reduceSub, Int.reduceNeg, Int.reduceMul, ↓bT, ↓bF, ↓backK_top, ↓backK_int, ↓backK_bool, ↓backK_sl, ↓backK_fn, ↓backK_agg, ↓backK_tup, ↓backK_pel, ↓backK_osl, ↓backK_may, ↓backK_box, ↓bothTT, ↓bothTF, ↓bothFT, ↓bothFF, bothTT, bothTF, bothFT, bothFF, ↓bothTT, ↓bothTF, ↓bothFT, ↓bothFF, ↓bothNT, ↓bothNF, ↓bothCT, ↓bothCF, Try.f116, frW, wk2, wk1, wkL, wkB, hpW, List.mem_cons, Prod.mk.injEq, exists_eq_left, exists_eq_right, exists_eq]
    · rintro i hi
      have hfl : (rows encI (headNums b ++ (b.list.take i).flatMap actNums)).length = 4 + 4 * i := by
        rw [rows_length, List.length_append, flat_len, List.length_take]
        have : (headNums b).length = 4 := rfl
        omega
      have ht := List.take_of_length_le (Nat.le_of_eq hfl)
      by_cases h' : i < b.list.length
      · have hw : IntKind.i64.wrap ((i : Int) + 1) = ((i + 1 : Nat) : Int) := wsucc h' hx
        simp (config := { maxSteps := 4000000 }) only [go_sem, Nat.reduceEqDiff, Nat.reduceAdd, Nat.reduceMul, Nat.reduceSub, Nat.reduceLT, Nat.reduceLeDiff, reduceIte, reduceCtorEq, Int.reduceToNat, Int.reduceLE, Int.reduceLT, Int.reduceEq, Int.reduceGT, Int.reduceGE, Int.reduceAdd, Int.reduceSub, Int.reduceNeg, Int.reduceMul, ↓bT, ↓bF, ↓backK_top, ↓backK_int, ↓backK_bool, ↓backK_sl, ↓backK_fn, ↓backK_agg, ↓backK_tup, ↓backK_pel, ↓backK_osl, ↓backK_may, ↓backK_box, ↓bothTT, ↓bothTF, ↓bothFT, ↓bothFF, bothTT, bothTF, bothFT, bothFF, ↓bothTT, ↓bothTF, ↓bothFT, ↓bothFF, ↓bothNT, ↓bothNF, ↓bothCT, ↓bothCF, Try.f116, encBk, rows_length, nlt h']
        refine semL_drawL tab_ok 27 mixed_ rfl (ord := [(0, []), (1, []), (2, []), (3, []), (4, []), (5, []), (6, []), (7, []), (8, []), (9, []), (10, []), (11, []), (12, []), (13, []), (14, []), (15, []), (16, []), (17, []), (18, []), (19, []), (20, []), (21, []), (22, []), (23, []), (24, []), (25, [0]), (26, [])]) (by dsimp only; decide +kernel) ?_
        simp (config := { maxSteps := 4000000 }) only [go_sem, Nat.reduceEqDiff, Nat.reduceAdd, Nat.reduceMul, Nat.reduceSub, Nat.reduceLT, Nat.reduceLeDiff, reduceIte, reduceCtorEq, Int.reduceToNat, Int.reduceLE, Int.reduceLT, Int.reduceEq, Int.reduceGT, Int.reduceGE, Int.reduceAdd, Int.reduceSub, Int.reduceNeg, Int.reduceMul, ↓bT, ↓bF, ↓backK_top, ↓backK_int, ↓backK_bool, ↓backK_sl, ↓backK_fn, ↓backK_agg, ↓backK_tup, ↓backK_pel, ↓backK_osl, ↓backK_may, ↓backK_box, ↓bothTT, ↓bothTF, ↓bothFT, ↓bothFF, bothTT, bothTF, bothFT, bothFF, ↓bothTT, ↓bothTF, ↓bothFT, ↓bothFF, ↓bothNT, ↓bothNF, ↓bothCT, ↓bothCF, Try.f116, encBk, rows_length, rows_get _ _ _ h', nlt h', nn0, encA, ht, hfl, hw]
        have htk : b.list.take (i + 1) = b.list.take i ++ [b.list[i]] := (List.take_append_getElem h').symm
        refine ⟨by omega, by simp, by omega, by omega, i + 1, [(1, 1), (51, 17)], by omega, by dsimp only; omega, Weak.of (by rfl) ?_ ?_ (by rfl)⟩
        · simp (config := { maxSteps := 4000000 }) only [go_sem, Nat.reduceEqDiff, Nat.reduceAdd, Nat.reduceMul, Nat.reduceSub, Nat.reduceLT, Nat.reduceLeDiff, reduceIte, reduceCtorEq, Int.reduceToNat, Int.reduceLE, Int.reduceLT, Int.reduceEq, Int.reduceGT, Int.reduceGE, Int.reduceAdd, Int.reduceSub, Int.reduceNeg, Int.reduceMul, ↓bT, ↓bF, ↓backK_top, ↓backK_int, ↓backK_bool, ↓backK_sl, ↓backK_fn, ↓backK_agg, ↓backK_tup, ↓backK_pel, ↓backK_osl, ↓backK_may, ↓backK_box, ↓bothTT, ↓bothTF, ↓bothFT, ↓bothFF, bothTT, bothTF, bothFT, bothFF, ↓bothTT, ↓bothTF, ↓bothFT, ↓bothFF, ↓bothNT, ↓bothNF, ↓bothCT, ↓bothCF, Try.f116, encBk, htk, frW, wk2, wk1, wkL, wkB, hpW, List.mem_cons, Prod.mk.injEq, exists_eq_left, exists_eq_right, exists_eq]
          simp only [rows, List.flatMap_append, List.map_append, List.append_assoc, List.flatMap_cons, List.flatMap_nil, List.append_nil]
          rfl
        · simp (config := { maxSteps := 4000000 }) only [go_sem, Nat.reduceEqDiff, Nat.reduceAdd, Nat.reduceMul, Nat.reduceSub, Nat.reduceLT, Nat.reduceLeDiff, reduceIte, reduceCtorEq, Int.reduceToNat, Int.reduceLE, Int.reduceLT, Int.reduceEq, Int.reduceGT, Int.reduceGE, Int.reduceAdd, Int.reduceSub, Int.reduceNeg, Int.reduceMul, ↓bT, ↓bF, ↓backK_top, ↓backK_int, ↓backK_bool, ↓backK_sl, ↓backK_fn, ↓backK_agg, ↓backK_tup, ↓backK_pel, ↓backK_osl, ↓backK_may, ↓backK_box, ↓bothTT, ↓bothTF, ↓bothFT, ↓bothFF, bothTT, bothTF, bothFT, bothFF, ↓bothTT, ↓bothTF, ↓bothFT, ↓bothFF, ↓bothNT, ↓bothNF, ↓bothCT, ↓bothCF, Try.f116, show 4 + 4 * (i + 1) = 4 + 4 * i + 4 by omega, frW, wk2, wk1, wkL, wkB, hpW, List.mem_cons, Prod.mk.injEq, exists_eq_left, exists_eq_right, exists_eq]
      · have : i = b.list.length := by omega
        subst this
        rw [List.take_length] at ht hfl
        have hrw : rows encI (headNums b ++ b.list.flatMap actNums) ++ [[.int .i64 b.root], [.int .i64 b.effects]] = rows encI (blockNums b) := by simp [rows, blockNums, encI]
        have hl2 : (rows encI (blockNums b)).length = 4 + 4 * b.list.length + 2 := by rw [← hrw, List.length_append, hfl]; rfl
        simp (config := { maxSteps := 4000000 }) only [go_sem, Nat.reduceEqDiff, Nat.reduceAdd, Nat.reduceMul, Nat.reduceSub, Nat.reduceLT, Nat.reduceLeDiff, reduceIte, reduceCtorEq, Int.reduceToNat, Int.reduceLE, Int.reduceLT, Int.reduceEq, Int.reduceGT, Int.reduceGE, Int.reduceAdd, Int.reduceSub, Int.reduceNeg, Int.reduceMul, ↓bT, ↓bF, ↓backK_top, ↓backK_int, ↓backK_bool, ↓backK_sl, ↓backK_fn, ↓backK_agg, ↓backK_tup, ↓backK_pel, ↓backK_osl, ↓backK_may, ↓backK_box, ↓bothTT, ↓bothTF, ↓bothFT, ↓bothFF, bothTT, bothTF, bothFT, bothFF, ↓bothTT, ↓bothTF, ↓bothFT, ↓bothFF, ↓bothNT, ↓bothNF, ↓bothCT, ↓bothCF, Try.f116, nlf h', encBk, ht, hfl, List.take_length, hrw, hl2, rows_length]
        refine ⟨by omega, by simp, by omega, by omega, CallTo.det (c_spec_l1Sum 5 _ _ (by rw [rows_length] at hl2; omega) (by omega) hs) fun _ => ?_⟩
        simp (config := { maxSteps := 4000000 }) only [go_sem, Nat.reduceEqDiff, Nat.reduceAdd, Nat.reduceMul, Nat.reduceSub, Nat.reduceLT, Nat.reduceLeDiff, reduceIte, reduceCtorEq, Int.reduceToNat, Int.reduceLE, Int.reduceLT, Int.reduceEq, Int.reduceGT, Int.reduceGE, Int.reduceAdd, Int.reduceSub, Int.reduceNeg, Int.reduceMul, ↓bT, ↓bF, ↓backK_top, ↓backK_int, ↓backK_bool, ↓backK_sl, ↓backK_fn, ↓backK_agg, ↓backK_tup, ↓backK_pel, ↓backK_osl, ↓backK_may, ↓backK_box, ↓bothTT, ↓bothTF, ↓bothFT, ↓bothFF, bothTT, bothTF, bothFT, bothFF, ↓bothTT, ↓bothTF, ↓bothFT, ↓bothFF, ↓bothNT, ↓bothNF, ↓bothCT, ↓bothCF, Try.f116, nlf h', encBk, ht, hfl, List.take_length, hrw, hl2, blockSum, h]

theorem blockSum_bd (b : Block) : -1 ≤ blockSum b ∧ blockSum b ≤ 1000003 := by
  unfold blockSum
  split
  · have : ∀ (l : List Int) (s : Int), 0 ≤ s ∧ s ≤ 1000003 → 0 ≤ sumI s l ∧ sumI s l ≤ 1000003 := by
      intro l
      induction l with
      | nil => intro s hs; exact hs
      | cons x r ih => intro s _; exact ih _ (by have := moreI_bd s x; omega)
    have := this (blockNums b) 22 (by omega)
    omega
  · omega

theorem blockSum_neg (b : Block) : blockSum b < 0 ↔ blockValid b = false := by
  unfold blockSum
  split
  · rename_i h
    have : ∀ (l : List Int) (s : Int), 0 ≤ s → 0 ≤ sumI s l := by
      intro l
      induction l with
      | nil => intro s hs; exact hs
      | cons x r ih => intro s _; exact ih _ (by have := moreI_bd s x; omega)
    have := this (blockNums b) 22 (by omega)
    simp [h]; omega
  · rename_i h
    simp [h]

end Go.Proofs.Ytdaemhaecjldaaa

/- Contracts: first blocks, equality of blocks. -/
set_option linter.unusedSimpArgs false
set_option linter.unusedVariables false
set_option maxRecDepth 20000
set_option maxHeartbeats 2000000
namespace Go.Proofs.Ytdaemhaecjldaaa
open Go Go.RowKit

theorem c_spec_SumOf (tag : Int) (n1 : Option Bool) (xs : List Int) (hx : xs.length < 2 ^ 62) : Det Try.prog 168 [.int .i64 tag, .sl n1 (rows encI xs)] (.int .i64 (sumOf tag xs)) := by
  refine fspec_det tab_ok Try.call168 Try.func168 rfl 24 Try.ntmps168 (of_decide_eq_true rfl) fun B => codeK_sound tab_ok _ _ _ ?_
  simp (config := { maxSteps := 4000000 }) only [go_sem, Nat.reduceEqDiff, Nat.reduceAdd, Nat.reduceMul, Nat.reduceSub, Nat.reduceLT, Nat.reduceLeDiff, reduceIte, reduceCtorEq, Int.reduceToNat, Int.reduceLE, Int.reduceLT, Int.reduceEq, Int.reduceGT, Int.reduceGE, Int.reduceAdd, Int.reduceSub, Int.reduceNeg, Int.reduceMul, ↓bT, ↓bF, ↓backK_top, ↓backK_int, ↓backK_bool, ↓backK_sl, ↓backK_fn, ↓backK_agg, ↓backK_tup, ↓backK_pel, ↓backK_osl, ↓backK_may, ↓backK_box, ↓bothTT, ↓bothTF, ↓bothFT, ↓bothFF, bothTT, bothTF, bothFT, bothFF, ↓bothTT, ↓bothTF, ↓bothFT, ↓bothFF, ↓bothNT, ↓bothNF, ↓bothCT, ↓bothCF, Try.f168, rows_length]
  refine semL_for tab_ok (fun i : Nat => ⟨24, [(0, .int .i64 tag), (1, .sl n1 (rows encI xs)), (5, .int .i64 i)], []⟩) (fun i => xs.length - i)
    (fun i => i ≤ xs.length ∧ (xs.drop i).all isSummedB = xs.all isSummedB) 0 [] (Weak.of (by rfl) trivial ?_ (by rfl)) ⟨by omega, rfl⟩ ?_
  · simp (config := { maxSteps := 4000000 }) only [go_sem, Nat.reduceEqDiff, Nat.reduceAdd, Nat.reduceMul, Nat.reduceSub, Nat.reduceLT, Nat.reduceLeDiff, reduceIte, reduceCtorEq, Int.reduceToNat, Int.reduceLE, Int.reduceLT, Int.reduceEq, Int.reduceGT, Int.reduceGE, Int.reduceAdd, Int.reduceSub, Int.reduceNeg, Int.reduceMul, ↓bT, ↓bF, ↓backK_top, ↓backK_int, ↓backK_bool, ↓backK_sl, ↓backK_fn, ↓backK_agg, ↓backK_tup, ↓backK_pel, ↓backK_osl, ↓backK_may, ↓backK_box, ↓bothTT, ↓bothTF, ↓bothFT, ↓bothFF, bothTT, bothTF, bothFT, bothFF, ↓bothTT, ↓bothTF, ↓bothFT, ↓bothFF, ↓bothNT, ↓bothNF, ↓bothCT, ↓bothCF, Try.f168, frW, wk2, wk1, wkL, wkB, hpW, List.mem_cons, Prod.mk.injEq, exists_eq_left, exists_eq_right, exists_eq]
  · rintro i ⟨hi, hp⟩
    by_cases h : i < xs.length
    · rw [drop_cons xs i h, List.all_cons] at hp
      simp (config := { maxSteps := 4000000 }) only [go_sem, Nat.reduceEqDiff, Nat.reduceAdd, Nat.reduceMul, Nat.reduceSub, Nat.reduceLT, Nat.reduceLeDiff, reduceIte, reduceCtorEq, Int.reduceToNat, Int.reduceLE, Int.reduceLT, Int.reduceEq, Int.reduceGT, Int.reduceGE, Int.reduceAdd, Int.reduceSub, Int.reduceNeg, Int.reduceMul, ↓bT, ↓bF, ↓backK_top, ↓backK_int, ↓backK_bool, ↓backK_sl, ↓backK_fn, ↓backK_agg, ↓backK_tup, ↓backK_pel, ↓backK_osl, ↓backK_may, ↓backK_box, ↓bothTT, ↓bothTF, ↓bothFT, ↓bothFF, bothTT, bothTF, bothFT, bothFF, ↓bothTT, ↓bothTF, ↓bothFT, ↓bothFF, ↓bothNT, ↓bothNF, ↓bothCT, ↓bothCF, Try.f168, rows_length, rows_get _ _ _ h, encI, nlt h, nn0]
      refine CallTo.det (c_l1In _ _ _) fun _ => ?_
      cases h1 : inB xs[i] 0 2000000 with
      | false =>
        have h1' : isSummedB xs[i] = false := h1
        rw [h1', Bool.false_and] at hp
        simp (config := { maxSteps := 4000000 }) only [go_sem, Nat.reduceEqDiff, Nat.reduceAdd, Nat.reduceMul, Nat.reduceSub, Nat.reduceLT, Nat.reduceLeDiff, reduceIte, reduceCtorEq, Int.reduceToNat, Int.reduceLE, Int.reduceLT, Int.reduceEq, Int.reduceGT, Int.reduceGE, Int.reduceAdd, Int.reduceSub, Int.reduceNeg, Int.reduceMul, ↓bT, ↓bF, ↓backK_top, ↓backK_int, ↓backK_bool, ↓backK_sl, ↓backK_fn, ↓backK_agg, ↓backK_tup, ↓backK_pel, ↓backK_osl, ↓backK_may, ↓backK_box, ↓bothTT, ↓bothTF, ↓bothFT, ↓bothFF, bothTT, bothTF, bothFT, bothFF, ↓bothTT, ↓bothTF, ↓bothFT, ↓bothFF, ↓bothNT, ↓bothNF, ↓bothCT, ↓bothCF, Try.f168, rows_length, rows_get _ _ _ h, encI, nlt h, nn0, h1]
        unfold sumOf
        rw [← hp, Bool.and_false]
        rfl
      | true =>
        have h1' : isSummedB xs[i] = true := h1
        rw [h1', Bool.true_and] at hp
        simp (config := { maxSteps := 4000000 }) only [go_sem, Nat.reduceEqDiff, Nat.reduceAdd, Nat.reduceMul, Nat.reduceSub, Nat.reduceLT, Nat.reduceLeDiff, reduceIte, reduceCtorEq, Int.reduceToNat, Int.reduceLE, Int.reduceLT, Int.reduceEq, Int.reduceGT, Int.reduceGE, Int.reduceAdd, Int.reduceSub, Int.reduceNeg, Int.reduceMul, ↓bT, ↓bF, ↓backK_top, ↓backK_int, ↓backK_bool, ↓backK_sl, ↓backK_fn, ↓backK_agg, ↓backK_tup, ↓backK_pel, ↓backK_osl, ↓backK_may, ↓backK_box, ↓bothTT, ↓bothTF, ↓bothFT, ↓bothFF, bothTT, bothTF, bothFT, bothFF, ↓bothTT, ↓bothTF, ↓bothFT, ↓bothFF, ↓bothNT, ↓bothNF, ↓bothCT, ↓bothCF, Try.f168, rows_length, rows_get _ _ _ h, encI, nlt h, nn0, h1, wsucc h hx]
        refine ⟨i + 1, [], ⟨by omega, hp⟩, by dsimp only; omega, Weak.of (by rfl) trivial ?_ (by rfl)⟩
        simp (config := { maxSteps := 4000000 }) only [go_sem, Nat.reduceEqDiff, Nat.reduceAdd, Nat.reduceMul, Nat.reduceSub, Nat.reduceLT, Nat.reduceLeDiff, reduceIte, reduceCtorEq, Int.reduceToNat, Int.reduceLE, Int.reduceLT, Int.reduceEq, Int.reduceGT, Int.reduceGE, Int.reduceAdd, Int.reduceSub, Int.reduceNeg, Int.reduceMul, ↓bT, ↓bF, ↓backK_top, ↓backK_int, ↓backK_bool, ↓backK_sl, ↓backK_fn, ↓backK_agg, ↓backK_tup, ↓backK_pel, ↓backK_osl, ↓backK_may, ↓backK_box, ↓bothTT, ↓bothTF, ↓bothFT, ↓bothFF, bothTT, bothTF, bothFT, bothFF, ↓bothTT, ↓bothTF, ↓bothFT, ↓bothFF, ↓bothNT, ↓bothNF, ↓bothCT, ↓bothCF, Try.f168, frW, wk2, wk1, wkL, wkB, hpW, List.mem_cons, Prod.mk.injEq, exists_eq_left, exists_eq_right, exists_eq]
    · have : i = xs.length := by omega
      subst this
      simp only [List.drop_length, List.all_nil] at hp
      simp (config := { maxSteps := 4000000 }) only [go_sem, Nat.reduceEqDiff, Nat.reduceAdd, Nat.reduceMul, Nat.reduceSub, Nat.reduceLT, Nat.reduceLeDiff, reduceIte, reduceCtorEq, Int.reduceToNat, Int.reduceLE, Int.reduceLT, Int.reduceEq, Int.reduceGT, Int.reduceGE, Int.reduceAdd, Int.reduceSub, Int.reduceNeg, Int.reduceMul, ↓bT, ↓bF, ↓backK_top, ↓backK_int, ↓backK_bool, ↓backK_sl, ↓backK_fn, ↓backK_agg, ↓backK_tup, ↓backK_pel, ↓backK_osl, ↓backK_may, ↓backK_box, ↓bothTT, ↓bothTF, ↓bothFT, ↓bothFF, bothTT, bothTF, bothFT, bothFF, ↓bothTT, ↓bothTF, ↓bothFT, ↓bothFF, ↓bothNT, ↓bothNF, ↓bothCT, ↓bothCF, Try.f168, rows_length, nlf h]
      refine CallTo.det (c_l1In _ _ _) fun _ => ?_
      cases h1 : inB tag 0 9 with
      | false =>
        have h1' : (decide (0 ≤ tag) && decide (tag ≤ 9)) = false := h1
        simp (config := { maxSteps := 4000000 }) only [go_sem, Nat.reduceEqDiff, Nat.reduceAdd, Nat.reduceMul, Nat.reduceSub, Nat.reduceLT, Nat.reduceLeDiff, reduceIte, reduceCtorEq, Int.reduceToNat, Int.reduceLE, Int.reduceLT, Int.reduceEq, Int.reduceGT, Int.reduceGE, Int.reduceAdd, Int.reduceSub, Int.reduceNeg, Int.reduceMul, ↓bT, ↓bF, ↓backK_top, ↓backK_int, ↓backK_bool, ↓backK_sl, ↓backK_fn, ↓backK_agg, ↓backK_tup, ↓backK_pel, ↓backK_osl, ↓backK_may, ↓backK_box, ↓bothTT, ↓bothTF, ↓bothFT, ↓bothFF, bothTT, bothTF, bothFT, bothFF, ↓bothTT, ↓bothTF, ↓bothFT, ↓bothFF, ↓bothNT, ↓bothNF, ↓bothCT, ↓bothCF, Try.f168, rows_length, nlf h, h1]
        unfold sumOf
        rw [h1', Bool.false_and]
        rfl
      | true =>
        have h1' : (decide (0 ≤ tag) && decide (tag ≤ 9)) = true := h1
        have h2 := inB_iff.1 h1
        simp (config := { maxSteps := 4000000 }) only [go_sem, Nat.reduceEqDiff, Nat.reduceAdd, Nat.reduceMul, Nat.reduceSub, Nat.reduceLT, Nat.reduceLeDiff, reduceIte, reduceCtorEq, Int.reduceToNat, Int.reduceLE, Int.reduceLT, Int.reduceEq, Int.reduceGT, Int.reduceGE, Int.reduceAdd, Int.reduceSub, Int.reduceNeg, Int.reduceMul, ↓bT, ↓bF, ↓backK_top, ↓backK_int, ↓backK_bool, ↓backK_sl, ↓backK_fn, ↓backK_agg, ↓backK_tup, ↓backK_pel, ↓backK_osl, ↓backK_may, ↓backK_box, ↓bothTT, ↓bothTF, ↓bothFT, ↓bothFF, bothTT, bothTF, bothFT, bothFF, ↓bothTT, ↓bothTF, ↓bothFT, ↓bothFF, ↓bothNT, ↓bothNF, ↓bothCT, ↓bothCF, Try.f168, rows_length, nlf h, h1]
        refine CallTo.det (c_spec_l1Sum tag _ xs hx h2 (fun x hx => by simpa [isSummedB] using List.all_eq_true.1 hp.symm x hx)) fun _ => ?_
        simp (config := { maxSteps := 4000000 }) only [go_sem, Nat.reduceEqDiff, Nat.reduceAdd, Nat.reduceMul, Nat.reduceSub, Nat.reduceLT, Nat.reduceLeDiff, reduceIte, reduceCtorEq, Int.reduceToNat, Int.reduceLE, Int.reduceLT, Int.reduceEq, Int.reduceGT, Int.reduceGE, Int.reduceAdd, Int.reduceSub, Int.reduceNeg, Int.reduceMul, ↓bT, ↓bF, ↓backK_top, ↓backK_int, ↓backK_bool, ↓backK_sl, ↓backK_fn, ↓backK_agg, ↓backK_tup, ↓backK_pel, ↓backK_osl, ↓backK_may, ↓backK_box, ↓bothTT, ↓bothTF, ↓bothFT, ↓bothFF, bothTT, bothTF, bothFT, bothFF, ↓bothTT, ↓bothTF, ↓bothFT, ↓bothFF, ↓bothNT, ↓bothNF, ↓bothCT, ↓bothCF, Try.f168, rows_length, nlf h, h1]
        unfold sumOf
        rw [h1', ← hp]
        rfl

theorem c_impl_EffectsSum0 (n1 : Option Bool) : Det Try.prog 123 [.sl n1 []] (.int .i64 21) := by
  refine fspec_det tab_ok Try.call123 Try.func123 rfl 23 Try.ntmps123 (of_decide_eq_true rfl) fun B => codeK_sound tab_ok _ _ _ ?_
  simp (config := { maxSteps := 4000000 }) only [go_sem, Nat.reduceEqDiff, Nat.reduceAdd, Nat.reduceMul, Nat.reduceSub, Nat.reduceLT, Nat.reduceLeDiff, reduceIte, reduceCtorEq, Int.reduceToNat, Int.reduceLE, Int.reduceLT, Int.reduceEq, Int.reduceGT, Int.reduceGE, Int.reduceAdd, Int.reduceSub, Int.reduceNeg, Int.reduceMul, ↓bT, ↓bF, ↓backK_top, ↓backK_int, ↓backK_bool, ↓backK_sl, ↓backK_fn, ↓backK_agg, ↓backK_tup, ↓backK_pel, ↓backK_osl, ↓backK_may, ↓backK_box, ↓bothTT, ↓bothTF, ↓bothFT, ↓bothFF, bothTT, bothTF, bothFT, bothFF, ↓bothTT, ↓bothTF, ↓bothFT, ↓bothFF, ↓bothNT, ↓bothNF, ↓bothCT, ↓bothCF, Try.f123]
  refine semL_for tab_ok (fun _ : Unit => ⟨23, [(3, .sl (some false) []), (9, .sl n1 []), (10, .int .i64 0), (11, .int .i64 0)], []⟩) (fun _ => 0) (fun _ => True) () [] (Weak.of (by rfl) trivial ?_ (by rfl)) trivial ?_
  · simp (config := { maxSteps := 4000000 }) only [go_sem, Nat.reduceEqDiff, Nat.reduceAdd, Nat.reduceMul, Nat.reduceSub, Nat.reduceLT, Nat.reduceLeDiff, reduceIte, reduceCtorEq, Int.reduceToNat, Int.reduceLE, Int.reduceLT, Int.reduceEq, Int.reduceGT, Int.reduceGE, Int.reduceAdd, Int.reduceSub, Int.reduceNeg, Int.reduceMul, ↓bT, ↓bF, ↓backK_top, ↓backK_int, ↓backK_bool, ↓backK_sl, ↓backK_fn, ↓backK_agg, ↓backK_tup, ↓backK_pel, ↓backK_osl, ↓backK_may, ↓backK_box, ↓bothTT, ↓bothTF, ↓bothFT, ↓bothFF, bothTT, bothTF, bothFT, bothFF, ↓bothTT, ↓bothTF, ↓bothFT, ↓bothFF, ↓bothNT, ↓bothNF, ↓bothCT, ↓bothCF, Try.f123, frW, wk2, wk1, wkL, wkB, hpW, List.mem_cons, Prod.mk.injEq, exists_eq_left, exists_eq_right, exists_eq]
  · rintro _ _
    simp (config := { maxSteps := 4000000 }) only [go_sem, Nat.reduceEqDiff, Nat.reduceAdd, Nat.reduceMul, Nat.reduceSub, Nat.reduceLT, Nat.reduceLeDiff, reduceIte, reduceCtorEq, Int.reduceToNat, Int.reduceLE, Int.reduceLT, Int.reduceEq, Int.reduceGT, Int.reduceGE, Int.reduceAdd, Int.reduceSub, Int.reduceNeg, Int.reduceMul, ↓bT, ↓bF, ↓backK_top, ↓backK_int, ↓backK_bool, ↓backK_sl, ↓backK_fn, ↓backK_agg, ↓backK_tup, ↓backK_pel, ↓backK_osl, ↓backK_may, ↓backK_box, ↓bothTT, ↓bothTF, ↓bothFT, ↓bothFF, bothTT, bothTF, bothFT, bothFF, ↓bothTT, ↓bothTF, ↓bothFT, ↓bothFF, ↓bothNT, ↓bothNF, ↓bothCT, ↓bothCF, Try.f123]
    refine CallTo.det (c_impl_SumOf 4 _ [] (by simp)) fun _ => ?_
    simp (config := { maxSteps := 4000000 }) only [go_sem, Nat.reduceEqDiff, Nat.reduceAdd, Nat.reduceMul, Nat.reduceSub, Nat.reduceLT, Nat.reduceLeDiff, reduceIte, reduceCtorEq, Int.reduceToNat, Int.reduceLE, Int.reduceLT, Int.reduceEq, Int.reduceGT, Int.reduceGE, Int.reduceAdd, Int.reduceSub, Int.reduceNeg, Int.reduceMul, ↓bT, ↓bF, ↓backK_top, ↓backK_int, ↓backK_bool, ↓backK_sl, ↓backK_fn, ↓backK_agg, ↓backK_tup, ↓backK_pel, ↓backK_osl, ↓backK_may, ↓backK_box, ↓bothTT, ↓bothTF, ↓bothFT, ↓bothFF, bothTT, bothTF, bothFT, bothFF, ↓bothTT, ↓bothTF, ↓bothFT, ↓bothFF, ↓bothNT, ↓bothNF, ↓bothCT, ↓bothCF, Try.f123]
    decide

theorem c_spec_EffectsSum0 (n1 : Option Bool) : Det Try.prog 118 [.sl n1 []] (.int .i64 21) := by
  refine fspec_det tab_ok Try.call118 Try.func118 rfl 25 Try.ntmps118 (of_decide_eq_true rfl) fun B => codeK_sound tab_ok _ _ _ ?_
  simp (config := { maxSteps := 4000000 }) only [go_sem, Nat.reduceEqDiff, Nat.reduceAdd, Nat.reduceMul, Nat.reduceSub, Nat.reduceLT, Nat.reduceLeDiff, reduceIte, reduceCtorEq, Int.reduceToNat, Int.reduceLE, Int.reduceLT, Int.reduceEq, Int.reduceGT, Int.reduceGE, Int.reduceAdd, Int.reduceSub, Int.reduceNeg, Int.reduceMul, ↓bT, ↓bF, ↓backK_top, ↓backK_int, ↓backK_bool, ↓backK_sl, ↓backK_fn, ↓backK_agg, ↓backK_tup, ↓backK_pel, ↓backK_osl, ↓backK_may, ↓backK_box, ↓bothTT, ↓bothTF, ↓bothFT, ↓bothFF, bothTT, bothTF, bothFT, bothFF, ↓bothTT, ↓bothTF, ↓bothFT, ↓bothFF, ↓bothNT, ↓bothNF, ↓bothCT, ↓bothCF, Try.f118]
  refine semL_for tab_ok (fun _ : Unit => ⟨25, [(0, .sl n1 []), (3, .row 5 0), (4, .int .i64 0)], [(5, .row true true 1 [])]⟩) (fun _ => 0) (fun _ => True) () [(5, 5)] (Weak.of (by rfl) ?_ ?_ (by rfl)) trivial ?_
  · simp (config := { maxSteps := 4000000 }) only [go_sem, Nat.reduceEqDiff, Nat.reduceAdd, Nat.reduceMul, Nat.reduceSub, Nat.reduceLT, Nat.reduceLeDiff, reduceIte, reduceCtorEq, Int.reduceToNat, Int.reduceLE, Int.reduceLT, Int.reduceEq, Int.reduceGT, Int.reduceGE, Int.reduceAdd, Int.reduceSub, Int.reduceNeg, Int.reduceMul, ↓bT, ↓bF, ↓backK_top, ↓backK_int, ↓backK_bool, ↓backK_sl, ↓backK_fn, ↓backK_agg, ↓backK_tup, ↓backK_pel, ↓backK_osl, ↓backK_may, ↓backK_box, ↓bothTT, ↓bothTF, ↓bothFT, ↓bothFF, bothTT, bothTF, bothFT, bothFF, ↓bothTT, ↓bothTF, ↓bothFT, ↓bothFF, ↓bothNT, ↓bothNF, ↓bothCT, ↓bothCF, Try.f118, frW, wk2, wk1, wkL, wkB, hpW, List.mem_cons, Prod.mk.injEq, exists_eq_left, exists_eq_right, exists_eq]
  · simp (config := { maxSteps := 4000000 }) only [go_sem, Nat.reduceEqDiff, Nat.reduceAdd, Nat.reduceMul, Nat.reduceSub, Nat.reduceLT, Nat.reduceLeDiff, reduceIte, reduceCtorEq, Int.reduceToNat, Int.reduceLE, Int.reduceLT, Int.reduceEq, Int.reduceGT, Int.reduceGE, Int.reduceAdd, Int.reduceSub, Int.reduceNeg, Int.reduceMul, ↓bT, ↓bF, ↓backK_top, ↓backK_int, ↓backK_bool, ↓backK_sl, ↓backK_fn, ↓backK_agg, ↓backK_tup, ↓backK_pel, ↓backK_osl, ↓backK_may, ↓backK_box, ↓bothTT, ↓bothTF, ↓bothFT, ↓bothFF, bothTT, bothTF, bothFT, bothFF, ↓bothTT, ↓bothTF, ↓bothFT, ↓bothFF, ↓bothNT, ↓bothNF, ↓bothCT, ↓bothCF, Try.f118, frW, wk2, wk1, wkL, wkB, hpW, List.mem_cons, Prod.mk.injEq, exists_eq_left, exists_eq_right, exists_eq]
  · rintro _ _
    simp (config := { maxSteps := 4000000 }) only [go_sem, Nat.reduceEqDiff, Nat.reduceAdd, Nat.reduceMul, Nat.reduceSub, Nat.reduceLT, Nat.reduceLeDiff, reduceIte, reduceCtorEq, Int.reduceToNat, Int.reduceLE, Int.reduceLT, Int.reduceEq, Int.reduceGT, Int.reduceGE, Int.reduceAdd, Int.reduceSub, Int.reduceNeg, Int.reduceMul, ↓bT, ↓bF, ↓backK_top, ↓backK_int, ↓backK_bool, ↓backK_sl, ↓backK_fn, ↓backK_agg, ↓backK_tup, ↓backK_pel, ↓backK_osl, ↓backK_may, ↓backK_box, ↓bothTT, ↓bothTF, ↓bothFT, ↓bothFF, bothTT, bothTF, bothFT, bothFF, ↓bothTT, ↓bothTF, ↓bothFT, ↓bothFF, ↓bothNT, ↓bothNF, ↓bothCT, ↓bothCF, Try.f118]
    refine CallTo.det (c_spec_SumOf 4 _ [] (by simp)) fun _ => ?_
    simp (config := { maxSteps := 4000000 }) only [go_sem, Nat.reduceEqDiff, Nat.reduceAdd, Nat.reduceMul, Nat.reduceSub, Nat.reduceLT, Nat.reduceLeDiff, reduceIte, reduceCtorEq, Int.reduceToNat, Int.reduceLE, Int.reduceLT, Int.reduceEq, Int.reduceGT, Int.reduceGE, Int.reduceAdd, Int.reduceSub, Int.reduceNeg, Int.reduceMul, ↓bT, ↓bF, ↓backK_top, ↓backK_int, ↓backK_bool, ↓backK_sl, ↓backK_fn, ↓backK_agg, ↓backK_tup, ↓backK_pel, ↓backK_osl, ↓backK_may, ↓backK_box, ↓bothTT, ↓bothTF, ↓bothFT, ↓bothFF, bothTT, bothTF, bothFT, bothFF, ↓bothTT, ↓bothTF, ↓bothFT, ↓bothFF, ↓bothNT, ↓bothNF, ↓bothCT, ↓bothCF, Try.f118]
    decide

/-- The first block over a store. -/
def firstBlock (s : List Entry) : Block := if storeValid s then ⟨0, 0, 0, [], rootOf s, 21⟩ else ⟨0, 0, 0, [], 0, 0⟩

theorem c_impl_FirstBlock (n1 : Option Bool) (s : List Entry) (hx : s.length < 2 ^ 62) : Det Try.prog 111 [.sl n1 (rows encE s)] (.agg (encBk none (firstBlock s))) := by
  refine fspec_det tab_ok Try.call111 Try.func111 rfl 11 Try.ntmps111 (of_decide_eq_true rfl) fun B => codeK_sound tab_ok _ _ _ ?_
  simp (config := { maxSteps := 4000000 }) only [go_sem, Nat.reduceEqDiff, Nat.reduceAdd, Nat.reduceMul, Nat.reduceSub, Nat.reduceLT, Nat.reduceLeDiff, reduceIte, reduceCtorEq, Int.reduceToNat, Int.reduceLE, Int.reduceLT, Int.reduceEq, Int.reduceGT, Int.reduceGE, Int.reduceAdd, Int.reduceSub, Int.reduceNeg, Int.reduceMul, ↓bT, ↓bF, ↓backK_top, ↓backK_int, ↓backK_bool, ↓backK_sl, ↓backK_fn, ↓backK_agg, ↓backK_tup, ↓backK_pel, ↓backK_osl, ↓backK_may, ↓backK_box, ↓bothTT, ↓bothTF, ↓bothFT, ↓bothFF, bothTT, bothTF, bothFT, bothFF, ↓bothTT, ↓bothTF, ↓bothFT, ↓bothFF, ↓bothNT, ↓bothNF, ↓bothCT, ↓bothCF, Try.f111]
  refine CallTo.det (c_impl_StoreValid _ _ hx) fun _ => ?_
  cases h : storeValid s with
  | false => simp (config := { maxSteps := 4000000 }) only [go_sem, Nat.reduceEqDiff, Nat.reduceAdd, Nat.reduceMul, Nat.reduceSub, Nat.reduceLT, Nat.reduceLeDiff, reduceIte, reduceCtorEq, Int.reduceToNat, Int.reduceLE, Int.reduceLT, Int.reduceEq, Int.reduceGT, Int.reduceGE, Int.reduceAdd, Int.reduceSub, Int.reduceNeg, Int.reduceMul, ↓bT, ↓bF, ↓backK_top, ↓backK_int, ↓backK_bool, ↓backK_sl, ↓backK_fn, ↓backK_agg, ↓backK_tup, ↓backK_pel, ↓backK_osl, ↓backK_may, ↓backK_box, ↓bothTT, ↓bothTF, ↓bothFT, ↓bothFF, bothTT, bothTF, bothFT, bothFF, ↓bothTT, ↓bothTF, ↓bothFT, ↓bothFF, ↓bothNT, ↓bothNF, ↓bothCT, ↓bothCF, Try.f111, h, firstBlock, encBk, rows_nil]
  | true =>
    simp (config := { maxSteps := 4000000 }) only [go_sem, Nat.reduceEqDiff, Nat.reduceAdd, Nat.reduceMul, Nat.reduceSub, Nat.reduceLT, Nat.reduceLeDiff, reduceIte, reduceCtorEq, Int.reduceToNat, Int.reduceLE, Int.reduceLT, Int.reduceEq, Int.reduceGT, Int.reduceGE, Int.reduceAdd, Int.reduceSub, Int.reduceNeg, Int.reduceMul, ↓bT, ↓bF, ↓backK_top, ↓backK_int, ↓backK_bool, ↓backK_sl, ↓backK_fn, ↓backK_agg, ↓backK_tup, ↓backK_pel, ↓backK_osl, ↓backK_may, ↓backK_box, ↓bothTT, ↓bothTF, ↓bothFT, ↓bothFF, bothTT, bothTF, bothFT, bothFF, ↓bothTT, ↓bothTF, ↓bothFT, ↓bothFF, ↓bothNT, ↓bothNF, ↓bothCT, ↓bothCF, Try.f111, h]
    refine CallTo.det (c_impl_RootOf _ _ hx) fun _ => ?_
    simp (config := { maxSteps := 4000000 }) only [go_sem, Nat.reduceEqDiff, Nat.reduceAdd, Nat.reduceMul, Nat.reduceSub, Nat.reduceLT, Nat.reduceLeDiff, reduceIte, reduceCtorEq, Int.reduceToNat, Int.reduceLE, Int.reduceLT, Int.reduceEq, Int.reduceGT, Int.reduceGE, Int.reduceAdd, Int.reduceSub, Int.reduceNeg, Int.reduceMul, ↓bT, ↓bF, ↓backK_top, ↓backK_int, ↓backK_bool, ↓backK_sl, ↓backK_fn, ↓backK_agg, ↓backK_tup, ↓backK_pel, ↓backK_osl, ↓backK_may, ↓backK_box, ↓bothTT, ↓bothTF, ↓bothFT, ↓bothFF, bothTT, bothTF, bothFT, bothFF, ↓bothTT, ↓bothTF, ↓bothFT, ↓bothFF, ↓bothNT, ↓bothNF, ↓bothCT, ↓bothCF, Try.f111, h]
    refine CallTo.det (c_impl_EffectsSum0 _) fun _ => ?_
    simp (config := { maxSteps := 4000000 }) only [go_sem, Nat.reduceEqDiff, Nat.reduceAdd, Nat.reduceMul, Nat.reduceSub, Nat.reduceLT, Nat.reduceLeDiff, reduceIte, reduceCtorEq, Int.reduceToNat, Int.reduceLE, Int.reduceLT, Int.reduceEq, Int.reduceGT, Int.reduceGE, Int.reduceAdd, Int.reduceSub, Int.reduceNeg, Int.reduceMul, ↓bT, ↓bF, ↓backK_top, ↓backK_int, ↓backK_bool, ↓backK_sl, ↓backK_fn, ↓backK_agg, ↓backK_tup, ↓backK_pel, ↓backK_osl, ↓backK_may, ↓backK_box, ↓bothTT, ↓bothTF, ↓bothFT, ↓bothFF, bothTT, bothTF, bothFT, bothFF, ↓bothTT, ↓bothTF, ↓bothFT, ↓bothFF, ↓bothNT, ↓bothNF, ↓bothCT, ↓bothCF, Try.f111, h, firstBlock, encBk, rows_nil]

theorem c_spec_FirstBlock (n1 : Option Bool) (s : List Entry) (hx : s.length < 2 ^ 62) : Det Try.prog 153 [.sl n1 (rows encE s)] (.agg (encBk none (firstBlock s))) := by
  refine fspec_det tab_ok Try.call153 Try.func153 rfl 12 Try.ntmps153 (of_decide_eq_true rfl) fun B => codeK_sound tab_ok _ _ _ ?_
  simp (config := { maxSteps := 4000000 }) only [go_sem, Nat.reduceEqDiff, Nat.reduceAdd, Nat.reduceMul, Nat.reduceSub, Nat.reduceLT, Nat.reduceLeDiff, reduceIte, reduceCtorEq, Int.reduceToNat, Int.reduceLE, Int.reduceLT, Int.reduceEq, Int.reduceGT, Int.reduceGE, Int.reduceAdd, Int.reduceSub, Int.reduceNeg, Int.reduceMul, ↓bT, ↓bF, ↓backK_top, ↓backK_int, ↓backK_bool, ↓backK_sl, ↓backK_fn, ↓backK_agg, ↓backK_tup, ↓backK_pel, ↓backK_osl, ↓backK_may, ↓backK_box, ↓bothTT, ↓bothTF, ↓bothFT, ↓bothFF, bothTT, bothTF, bothFT, bothFF, ↓bothTT, ↓bothTF, ↓bothFT, ↓bothFF, ↓bothNT, ↓bothNF, ↓bothCT, ↓bothCF, Try.f153]
  refine CallTo.det (c_spec_StoreValid _ _ hx) fun _ => ?_
  cases h : storeValid s with
  | false => simp (config := { maxSteps := 4000000 }) only [go_sem, Nat.reduceEqDiff, Nat.reduceAdd, Nat.reduceMul, Nat.reduceSub, Nat.reduceLT, Nat.reduceLeDiff, reduceIte, reduceCtorEq, Int.reduceToNat, Int.reduceLE, Int.reduceLT, Int.reduceEq, Int.reduceGT, Int.reduceGE, Int.reduceAdd, Int.reduceSub, Int.reduceNeg, Int.reduceMul, ↓bT, ↓bF, ↓backK_top, ↓backK_int, ↓backK_bool, ↓backK_sl, ↓backK_fn, ↓backK_agg, ↓backK_tup, ↓backK_pel, ↓backK_osl, ↓backK_may, ↓backK_box, ↓bothTT, ↓bothTF, ↓bothFT, ↓bothFF, bothTT, bothTF, bothFT, bothFF, ↓bothTT, ↓bothTF, ↓bothFT, ↓bothFF, ↓bothNT, ↓bothNF, ↓bothCT, ↓bothCF, Try.f153, h, firstBlock, encBk, rows_nil]
  | true =>
    simp (config := { maxSteps := 4000000 }) only [go_sem, Nat.reduceEqDiff, Nat.reduceAdd, Nat.reduceMul, Nat.reduceSub, Nat.reduceLT, Nat.reduceLeDiff, reduceIte, reduceCtorEq, Int.reduceToNat, Int.reduceLE, Int.reduceLT, Int.reduceEq, Int.reduceGT, Int.reduceGE, Int.reduceAdd, Int.reduceSub, Int.reduceNeg, Int.reduceMul, ↓bT, ↓bF, ↓backK_top, ↓backK_int, ↓backK_bool, ↓backK_sl, ↓backK_fn, ↓backK_agg, ↓backK_tup, ↓backK_pel, ↓backK_osl, ↓backK_may, ↓backK_box, ↓bothTT, ↓bothTF, ↓bothFT, ↓bothFF, bothTT, bothTF, bothFT, bothFF, ↓bothTT, ↓bothTF, ↓bothFT, ↓bothFF, ↓bothNT, ↓bothNF, ↓bothCT, ↓bothCF, Try.f153, h]
    refine CallTo.det (c_spec_RootOf _ _ hx) fun _ => ?_
    simp (config := { maxSteps := 4000000 }) only [go_sem, Nat.reduceEqDiff, Nat.reduceAdd, Nat.reduceMul, Nat.reduceSub, Nat.reduceLT, Nat.reduceLeDiff, reduceIte, reduceCtorEq, Int.reduceToNat, Int.reduceLE, Int.reduceLT, Int.reduceEq, Int.reduceGT, Int.reduceGE, Int.reduceAdd, Int.reduceSub, Int.reduceNeg, Int.reduceMul, ↓bT, ↓bF, ↓backK_top, ↓backK_int, ↓backK_bool, ↓backK_sl, ↓backK_fn, ↓backK_agg, ↓backK_tup, ↓backK_pel, ↓backK_osl, ↓backK_may, ↓backK_box, ↓bothTT, ↓bothTF, ↓bothFT, ↓bothFF, bothTT, bothTF, bothFT, bothFF, ↓bothTT, ↓bothTF, ↓bothFT, ↓bothFF, ↓bothNT, ↓bothNF, ↓bothCT, ↓bothCF, Try.f153, h]
    refine CallTo.det (c_spec_EffectsSum0 _) fun _ => ?_
    simp (config := { maxSteps := 4000000 }) only [go_sem, Nat.reduceEqDiff, Nat.reduceAdd, Nat.reduceMul, Nat.reduceSub, Nat.reduceLT, Nat.reduceLeDiff, reduceIte, reduceCtorEq, Int.reduceToNat, Int.reduceLE, Int.reduceLT, Int.reduceEq, Int.reduceGT, Int.reduceGE, Int.reduceAdd, Int.reduceSub, Int.reduceNeg, Int.reduceMul, ↓bT, ↓bF, ↓backK_top, ↓backK_int, ↓backK_bool, ↓backK_sl, ↓backK_fn, ↓backK_agg, ↓backK_tup, ↓backK_pel, ↓backK_osl, ↓backK_may, ↓backK_box, ↓bothTT, ↓bothTF, ↓bothFT, ↓bothFF, bothTT, bothTF, bothFT, bothFF, ↓bothTT, ↓bothTF, ↓bothFT, ↓bothFF, ↓bothNT, ↓bothNF, ↓bothCT, ↓bothCF, Try.f153, h, firstBlock, encBk, rows_nil]

end Go.Proofs.Ytdaemhaecjldaaa

