/- An abstract run of Go code, and contracts of functions (part 5): W17, W18, W19, W20, W21, W22, W23, W24 -/
import Derived.Test.YtdaemhaecjldaaaM4

/- Contracts: equality of blocks, numbers in lists, blocks by their sums. -/
set_option linter.unusedSimpArgs false
set_option linter.unusedVariables false
set_option maxRecDepth 20000
set_option maxHeartbeats 2000000
namespace Go.Proofs.Ytdaemhaecjldaaa
open Go Go.RowKit

theorem rows_gd {α : Type} [Inhabited α] (e : α → List AV) (xs : List α) (i : Nat) (h : i < xs.length) : (rows e xs).getD i [] = e (xs.getD i default) := by
  rw [rows_get _ _ _ h]; simp [List.getD_eq_getElem?_getD, h]

theorem getD_get {α : Type} [Inhabited α] (xs : List α) (i : Nat) (h : i < xs.length) : xs.getD i default = xs[i] := by
  simp [List.getD_eq_getElem?_getD, h]

theorem take_snoc {α : Type} (xs : List α) (i : Nat) (h : i < xs.length) : xs.take (i + 1) = xs.take i ++ [xs[i]] := (List.take_append_getElem h).symm

/-- Comparing lists one by one: what is behind i decides. -/
theorem eq_drop {α : Type} [DecidableEq α] (xs ys : List α) (i : Nat) (hl : xs.length = ys.length) (h : i < xs.length) :
    decide (xs.drop i = ys.drop i) = (decide (xs[i] = ys[i]'(by omega)) && decide (xs.drop (i + 1) = ys.drop (i + 1))) := by
  rw [drop_cons xs i h, drop_cons ys i (by omega), ← Bool.decide_and]
  exact decide_eq_decide.2 (by rw [List.cons.injEq])

theorem eqA (a b : Action) (K : Bool → Prop) : eqCellsK [.int .i64 a.kind, .int .i64 a.fr, .int .i64 a.to, .int .i64 a.amount] [.int .i64 b.kind, .int .i64 b.fr, .int .i64 b.to, .int .i64 b.amount] true K = K (decide (a = b)) := by
  simp only [eqCellsK, true_and, Bool.true_and]
  congr 1
  obtain ⟨a1, a2, a3, a4⟩ := a
  obtain ⟨b1, b2, b3, b4⟩ := b
  rw [Bool.eq_iff_iff]
  simp only [Bool.and_eq_true, beq_iff_eq, decide_eq_true_eq, Action.mk.injEq, and_assoc]

theorem c_slices_Equal_Action (n1 n2 : Option Bool) (xs ys : List Action) (hx : xs.length < 2 ^ 62) (hy : ys.length < 2 ^ 62) :
    Det Try.prog 184 [.sl n1 (rows encA xs), .sl n2 (rows encA ys)] (.bool (decide (xs = ys))) := by
  refine fspec_det tab_ok Try.call184 Try.func184 rfl 26 Try.ntmps184 (of_decide_eq_true rfl) fun B => codeK_sound tab_ok _ _ _ ?_
  by_cases hl : xs.length = ys.length
  · have hd : (((xs.length : Int) != (ys.length : Int))) = false := by simp [hl]
    simp (config := { maxSteps := 4000000 }) only [go_sem, Nat.reduceEqDiff, Nat.reduceAdd, Nat.reduceMul, Nat.reduceSub, Nat.reduceLT, Nat.reduceLeDiff, reduceIte, reduceCtorEq, Int.reduceToNat, Int.reduceLE, Int.reduceLT, Int.reduceEq, Int.reduceGT, Int.reduceGE, Int.reduceAdd, Int.reduceSub, Int.reduceNeg, Int.reduceMul, ↓bT, ↓bF, ↓backK_top, ↓backK_int, ↓backK_bool, ↓backK_sl, ↓backK_fn, ↓backK_agg, ↓backK_tup, ↓backK_pel, ↓backK_osl, ↓backK_may, ↓backK_box, ↓bothTT, ↓bothTF, ↓bothFT, ↓bothFF, bothTT, bothTF, bothFT, bothFF, ↓bothTT, ↓bothTF, ↓bothFT, ↓bothFF, ↓bothNT, ↓bothNF, ↓bothCT, ↓bothCF, Try.f184, rows_length, hd]
    refine semL_for tab_ok (fun i : Nat => ⟨26, [(0, .sl n1 (rows encA xs)), (1, .sl n2 (rows encA ys)), (12, .int .i64 xs.length), (13, .int .i64 i)], []⟩) (fun i => xs.length - i)
      (fun i => i ≤ xs.length ∧ decide (xs.drop i = ys.drop i) = decide (xs = ys)) 0 [] (Weak.of (by rfl) trivial ?_ (by rfl)) ⟨by omega, rfl⟩ ?_
    · simp (config := { maxSteps := 4000000 }) only [go_sem, Nat.reduceEqDiff, Nat.reduceAdd, Nat.reduceMul, Nat.reduceSub, Nat.reduceLT, Nat.reduceLeDiff, reduceIte, reduceCtorEq, Int.reduceToNat, Int.reduceLE, Int.reduceLT, Int.reduceEq, Int.reduceGT, Int.reduceGE, Int.reduceAdd, Int.reduceSub, Int.reduceNeg, Int.reduceMul, ↓bT, ↓bF, ↓backK_top, ↓backK_int, ↓backK_bool, ↓backK_sl, ↓backK_fn, ↓backK_agg, ↓backK_tup, ↓backK_pel, ↓backK_osl, ↓backK_may, ↓backK_box, ↓bothTT, ↓bothTF, ↓bothFT, ↓bothFF, bothTT, bothTF, bothFT, bothFF, ↓bothTT, ↓bothTF, ↓bothFT, ↓bothFF, ↓bothNT, ↓bothNF, ↓bothCT, ↓bothCF, Try.f184, rows_length, frW, wk2, wk1, wkL, wkB, hpW, List.mem_cons, Prod.mk.injEq, exists_eq_left, exists_eq_right, exists_eq]
    · rintro i ⟨hi, hp⟩
      by_cases h : i < xs.length
      · have h2 : i < ys.length := by omega
        rw [eq_drop xs ys i hl h] at hp
        simp (config := { maxSteps := 4000000 }) only [go_sem, Nat.reduceEqDiff, Nat.reduceAdd, Nat.reduceMul, Nat.reduceSub, Nat.reduceLT, Nat.reduceLeDiff, reduceIte, reduceCtorEq, Int.reduceToNat, Int.reduceLE, Int.reduceLT, Int.reduceEq, Int.reduceGT, Int.reduceGE, Int.reduceAdd, Int.reduceSub, Int.reduceNeg, Int.reduceMul, ↓bT, ↓bF, ↓backK_top, ↓backK_int, ↓backK_bool, ↓backK_sl, ↓backK_fn, ↓backK_agg, ↓backK_tup, ↓backK_pel, ↓backK_osl, ↓backK_may, ↓backK_box, ↓bothTT, ↓bothTF, ↓bothFT, ↓bothFF, bothTT, bothTF, bothFT, bothFF, ↓bothTT, ↓bothTF, ↓bothFT, ↓bothFF, ↓bothNT, ↓bothNF, ↓bothCT, ↓bothCF, Try.f184, rows_length, nlt h]
        refine semL_still tab_ok mixed_ (by decide +kernel) ?_
        cases he : decide (xs[i] = ys[i]) with
        | false =>
          rw [he, Bool.false_and] at hp
          simp (config := { maxSteps := 4000000 }) only [go_sem, Nat.reduceEqDiff, Nat.reduceAdd, Nat.reduceMul, Nat.reduceSub, Nat.reduceLT, Nat.reduceLeDiff, reduceIte, reduceCtorEq, Int.reduceToNat, Int.reduceLE, Int.reduceLT, Int.reduceEq, Int.reduceGT, Int.reduceGE, Int.reduceAdd, Int.reduceSub, Int.reduceNeg, Int.reduceMul, ↓bT, ↓bF, ↓backK_top, ↓backK_int, ↓backK_bool, ↓backK_sl, ↓backK_fn, ↓backK_agg, ↓backK_tup, ↓backK_pel, ↓backK_osl, ↓backK_may, ↓backK_box, ↓bothTT, ↓bothTF, ↓bothFT, ↓bothFF, bothTT, bothTF, bothFT, bothFF, ↓bothTT, ↓bothTF, ↓bothFT, ↓bothFF, ↓bothNT, ↓bothNF, ↓bothCT, ↓bothCF, Try.f184, rows_length, rows_get _ _ _ h, rows_get _ _ _ h2, encA, nn0, nlt h, nlt h2, eqA, he, ← hp]
        | true =>
          rw [he, Bool.true_and] at hp
          simp (config := { maxSteps := 4000000 }) only [go_sem, Nat.reduceEqDiff, Nat.reduceAdd, Nat.reduceMul, Nat.reduceSub, Nat.reduceLT, Nat.reduceLeDiff, reduceIte, reduceCtorEq, Int.reduceToNat, Int.reduceLE, Int.reduceLT, Int.reduceEq, Int.reduceGT, Int.reduceGE, Int.reduceAdd, Int.reduceSub, Int.reduceNeg, Int.reduceMul, ↓bT, ↓bF, ↓backK_top, ↓backK_int, ↓backK_bool, ↓backK_sl, ↓backK_fn, ↓backK_agg, ↓backK_tup, ↓backK_pel, ↓backK_osl, ↓backK_may, ↓backK_box, ↓bothTT, ↓bothTF, ↓bothFT, ↓bothFF, bothTT, bothTF, bothFT, bothFF, ↓bothTT, ↓bothTF, ↓bothFT, ↓bothFF, ↓bothNT, ↓bothNF, ↓bothCT, ↓bothCF, Try.f184, rows_length, rows_get _ _ _ h, rows_get _ _ _ h2, encA, nn0, nlt h, nlt h2, eqA, he]
          refine ⟨i + 1, [], ⟨by omega, hp⟩, by dsimp only; omega, Weak.of (by rfl) trivial ?_ (by rfl)⟩
          simp (config := { maxSteps := 4000000 }) only [go_sem, Nat.reduceEqDiff, Nat.reduceAdd, Nat.reduceMul, Nat.reduceSub, Nat.reduceLT, Nat.reduceLeDiff, reduceIte, reduceCtorEq, Int.reduceToNat, Int.reduceLE, Int.reduceLT, Int.reduceEq, Int.reduceGT, Int.reduceGE, Int.reduceAdd, Int.reduceSub, Int.reduceNeg, Int.reduceMul, ↓bT, ↓bF, ↓backK_top, ↓backK_int, ↓backK_bool, ↓backK_sl, ↓backK_fn, ↓backK_agg, ↓backK_tup, ↓backK_pel, ↓backK_osl, ↓backK_may, ↓backK_box, ↓bothTT, ↓bothTF, ↓bothFT, ↓bothFF, bothTT, bothTF, bothFT, bothFF, ↓bothTT, ↓bothTF, ↓bothFT, ↓bothFF, ↓bothNT, ↓bothNF, ↓bothCT, ↓bothCF, Try.f184, wsucc h hx, frW, wk2, wk1, wkL, wkB, hpW, List.mem_cons, Prod.mk.injEq, exists_eq_left, exists_eq_right, exists_eq]
      · have : i = xs.length := by omega
        subst this
        rw [List.drop_length, List.drop_of_length_le (by omega)] at hp
        simp (config := { maxSteps := 4000000 }) only [go_sem, Nat.reduceEqDiff, Nat.reduceAdd, Nat.reduceMul, Nat.reduceSub, Nat.reduceLT, Nat.reduceLeDiff, reduceIte, reduceCtorEq, Int.reduceToNat, Int.reduceLE, Int.reduceLT, Int.reduceEq, Int.reduceGT, Int.reduceGE, Int.reduceAdd, Int.reduceSub, Int.reduceNeg, Int.reduceMul, ↓bT, ↓bF, ↓backK_top, ↓backK_int, ↓backK_bool, ↓backK_sl, ↓backK_fn, ↓backK_agg, ↓backK_tup, ↓backK_pel, ↓backK_osl, ↓backK_may, ↓backK_box, ↓bothTT, ↓bothTF, ↓bothFT, ↓bothFF, bothTT, bothTF, bothFT, bothFF, ↓bothTT, ↓bothTF, ↓bothFT, ↓bothFF, ↓bothNT, ↓bothNF, ↓bothCT, ↓bothCF, Try.f184, nlf h, ← hp]
  · have hd : (((xs.length : Int) != (ys.length : Int))) = true := by simp; omega
    have hne : xs ≠ ys := fun e => hl (by rw [e])
    simp (config := { maxSteps := 4000000 }) only [go_sem, Nat.reduceEqDiff, Nat.reduceAdd, Nat.reduceMul, Nat.reduceSub, Nat.reduceLT, Nat.reduceLeDiff, reduceIte, reduceCtorEq, Int.reduceToNat, Int.reduceLE, Int.reduceLT, Int.reduceEq, Int.reduceGT, Int.reduceGE, Int.reduceAdd, Int.reduceSub, Int.reduceNeg, Int.reduceMul, ↓bT, ↓bF, ↓backK_top, ↓backK_int, ↓backK_bool, ↓backK_sl, ↓backK_fn, ↓backK_agg, ↓backK_tup, ↓backK_pel, ↓backK_osl, ↓backK_may, ↓backK_box, ↓bothTT, ↓bothTF, ↓bothFT, ↓bothFF, bothTT, bothTF, bothFT, bothFF, ↓bothTT, ↓bothTF, ↓bothFT, ↓bothFF, ↓bothNT, ↓bothNF, ↓bothCT, ↓bothCF, Try.f184, rows_length, hd, decide_eq_false hne]

theorem c_slices_Index_int (n1 : Option Bool) (xs : List Int) (v : Int) (hx : xs.length < 2 ^ 62) : Det Try.prog 172 [.sl n1 (rows encI xs), .int .i64 v] (.int .i64 (idxF (fun x => v == x) xs 0)) := by
  refine fspec_det tab_ok Try.call172 Try.func172 rfl 19 Try.ntmps172 (of_decide_eq_true rfl) fun B => codeK_sound tab_ok _ _ _ ?_
  simp (config := { maxSteps := 4000000 }) only [go_sem, Nat.reduceEqDiff, Nat.reduceAdd, Nat.reduceMul, Nat.reduceSub, Nat.reduceLT, Nat.reduceLeDiff, reduceIte, reduceCtorEq, Int.reduceToNat, Int.reduceLE, Int.reduceLT, Int.reduceEq, Int.reduceGT, Int.reduceGE, Int.reduceAdd, Int.reduceSub, Int.reduceNeg, Int.reduceMul, ↓bT, ↓bF, ↓backK_top, ↓backK_int, ↓backK_bool, ↓backK_sl, ↓backK_fn, ↓backK_agg, ↓backK_tup, ↓backK_pel, ↓backK_osl, ↓backK_may, ↓backK_box, ↓bothTT, ↓bothTF, ↓bothFT, ↓bothFF, bothTT, bothTF, bothFT, bothFF, ↓bothTT, ↓bothTF, ↓bothFT, ↓bothFF, ↓bothNT, ↓bothNF, ↓bothCT, ↓bothCF, Try.f172, rows_length]
  refine semL_for tab_ok (fun i : Nat => ⟨19, [(0, .sl n1 (rows encI xs)), (1, .int .i64 v), (7, .int .i64 xs.length), (8, .int .i64 i)], []⟩) (fun i => xs.length - i)
    (fun i => i ≤ xs.length ∧ idxF (fun x => v == x) (xs.drop i) i = idxF (fun x => v == x) xs 0) 0 [] (Weak.of (by rfl) trivial ?_ (by rfl)) ⟨by omega, rfl⟩ ?_
  · simp (config := { maxSteps := 4000000 }) only [go_sem, Nat.reduceEqDiff, Nat.reduceAdd, Nat.reduceMul, Nat.reduceSub, Nat.reduceLT, Nat.reduceLeDiff, reduceIte, reduceCtorEq, Int.reduceToNat, Int.reduceLE, Int.reduceLT, Int.reduceEq, Int.reduceGT, Int.reduceGE, Int.reduceAdd, Int.reduceSub, Int.reduceNeg, Int.reduceMul, ↓bT, ↓bF, ↓backK_top, ↓backK_int, ↓backK_bool, ↓backK_sl, ↓backK_fn, ↓backK_agg, ↓backK_tup, ↓backK_pel, ↓backK_osl, ↓backK_may, ↓backK_box, ↓bothTT, ↓bothTF, ↓bothFT, ↓bothFF, bothTT, bothTF, bothFT, bothFF, ↓bothTT, ↓bothTF, ↓bothFT, ↓bothFF, ↓bothNT, ↓bothNF, ↓bothCT, ↓bothCF, Try.f172, frW, wk2, wk1, wkL, wkB, hpW, List.mem_cons, Prod.mk.injEq, exists_eq_left, exists_eq_right, exists_eq]
  · rintro i ⟨hi, hp⟩
    by_cases h : i < xs.length
    · rw [drop_cons xs i h] at hp
      have hp : (if (v == xs[i]) = true then (i : Int) else idxF (fun x => v == x) (xs.drop (i + 1)) (i + 1)) = idxF (fun x => v == x) xs 0 := hp
      cases he : (v == xs[i]) with
      | true =>
        rw [if_pos he] at hp
        simp (config := { maxSteps := 4000000 }) only [go_sem, Nat.reduceEqDiff, Nat.reduceAdd, Nat.reduceMul, Nat.reduceSub, Nat.reduceLT, Nat.reduceLeDiff, reduceIte, reduceCtorEq, Int.reduceToNat, Int.reduceLE, Int.reduceLT, Int.reduceEq, Int.reduceGT, Int.reduceGE, Int.reduceAdd, Int.reduceSub, Int.reduceNeg, Int.reduceMul, ↓bT, ↓bF, ↓backK_top, ↓backK_int, ↓backK_bool, ↓backK_sl, ↓backK_fn, ↓backK_agg, ↓backK_tup, ↓backK_pel, ↓backK_osl, ↓backK_may, ↓backK_box, ↓bothTT, ↓bothTF, ↓bothFT, ↓bothFF, bothTT, bothTF, bothFT, bothFF, ↓bothTT, ↓bothTF, ↓bothFT, ↓bothFF, ↓bothNT, ↓bothNF, ↓bothCT, ↓bothCF, Try.f172, rows_length, rows_get _ _ _ h, encI, nlt h, nn0, he, ← hp]
      | false =>
        rw [if_neg (by rw [he]; simp)] at hp
        simp (config := { maxSteps := 4000000 }) only [go_sem, Nat.reduceEqDiff, Nat.reduceAdd, Nat.reduceMul, Nat.reduceSub, Nat.reduceLT, Nat.reduceLeDiff, reduceIte, reduceCtorEq, Int.reduceToNat, Int.reduceLE, Int.reduceLT, Int.reduceEq, Int.reduceGT, Int.reduceGE, Int.reduceAdd, Int.reduceSub, Int.reduceNeg, Int.reduceMul, ↓bT, ↓bF, ↓backK_top, ↓backK_int, ↓backK_bool, ↓backK_sl, ↓backK_fn, ↓backK_agg, ↓backK_tup, ↓backK_pel, ↓backK_osl, ↓backK_may, ↓backK_box, ↓bothTT, ↓bothTF, ↓bothFT, ↓bothFF, bothTT, bothTF, bothFT, bothFF, ↓bothTT, ↓bothTF, ↓bothFT, ↓bothFF, ↓bothNT, ↓bothNF, ↓bothCT, ↓bothCF, Try.f172, rows_length, rows_get _ _ _ h, encI, nlt h, nn0, he]
        refine ⟨i + 1, [], ⟨by omega, hp⟩, by dsimp only; omega, Weak.of (by rfl) trivial ?_ (by rfl)⟩
        simp (config := { maxSteps := 4000000 }) only [go_sem, Nat.reduceEqDiff, Nat.reduceAdd, Nat.reduceMul, Nat.reduceSub, Nat.reduceLT, Nat.reduceLeDiff, reduceIte, reduceCtorEq, Int.reduceToNat, Int.reduceLE, Int.reduceLT, Int.reduceEq, Int.reduceGT, Int.reduceGE, Int.reduceAdd, Int.reduceSub, Int.reduceNeg, Int.reduceMul, ↓bT, ↓bF, ↓backK_top, ↓backK_int, ↓backK_bool, ↓backK_sl, ↓backK_fn, ↓backK_agg, ↓backK_tup, ↓backK_pel, ↓backK_osl, ↓backK_may, ↓backK_box, ↓bothTT, ↓bothTF, ↓bothFT, ↓bothFF, bothTT, bothTF, bothFT, bothFF, ↓bothTT, ↓bothTF, ↓bothFT, ↓bothFF, ↓bothNT, ↓bothNF, ↓bothCT, ↓bothCF, Try.f172, wsucc h hx, frW, wk2, wk1, wkL, wkB, hpW, List.mem_cons, Prod.mk.injEq, exists_eq_left, exists_eq_right, exists_eq]
    · have : i = xs.length := by omega
      subst this
      rw [List.drop_length] at hp
      simp (config := { maxSteps := 4000000 }) only [go_sem, Nat.reduceEqDiff, Nat.reduceAdd, Nat.reduceMul, Nat.reduceSub, Nat.reduceLT, Nat.reduceLeDiff, reduceIte, reduceCtorEq, Int.reduceToNat, Int.reduceLE, Int.reduceLT, Int.reduceEq, Int.reduceGT, Int.reduceGE, Int.reduceAdd, Int.reduceSub, Int.reduceNeg, Int.reduceMul, ↓bT, ↓bF, ↓backK_top, ↓backK_int, ↓backK_bool, ↓backK_sl, ↓backK_fn, ↓backK_agg, ↓backK_tup, ↓backK_pel, ↓backK_osl, ↓backK_may, ↓backK_box, ↓bothTT, ↓bothTF, ↓bothFT, ↓bothFF, bothTT, bothTF, bothFT, bothFF, ↓bothTT, ↓bothTF, ↓bothFT, ↓bothFF, ↓bothNT, ↓bothNF, ↓bothCT, ↓bothCF, Try.f172, nlf h, ← hp]
      rfl

theorem c_slices_Contains_int (n1 : Option Bool) (xs : List Int) (v : Int) (hx : xs.length < 2 ^ 62) : Det Try.prog 125 [.sl n1 (rows encI xs), .int .i64 v] (.bool (xs.any fun x => v == x)) := by
  refine fspec_det tab_ok Try.call125 Try.func125 rfl 9 Try.ntmps125 (of_decide_eq_true rfl) fun B => codeK_sound tab_ok _ _ _ ?_
  simp (config := { maxSteps := 4000000 }) only [go_sem, Nat.reduceEqDiff, Nat.reduceAdd, Nat.reduceMul, Nat.reduceSub, Nat.reduceLT, Nat.reduceLeDiff, reduceIte, reduceCtorEq, Int.reduceToNat, Int.reduceLE, Int.reduceLT, Int.reduceEq, Int.reduceGT, Int.reduceGE, Int.reduceAdd, Int.reduceSub, Int.reduceNeg, Int.reduceMul, ↓bT, ↓bF, ↓backK_top, ↓backK_int, ↓backK_bool, ↓backK_sl, ↓backK_fn, ↓backK_agg, ↓backK_tup, ↓backK_pel, ↓backK_osl, ↓backK_may, ↓backK_box, ↓bothTT, ↓bothTF, ↓bothFT, ↓bothFF, bothTT, bothTF, bothFT, bothFF, ↓bothTT, ↓bothTF, ↓bothFT, ↓bothFF, ↓bothNT, ↓bothNF, ↓bothCT, ↓bothCF, Try.f125]
  refine CallTo.det (c_slices_Index_int _ _ _ hx) fun _ => ?_
  simp (config := { maxSteps := 4000000 }) only [go_sem, Nat.reduceEqDiff, Nat.reduceAdd, Nat.reduceMul, Nat.reduceSub, Nat.reduceLT, Nat.reduceLeDiff, reduceIte, reduceCtorEq, Int.reduceToNat, Int.reduceLE, Int.reduceLT, Int.reduceEq, Int.reduceGT, Int.reduceGE, Int.reduceAdd, Int.reduceSub, Int.reduceNeg, Int.reduceMul, ↓bT, ↓bF, ↓backK_top, ↓backK_int, ↓backK_bool, ↓backK_sl, ↓backK_fn, ↓backK_agg, ↓backK_tup, ↓backK_pel, ↓backK_osl, ↓backK_may, ↓backK_box, ↓bothTT, ↓bothTF, ↓bothFT, ↓bothFF, bothTT, bothTF, bothFT, bothFF, ↓bothTT, ↓bothTF, ↓bothFT, ↓bothFF, ↓bothNT, ↓bothNF, ↓bothCT, ↓bothCF, Try.f125, idxF_any]

end Go.Proofs.Ytdaemhaecjldaaa

/- Contracts: equality of blocks. -/
set_option linter.unusedSimpArgs false
set_option linter.unusedVariables false
set_option maxRecDepth 20000
set_option maxHeartbeats 2000000
namespace Go.Proofs.Ytdaemhaecjldaaa
open Go Go.RowKit

def sameB (b c : Block) : Bool := (b.before == c.before) && ((b.height == c.height) && ((b.view == c.view) && ((b.root == c.root) && ((b.effects == c.effects) && decide (b.list = c.list)))))

theorem sameB_iff (b c : Block) : sameB b c = true ↔ b = c := by
  obtain ⟨b1, b2, b3, b4, b5, b6⟩ := b
  obtain ⟨c1, c2, c3, c4, c5, c6⟩ := c
  simp only [sameB, Bool.and_eq_true, beq_iff_eq, decide_eq_true_eq, Block.mk.injEq]
  constructor
  · rintro ⟨h1, h2, h3, h4, h5, h6⟩; exact ⟨h1, h2, h3, h6, h4, h5⟩
  · rintro ⟨h1, h2, h3, h4, h5, h6⟩; exact ⟨h1, h2, h3, h5, h6, h4⟩

theorem c_impl_same (n1 n2 : Option Bool) (b c : Block) (hx : b.list.length < 2 ^ 62) (hy : c.list.length < 2 ^ 62) : Det Try.prog 154 [.agg (encBk n1 b), .agg (encBk n2 c)] (.bool (sameB b c)) := by
  refine fspec_det tab_ok Try.call154 Try.func154 rfl 45 Try.ntmps154 (of_decide_eq_true rfl) fun B => codeK_sound tab_ok _ _ _ ?_
  unfold encBk
  cases h1 : (b.before == c.before) with
  | false => simp (config := { maxSteps := 4000000 }) only [go_sem, Nat.reduceEqDiff, Nat.reduceAdd, Nat.reduceMul, Nat.reduceSub, Nat.reduceLT, Nat.reduceLeDiff, reduceIte, reduceCtorEq, Int.reduceToNat, Int.reduceLE, Int.reduceLT, Int.reduceEq, Int.reduceGT, Int.reduceGE, Int.reduceAdd, Int.reduceSub, Int.reduceNeg, Int.reduceMul, ↓bT, ↓bF, ↓backK_top, ↓backK_int, ↓backK_bool, ↓backK_sl, ↓backK_fn, ↓backK_agg, ↓backK_tup, ↓backK_pel, ↓backK_osl, ↓backK_may, ↓backK_box, ↓bothTT, ↓bothTF, ↓bothFT, ↓bothFF, bothTT, bothTF, bothFT, bothFF, ↓bothTT, ↓bothTF, ↓bothFT, ↓bothFF, ↓bothNT, ↓bothNF, ↓bothCT, ↓bothCF, Try.f154, h1, sameB]
  | true =>
    cases h2 : (b.height == c.height) with
    | false => simp (config := { maxSteps := 4000000 }) only [go_sem, Nat.reduceEqDiff, Nat.reduceAdd, Nat.reduceMul, Nat.reduceSub, Nat.reduceLT, Nat.reduceLeDiff, reduceIte, reduceCtorEq, Int.reduceToNat, Int.reduceLE, Int.reduceLT, Int.reduceEq, Int.reduceGT, Int.reduceGE, Int.reduceAdd, Int.reduceSub, Int.reduceNeg, Int.reduceMul, ↓bT, ↓bF, ↓backK_top, ↓backK_int, ↓backK_bool, ↓backK_sl, ↓backK_fn, ↓backK_agg, ↓backK_tup, ↓backK_pel, ↓backK_osl, ↓backK_may, ↓backK_box, ↓bothTT, ↓bothTF, ↓bothFT, ↓bothFF, bothTT, bothTF, bothFT, bothFF, ↓bothTT, ↓bothTF, ↓bothFT, ↓bothFF, ↓bothNT, ↓bothNF, ↓bothCT, ↓bothCF, Try.f154, h1, h2, sameB]
    | true =>
      cases h3 : (b.view == c.view) with
      | false => simp (config := { maxSteps := 4000000 }) only [go_sem, Nat.reduceEqDiff, Nat.reduceAdd, Nat.reduceMul, Nat.reduceSub, Nat.reduceLT, Nat.reduceLeDiff, reduceIte, reduceCtorEq, Int.reduceToNat, Int.reduceLE, Int.reduceLT, Int.reduceEq, Int.reduceGT, Int.reduceGE, Int.reduceAdd, Int.reduceSub, Int.reduceNeg, Int.reduceMul, ↓bT, ↓bF, ↓backK_top, ↓backK_int, ↓backK_bool, ↓backK_sl, ↓backK_fn, ↓backK_agg, ↓backK_tup, ↓backK_pel, ↓backK_osl, ↓backK_may, ↓backK_box, ↓bothTT, ↓bothTF, ↓bothFT, ↓bothFF, bothTT, bothTF, bothFT, bothFF, ↓bothTT, ↓bothTF, ↓bothFT, ↓bothFF, ↓bothNT, ↓bothNF, ↓bothCT, ↓bothCF, Try.f154, h1, h2, h3, sameB]
      | true =>
        cases h4 : (b.root == c.root) with
        | false => simp (config := { maxSteps := 4000000 }) only [go_sem, Nat.reduceEqDiff, Nat.reduceAdd, Nat.reduceMul, Nat.reduceSub, Nat.reduceLT, Nat.reduceLeDiff, reduceIte, reduceCtorEq, Int.reduceToNat, Int.reduceLE, Int.reduceLT, Int.reduceEq, Int.reduceGT, Int.reduceGE, Int.reduceAdd, Int.reduceSub, Int.reduceNeg, Int.reduceMul, ↓bT, ↓bF, ↓backK_top, ↓backK_int, ↓backK_bool, ↓backK_sl, ↓backK_fn, ↓backK_agg, ↓backK_tup, ↓backK_pel, ↓backK_osl, ↓backK_may, ↓backK_box, ↓bothTT, ↓bothTF, ↓bothFT, ↓bothFF, bothTT, bothTF, bothFT, bothFF, ↓bothTT, ↓bothTF, ↓bothFT, ↓bothFF, ↓bothNT, ↓bothNF, ↓bothCT, ↓bothCF, Try.f154, h1, h2, h3, h4, sameB]
        | true =>
          cases h5 : (b.effects == c.effects) with
          | false => simp (config := { maxSteps := 4000000 }) only [go_sem, Nat.reduceEqDiff, Nat.reduceAdd, Nat.reduceMul, Nat.reduceSub, Nat.reduceLT, Nat.reduceLeDiff, reduceIte, reduceCtorEq, Int.reduceToNat, Int.reduceLE, Int.reduceLT, Int.reduceEq, Int.reduceGT, Int.reduceGE, Int.reduceAdd, Int.reduceSub, Int.reduceNeg, Int.reduceMul, ↓bT, ↓bF, ↓backK_top, ↓backK_int, ↓backK_bool, ↓backK_sl, ↓backK_fn, ↓backK_agg, ↓backK_tup, ↓backK_pel, ↓backK_osl, ↓backK_may, ↓backK_box, ↓bothTT, ↓bothTF, ↓bothFT, ↓bothFF, bothTT, bothTF, bothFT, bothFF, ↓bothTT, ↓bothTF, ↓bothFT, ↓bothFF, ↓bothNT, ↓bothNF, ↓bothCT, ↓bothCF, Try.f154, h1, h2, h3, h4, h5, sameB]
          | true =>
            simp (config := { maxSteps := 4000000 }) only [go_sem, Nat.reduceEqDiff, Nat.reduceAdd, Nat.reduceMul, Nat.reduceSub, Nat.reduceLT, Nat.reduceLeDiff, reduceIte, reduceCtorEq, Int.reduceToNat, Int.reduceLE, Int.reduceLT, Int.reduceEq, Int.reduceGT, Int.reduceGE, Int.reduceAdd, Int.reduceSub, Int.reduceNeg, Int.reduceMul, ↓bT, ↓bF, ↓backK_top, ↓backK_int, ↓backK_bool, ↓backK_sl, ↓backK_fn, ↓backK_agg, ↓backK_tup, ↓backK_pel, ↓backK_osl, ↓backK_may, ↓backK_box, ↓bothTT, ↓bothTF, ↓bothFT, ↓bothFF, bothTT, bothTF, bothFT, bothFF, ↓bothTT, ↓bothTF, ↓bothFT, ↓bothFF, ↓bothNT, ↓bothNF, ↓bothCT, ↓bothCF, Try.f154, h1, h2, h3, h4, h5]
            refine CallTo.det (c_slices_Equal_Action _ _ _ _ hx hy) fun _ => ?_
            simp (config := { maxSteps := 4000000 }) only [go_sem, Nat.reduceEqDiff, Nat.reduceAdd, Nat.reduceMul, Nat.reduceSub, Nat.reduceLT, Nat.reduceLeDiff, reduceIte, reduceCtorEq, Int.reduceToNat, Int.reduceLE, Int.reduceLT, Int.reduceEq, Int.reduceGT, Int.reduceGE, Int.reduceAdd, Int.reduceSub, Int.reduceNeg, Int.reduceMul, ↓bT, ↓bF, ↓backK_top, ↓backK_int, ↓backK_bool, ↓backK_sl, ↓backK_fn, ↓backK_agg, ↓backK_tup, ↓backK_pel, ↓backK_osl, ↓backK_may, ↓backK_box, ↓bothTT, ↓bothTF, ↓bothFT, ↓bothFF, bothTT, bothTF, bothFT, bothFF, ↓bothTT, ↓bothTF, ↓bothFT, ↓bothFF, ↓bothNT, ↓bothNF, ↓bothCT, ↓bothCF, Try.f154, h1, h2, h3, h4, h5, sameB]

theorem c_spec_same (n1 n2 : Option Bool) (b c : Block) (hx : b.list.length < 2 ^ 62) (hy : c.list.length < 2 ^ 62) : Det Try.prog 152 [.agg (encBk n1 b), .agg (encBk n2 c)] (.bool (sameB b c)) := by
  refine fspec_det tab_ok Try.call152 Try.func152 rfl 66 Try.ntmps152 (of_decide_eq_true rfl) fun B => codeK_sound tab_ok _ _ _ ?_
  unfold encBk
  cases h1 : (b.before == c.before) with
  | false => simp (config := { maxSteps := 4000000 }) only [go_sem, Nat.reduceEqDiff, Nat.reduceAdd, Nat.reduceMul, Nat.reduceSub, Nat.reduceLT, Nat.reduceLeDiff, reduceIte, reduceCtorEq, Int.reduceToNat, Int.reduceLE, Int.reduceLT, Int.reduceEq, Int.reduceGT, Int.reduceGE, Int.reduceAdd, Int.reduceSub, Int.reduceNeg, Int.reduceMul, ↓bT, ↓bF, ↓backK_top, ↓backK_int, ↓backK_bool, ↓backK_sl, ↓backK_fn, ↓backK_agg, ↓backK_tup, ↓backK_pel, ↓backK_osl, ↓backK_may, ↓backK_box, ↓bothTT, ↓bothTF, ↓bothFT, ↓bothFF, bothTT, bothTF, bothFT, bothFF, ↓bothTT, ↓bothTF, ↓bothFT, ↓bothFF, ↓bothNT, ↓bothNF, ↓bothCT, ↓bothCF, Try.f152, bne, h1, sameB]
  | true =>
    cases h2 : (b.height == c.height) with
    | false => simp (config := { maxSteps := 4000000 }) only [go_sem, Nat.reduceEqDiff, Nat.reduceAdd, Nat.reduceMul, Nat.reduceSub, Nat.reduceLT, Nat.reduceLeDiff, reduceIte, reduceCtorEq, Int.reduceToNat, Int.reduceLE, Int.reduceLT, Int.reduceEq, Int.reduceGT, Int.reduceGE, Int.reduceAdd, Int.reduceSub, Int.reduceNeg, Int.reduceMul, ↓bT, ↓bF, ↓backK_top, ↓backK_int, ↓backK_bool, ↓backK_sl, ↓backK_fn, ↓backK_agg, ↓backK_tup, ↓backK_pel, ↓backK_osl, ↓backK_may, ↓backK_box, ↓bothTT, ↓bothTF, ↓bothFT, ↓bothFF, bothTT, bothTF, bothFT, bothFF, ↓bothTT, ↓bothTF, ↓bothFT, ↓bothFF, ↓bothNT, ↓bothNF, ↓bothCT, ↓bothCF, Try.f152, bne, h1, h2, sameB]
    | true =>
      cases h3 : (b.view == c.view) with
      | false => simp (config := { maxSteps := 4000000 }) only [go_sem, Nat.reduceEqDiff, Nat.reduceAdd, Nat.reduceMul, Nat.reduceSub, Nat.reduceLT, Nat.reduceLeDiff, reduceIte, reduceCtorEq, Int.reduceToNat, Int.reduceLE, Int.reduceLT, Int.reduceEq, Int.reduceGT, Int.reduceGE, Int.reduceAdd, Int.reduceSub, Int.reduceNeg, Int.reduceMul, ↓bT, ↓bF, ↓backK_top, ↓backK_int, ↓backK_bool, ↓backK_sl, ↓backK_fn, ↓backK_agg, ↓backK_tup, ↓backK_pel, ↓backK_osl, ↓backK_may, ↓backK_box, ↓bothTT, ↓bothTF, ↓bothFT, ↓bothFF, bothTT, bothTF, bothFT, bothFF, ↓bothTT, ↓bothTF, ↓bothFT, ↓bothFF, ↓bothNT, ↓bothNF, ↓bothCT, ↓bothCF, Try.f152, bne, h1, h2, h3, sameB]
      | true =>
        cases h4 : (b.root == c.root) with
        | false => simp (config := { maxSteps := 4000000 }) only [go_sem, Nat.reduceEqDiff, Nat.reduceAdd, Nat.reduceMul, Nat.reduceSub, Nat.reduceLT, Nat.reduceLeDiff, reduceIte, reduceCtorEq, Int.reduceToNat, Int.reduceLE, Int.reduceLT, Int.reduceEq, Int.reduceGT, Int.reduceGE, Int.reduceAdd, Int.reduceSub, Int.reduceNeg, Int.reduceMul, ↓bT, ↓bF, ↓backK_top, ↓backK_int, ↓backK_bool, ↓backK_sl, ↓backK_fn, ↓backK_agg, ↓backK_tup, ↓backK_pel, ↓backK_osl, ↓backK_may, ↓backK_box, ↓bothTT, ↓bothTF, ↓bothFT, ↓bothFF, bothTT, bothTF, bothFT, bothFF, ↓bothTT, ↓bothTF, ↓bothFT, ↓bothFF, ↓bothNT, ↓bothNF, ↓bothCT, ↓bothCF, Try.f152, bne, h1, h2, h3, h4, sameB]
        | true =>
          cases h5 : (b.effects == c.effects) with
          | false => simp (config := { maxSteps := 4000000 }) only [go_sem, Nat.reduceEqDiff, Nat.reduceAdd, Nat.reduceMul, Nat.reduceSub, Nat.reduceLT, Nat.reduceLeDiff, reduceIte, reduceCtorEq, Int.reduceToNat, Int.reduceLE, Int.reduceLT, Int.reduceEq, Int.reduceGT, Int.reduceGE, Int.reduceAdd, Int.reduceSub, Int.reduceNeg, Int.reduceMul, ↓bT, ↓bF, ↓backK_top, ↓backK_int, ↓backK_bool, ↓backK_sl, ↓backK_fn, ↓backK_agg, ↓backK_tup, ↓backK_pel, ↓backK_osl, ↓backK_may, ↓backK_box, ↓bothTT, ↓bothTF, ↓bothFT, ↓bothFF, bothTT, bothTF, bothFT, bothFF, ↓bothTT, ↓bothTF, ↓bothFT, ↓bothFF, ↓bothNT, ↓bothNF, ↓bothCT, ↓bothCF, Try.f152, bne, h1, h2, h3, h4, h5, sameB]
          | true =>
            by_cases hl : b.list.length = c.list.length
            · have hd : ((b.list.length : Int) == (c.list.length : Int)) = true := by simp [hl]
              have hsb : sameB b c = decide (b.list = c.list) := by simp [sameB, h1, h2, h3, h4, h5]
              simp (config := { maxSteps := 4000000 }) only [go_sem, Nat.reduceEqDiff, Nat.reduceAdd, Nat.reduceMul, Nat.reduceSub, Nat.reduceLT, Nat.reduceLeDiff, reduceIte, reduceCtorEq, Int.reduceToNat, Int.reduceLE, Int.reduceLT, Int.reduceEq, Int.reduceGT, Int.reduceGE, Int.reduceAdd, Int.reduceSub, Int.reduceNeg, Int.reduceMul, ↓bT, ↓bF, ↓backK_top, ↓backK_int, ↓backK_bool, ↓backK_sl, ↓backK_fn, ↓backK_agg, ↓backK_tup, ↓backK_pel, ↓backK_osl, ↓backK_may, ↓backK_box, ↓bothTT, ↓bothTF, ↓bothFT, ↓bothFF, bothTT, bothTF, bothFT, bothFF, ↓bothTT, ↓bothTF, ↓bothFT, ↓bothFF, ↓bothNT, ↓bothNF, ↓bothCT, ↓bothCF, Try.f152, bne, rows_length, h1, h2, h3, h4, h5, hd]
              refine semL_for tab_ok (fun i : Nat => ⟨66, [(2, .loc 2 0), (3, .loc 3 0), (5, .int .i64 i)], [(2, .var (encBk n1 b)), (3, .var (encBk n2 c))]⟩) (fun i => b.list.length - i)
                (fun i => i ≤ b.list.length ∧ decide (b.list.drop i = c.list.drop i) = sameB b c) 0 [(2, 2), (3, 3)] (Weak.of (by rfl) ?_ ?_ (by rfl)) ⟨by omega, hsb.symm⟩ ?_
              · simp (config := { maxSteps := 4000000 }) only [go_sem, Nat.reduceEqDiff, Nat.reduceAdd, Nat.reduceMul, Nat.reduceSub, Nat.reduceLT, Nat.reduceLeDiff, reduceIte, reduceCtorEq, Int.reduceToNat, Int.reduceLE, Int.reduceLT, Int.reduceEq, Int.reduceGT, Int.reduceGE, Int.reduceAdd, Int.reduceSub, Int.reduceNeg, Int.reduceMul, ↓bT, ↓bF, ↓backK_top, ↓backK_int, ↓backK_bool, ↓backK_sl, ↓backK_fn, ↓backK_agg, ↓backK_tup, ↓backK_pel, ↓backK_osl, ↓backK_may, ↓backK_box, ↓bothTT, ↓bothTF, ↓bothFT, ↓bothFF, bothTT, bothTF, bothFT, bothFF, ↓bothTT, ↓bothTF, ↓bothFT, ↓bothFF, ↓bothNT, ↓bothNF, ↓bothCT, ↓bothCF, Try.f152, encBk, frW, wk2, wk1, wkL, wkB, hpW, List.mem_cons, Prod.mk.injEq, exists_eq_left, exists_eq_right, exists_eq]
              · simp (config := { maxSteps := 4000000 }) only [go_sem, Nat.reduceEqDiff, Nat.reduceAdd, Nat.reduceMul, Nat.reduceSub, Nat.reduceLT, Nat.reduceLeDiff, reduceIte, reduceCtorEq, Int.reduceToNat, Int.reduceLE, Int.reduceLT, Int.reduceEq, Int.reduceGT, Int.reduceGE, Int.reduceAdd, Int.reduceSub, Int.reduceNeg, Int.reduceMul, ↓bT, ↓bF, ↓backK_top, ↓backK_int, ↓backK_bool, ↓backK_sl, ↓backK_fn, ↓backK_agg, ↓backK_tup, ↓backK_pel, ↓backK_osl, ↓backK_may, ↓backK_box, ↓bothTT, ↓bothTF, ↓bothFT, ↓bothFF, bothTT, bothTF, bothFT, bothFF, ↓bothTT, ↓bothTF, ↓bothFT, ↓bothFF, ↓bothNT, ↓bothNF, ↓bothCT, ↓bothCF, Try.f152, encBk, frW, wk2, wk1, wkL, wkB, hpW, List.mem_cons, Prod.mk.injEq, exists_eq_left, exists_eq_right, exists_eq]
              · rintro i ⟨hi, hp⟩
                by_cases h : i < b.list.length
                · have h' : i < c.list.length := by omega
                  rw [eq_drop _ _ i hl h] at hp
                  simp (config := { maxSteps := 4000000 }) only [go_sem, Nat.reduceEqDiff, Nat.reduceAdd, Nat.reduceMul, Nat.reduceSub, Nat.reduceLT, Nat.reduceLeDiff, reduceIte, reduceCtorEq, Int.reduceToNat, Int.reduceLE, Int.reduceLT, Int.reduceEq, Int.reduceGT, Int.reduceGE, Int.reduceAdd, Int.reduceSub, Int.reduceNeg, Int.reduceMul, ↓bT, ↓bF, ↓backK_top, ↓backK_int, ↓backK_bool, ↓backK_sl, ↓backK_fn, ↓backK_agg, ↓backK_tup, ↓backK_pel, ↓backK_osl, ↓backK_may, ↓backK_box, ↓bothTT, ↓bothTF, ↓bothFT, ↓bothFF, bothTT, bothTF, bothFT, bothFF, ↓bothTT, ↓bothTF, ↓bothFT, ↓bothFF, ↓bothNT, ↓bothNF, ↓bothCT, ↓bothCF, Try.f152, encBk, rows_length, nlt h]
                  refine semL_still tab_ok mixed_ (by decide +kernel) ?_
                  cases he : decide (b.list[i] = c.list[i]) with
                  | false =>
                    rw [he, Bool.false_and] at hp
                    simp (config := { maxSteps := 4000000 }) only [go_sem, Nat.reduceEqDiff, Nat.reduceAdd, Nat.reduceMul, Nat.reduceSub, Nat.reduceLT, Nat.reduceLeDiff, reduceIte, reduceCtorEq, Int.reduceToNat, Int.reduceLE, Int.reduceLT, Int.reduceEq, Int.reduceGT, Int.reduceGE, Int.reduceAdd, Int.reduceSub, Int.reduceNeg, Int.reduceMul, ↓bT, ↓bF, ↓backK_top, ↓backK_int, ↓backK_bool, ↓backK_sl, ↓backK_fn, ↓backK_agg, ↓backK_tup, ↓backK_pel, ↓backK_osl, ↓backK_may, ↓backK_box, ↓bothTT, ↓bothTF, ↓bothFT, ↓bothFF, bothTT, bothTF, bothFT, bothFF, ↓bothTT, ↓bothTF, ↓bothFT, ↓bothFF, ↓bothNT, ↓bothNF, ↓bothCT, ↓bothCF, Try.f152, encBk, rows_length, rows_get _ _ _ h, rows_get _ _ _ h', encA, nn0, nlt h, nlt h', eqA, he, ← hp]
                  | true =>
                    rw [he, Bool.true_and] at hp
                    simp (config := { maxSteps := 4000000 }) only [go_sem, Nat.reduceEqDiff, Nat.reduceAdd, Nat.reduceMul, Nat.reduceSub, Nat.reduceLT, Nat.reduceLeDiff, reduceIte, reduceCtorEq, Int.reduceToNat, Int.reduceLE, Int.reduceLT, Int.reduceEq, Int.reduceGT, Int.reduceGE, Int.reduceAdd, Int.reduceSub, Int.reduceNeg, Int.reduceMul, ↓bT, ↓bF, ↓backK_top, ↓backK_int, ↓backK_bool, ↓backK_sl, ↓backK_fn, ↓backK_agg, ↓backK_tup, ↓backK_pel, ↓backK_osl, ↓backK_may, ↓backK_box, ↓bothTT, ↓bothTF, ↓bothFT, ↓bothFF, bothTT, bothTF, bothFT, bothFF, ↓bothTT, ↓bothTF, ↓bothFT, ↓bothFF, ↓bothNT, ↓bothNF, ↓bothCT, ↓bothCF, Try.f152, encBk, rows_length, rows_get _ _ _ h, rows_get _ _ _ h', encA, nn0, nlt h, nlt h', eqA, he]
                    refine ⟨i + 1, [(2, 2), (3, 3)], ⟨by omega, hp⟩, by dsimp only; omega, Weak.of (by rfl) ?_ ?_ (by rfl)⟩
                    · simp (config := { maxSteps := 4000000 }) only [go_sem, Nat.reduceEqDiff, Nat.reduceAdd, Nat.reduceMul, Nat.reduceSub, Nat.reduceLT, Nat.reduceLeDiff, reduceIte, reduceCtorEq, Int.reduceToNat, Int.reduceLE, Int.reduceLT, Int.reduceEq, Int.reduceGT, Int.reduceGE, Int.reduceAdd, Int.reduceSub, Int.reduceNeg, Int.reduceMul, ↓bT, ↓bF, ↓backK_top, ↓backK_int, ↓backK_bool, ↓backK_sl, ↓backK_fn, ↓backK_agg, ↓backK_tup, ↓backK_pel, ↓backK_osl, ↓backK_may, ↓backK_box, ↓bothTT, ↓bothTF, ↓bothFT, ↓bothFF, bothTT, bothTF, bothFT, bothFF, ↓bothTT, ↓bothTF, ↓bothFT, ↓bothFF, ↓bothNT, ↓bothNF, ↓bothCT, ↓bothCF, Try.f152, encBk, frW, wk2, wk1, wkL, wkB, hpW, List.mem_cons, Prod.mk.injEq, exists_eq_left, exists_eq_right, exists_eq]
                    · simp (config := { maxSteps := 4000000 }) only [go_sem, Nat.reduceEqDiff, Nat.reduceAdd, Nat.reduceMul, Nat.reduceSub, Nat.reduceLT, Nat.reduceLeDiff, reduceIte, reduceCtorEq, Int.reduceToNat, Int.reduceLE, Int.reduceLT, Int.reduceEq, Int.reduceGT, Int.reduceGE, Int.reduceAdd, Int.reduceSub, Int.reduceNeg, Int.reduceMul, ↓bT, ↓bF, ↓backK_top, ↓backK_int, ↓backK_bool, ↓backK_sl, ↓backK_fn, ↓backK_agg, ↓backK_tup, ↓backK_pel, ↓backK_osl, ↓backK_may, ↓backK_box, ↓bothTT, ↓bothTF, ↓bothFT, ↓bothFF, bothTT, bothTF, bothFT, bothFF, ↓bothTT, ↓bothTF, ↓bothFT, ↓bothFF, ↓bothNT, ↓bothNF, ↓bothCT, ↓bothCF, Try.f152, wsucc h hx, frW, wk2, wk1, wkL, wkB, hpW, List.mem_cons, Prod.mk.injEq, exists_eq_left, exists_eq_right, exists_eq]
                · have : i = b.list.length := by omega
                  subst this
                  rw [List.drop_length, List.drop_of_length_le (by omega)] at hp
                  simp (config := { maxSteps := 4000000 }) only [go_sem, Nat.reduceEqDiff, Nat.reduceAdd, Nat.reduceMul, Nat.reduceSub, Nat.reduceLT, Nat.reduceLeDiff, reduceIte, reduceCtorEq, Int.reduceToNat, Int.reduceLE, Int.reduceLT, Int.reduceEq, Int.reduceGT, Int.reduceGE, Int.reduceAdd, Int.reduceSub, Int.reduceNeg, Int.reduceMul, ↓bT, ↓bF, ↓backK_top, ↓backK_int, ↓backK_bool, ↓backK_sl, ↓backK_fn, ↓backK_agg, ↓backK_tup, ↓backK_pel, ↓backK_osl, ↓backK_may, ↓backK_box, ↓bothTT, ↓bothTF, ↓bothFT, ↓bothFF, bothTT, bothTF, bothFT, bothFF, ↓bothTT, ↓bothTF, ↓bothFT, ↓bothFF, ↓bothNT, ↓bothNF, ↓bothCT, ↓bothCF, Try.f152, encBk, rows_length, nlf h, ← hp]
            · have hd : ((b.list.length : Int) == (c.list.length : Int)) = false := by simp; omega
              have hne : decide (b.list = c.list) = false := decide_eq_false fun e => hl (by rw [e])
              simp (config := { maxSteps := 4000000 }) only [go_sem, Nat.reduceEqDiff, Nat.reduceAdd, Nat.reduceMul, Nat.reduceSub, Nat.reduceLT, Nat.reduceLeDiff, reduceIte, reduceCtorEq, Int.reduceToNat, Int.reduceLE, Int.reduceLT, Int.reduceEq, Int.reduceGT, Int.reduceGE, Int.reduceAdd, Int.reduceSub, Int.reduceNeg, Int.reduceMul, ↓bT, ↓bF, ↓backK_top, ↓backK_int, ↓backK_bool, ↓backK_sl, ↓backK_fn, ↓backK_agg, ↓backK_tup, ↓backK_pel, ↓backK_osl, ↓backK_may, ↓backK_box, ↓bothTT, ↓bothTF, ↓bothFT, ↓bothFF, bothTT, bothTF, bothFT, bothFF, ↓bothTT, ↓bothTF, ↓bothFT, ↓bothFF, ↓bothNT, ↓bothNF, ↓bothCT, ↓bothCF, Try.f152, bne, rows_length, h1, h2, h3, h4, h5, hd, sameB, hne]

end Go.Proofs.Ytdaemhaecjldaaa

/- Contracts: blocks by their sums. -/
set_option linter.unusedSimpArgs false
set_option linter.unusedVariables false
set_option maxRecDepth 20000
set_option maxHeartbeats 2000000
namespace Go.Proofs.Ytdaemhaecjldaaa
open Go Go.RowKit

structure Tree where
  base : List Entry
  blocks : List Block
  before : List Int
deriving DecidableEq, Inhabited

def encB1 (b : Block) : List AV := encBk none b
def encT (n1 n2 n3 : Option Bool) (t : Tree) : List AV := [.sl n1 (rows encE t.base), .sl n2 (rows encB1 t.blocks), .sl n3 (rows encI t.before)]

/-- Sizes that fit. -/
structure TreeSz (t : Tree) : Prop where
  base : t.base.length < 2 ^ 62
  blocks : t.blocks.length < 2 ^ 62
  before : t.before.length < 2 ^ 62
  list : ∀ b, b ∈ t.blocks → b.list.length < 2 ^ 62

theorem c_impl_find1 (n : Option Bool) (b : Block) (sum : Int) (hx : b.list.length < 2 ^ 62) : Det Try.prog 191 [.agg (encBk n b), .pel [.int .i64 sum]] (.bool (blockSum b == sum)) := by
  refine fspec_det tab_ok Try.call191 Try.func191 rfl 8 Try.ntmps191 (of_decide_eq_true rfl) fun B => codeK_sound tab_ok _ _ _ ?_
  unfold encBk
  simp (config := { maxSteps := 4000000 }) only [go_sem, Nat.reduceEqDiff, Nat.reduceAdd, Nat.reduceMul, Nat.reduceSub, Nat.reduceLT, Nat.reduceLeDiff, reduceIte, reduceCtorEq, Int.reduceToNat, Int.reduceLE, Int.reduceLT, Int.reduceEq, Int.reduceGT, Int.reduceGE, Int.reduceAdd, Int.reduceSub, Int.reduceNeg, Int.reduceMul, ↓bT, ↓bF, ↓backK_top, ↓backK_int, ↓backK_bool, ↓backK_sl, ↓backK_fn, ↓backK_agg, ↓backK_tup, ↓backK_pel, ↓backK_osl, ↓backK_may, ↓backK_box, ↓bothTT, ↓bothTF, ↓bothFT, ↓bothFF, bothTT, bothTF, bothFT, bothFF, ↓bothTT, ↓bothTF, ↓bothFT, ↓bothFF, ↓bothNT, ↓bothNF, ↓bothCT, ↓bothCF, Try.f191]
  refine semL_draw tab_ok mixed_ rfl (ord := [(0, []), (2, []), (1, [2]), (3, []), (4, [])]) (by dsimp only; decide +kernel) ?_
  simp (config := { maxSteps := 4000000 }) only [go_sem, Nat.reduceEqDiff, Nat.reduceAdd, Nat.reduceMul, Nat.reduceSub, Nat.reduceLT, Nat.reduceLeDiff, reduceIte, reduceCtorEq, Int.reduceToNat, Int.reduceLE, Int.reduceLT, Int.reduceEq, Int.reduceGT, Int.reduceGE, Int.reduceAdd, Int.reduceSub, Int.reduceNeg, Int.reduceMul, ↓bT, ↓bF, ↓backK_top, ↓backK_int, ↓backK_bool, ↓backK_sl, ↓backK_fn, ↓backK_agg, ↓backK_tup, ↓backK_pel, ↓backK_osl, ↓backK_may, ↓backK_box, ↓bothTT, ↓bothTF, ↓bothFT, ↓bothFF, bothTT, bothTF, bothFT, bothFF, ↓bothTT, ↓bothTF, ↓bothFT, ↓bothFF, ↓bothNT, ↓bothNF, ↓bothCT, ↓bothCF, Try.f191]
  refine CallTo.det (c_impl_BlockSum n b hx) fun _ => ?_
  simp (config := { maxSteps := 4000000 }) only [go_sem, Nat.reduceEqDiff, Nat.reduceAdd, Nat.reduceMul, Nat.reduceSub, Nat.reduceLT, Nat.reduceLeDiff, reduceIte, reduceCtorEq, Int.reduceToNat, Int.reduceLE, Int.reduceLT, Int.reduceEq, Int.reduceGT, Int.reduceGE, Int.reduceAdd, Int.reduceSub, Int.reduceNeg, Int.reduceMul, ↓bT, ↓bF, ↓backK_top, ↓backK_int, ↓backK_bool, ↓backK_sl, ↓backK_fn, ↓backK_agg, ↓backK_tup, ↓backK_pel, ↓backK_osl, ↓backK_may, ↓backK_box, ↓bothTT, ↓bothTF, ↓bothFT, ↓bothFF, bothTT, bothTF, bothFT, bothFF, ↓bothTT, ↓bothTF, ↓bothFT, ↓bothFF, ↓bothNT, ↓bothNF, ↓bothCT, ↓bothCF, Try.f191]

theorem c_slices_IndexFunc_Block (n1 : Option Bool) (xs : List Block) (k : FuncId) (c : Int) (p : Block → Bool) (hx : xs.length < 2 ^ 62) (hp : ∀ x, x ∈ xs → Det Try.prog k [.agg (encB1 x), .pel [.int .i64 c]] (.bool (p x))) :
    Det Try.prog 190 [.sl n1 (rows encB1 xs), .fn k [.pel [.int .i64 c]]] (.int .i64 (idxF p xs 0)) := by
  refine fspec_det tab_ok Try.call190 Try.func190 rfl 19 Try.ntmps190 (of_decide_eq_true rfl) fun B => codeK_sound tab_ok _ _ _ ?_
  simp (config := { maxSteps := 4000000 }) only [go_sem, Nat.reduceEqDiff, Nat.reduceAdd, Nat.reduceMul, Nat.reduceSub, Nat.reduceLT, Nat.reduceLeDiff, reduceIte, reduceCtorEq, Int.reduceToNat, Int.reduceLE, Int.reduceLT, Int.reduceEq, Int.reduceGT, Int.reduceGE, Int.reduceAdd, Int.reduceSub, Int.reduceNeg, Int.reduceMul, ↓bT, ↓bF, ↓backK_top, ↓backK_int, ↓backK_bool, ↓backK_sl, ↓backK_fn, ↓backK_agg, ↓backK_tup, ↓backK_pel, ↓backK_osl, ↓backK_may, ↓backK_box, ↓bothTT, ↓bothTF, ↓bothFT, ↓bothFF, bothTT, bothTF, bothFT, bothFF, ↓bothTT, ↓bothTF, ↓bothFT, ↓bothFF, ↓bothNT, ↓bothNF, ↓bothCT, ↓bothCF, Try.f190, rows_length]
  refine semL_for tab_ok (fun i : Nat => ⟨19, [(0, .sl n1 (rows encB1 xs)), (1, .fn k [.pel [.int .i64 c]]), (7, .int .i64 xs.length), (8, .int .i64 i)], []⟩) (fun i => xs.length - i)
    (fun i => i ≤ xs.length ∧ idxF p (xs.drop i) i = idxF p xs 0) 0 [] (Weak.of (by rfl) trivial ?_ (by rfl)) ⟨by omega, rfl⟩ ?_
  · simp (config := { maxSteps := 4000000 }) only [go_sem, Nat.reduceEqDiff, Nat.reduceAdd, Nat.reduceMul, Nat.reduceSub, Nat.reduceLT, Nat.reduceLeDiff, reduceIte, reduceCtorEq, Int.reduceToNat, Int.reduceLE, Int.reduceLT, Int.reduceEq, Int.reduceGT, Int.reduceGE, Int.reduceAdd, Int.reduceSub, Int.reduceNeg, Int.reduceMul, ↓bT, ↓bF, ↓backK_top, ↓backK_int, ↓backK_bool, ↓backK_sl, ↓backK_fn, ↓backK_agg, ↓backK_tup, ↓backK_pel, ↓backK_osl, ↓backK_may, ↓backK_box, ↓bothTT, ↓bothTF, ↓bothFT, ↓bothFF, bothTT, bothTF, bothFT, bothFF, ↓bothTT, ↓bothTF, ↓bothFT, ↓bothFF, ↓bothNT, ↓bothNF, ↓bothCT, ↓bothCF, Try.f190, frW, wk2, wk1, wkL, wkB, hpW, List.mem_cons, Prod.mk.injEq, exists_eq_left, exists_eq_right, exists_eq]
  · rintro i ⟨hi, hp'⟩
    by_cases h : i < xs.length
    · simp (config := { maxSteps := 4000000 }) only [go_sem, Nat.reduceEqDiff, Nat.reduceAdd, Nat.reduceMul, Nat.reduceSub, Nat.reduceLT, Nat.reduceLeDiff, reduceIte, reduceCtorEq, Int.reduceToNat, Int.reduceLE, Int.reduceLT, Int.reduceEq, Int.reduceGT, Int.reduceGE, Int.reduceAdd, Int.reduceSub, Int.reduceNeg, Int.reduceMul, ↓bT, ↓bF, ↓backK_top, ↓backK_int, ↓backK_bool, ↓backK_sl, ↓backK_fn, ↓backK_agg, ↓backK_tup, ↓backK_pel, ↓backK_osl, ↓backK_may, ↓backK_box, ↓bothTT, ↓bothTF, ↓bothFT, ↓bothFF, bothTT, bothTF, bothFT, bothFF, ↓bothTT, ↓bothTF, ↓bothFT, ↓bothFF, ↓bothNT, ↓bothNF, ↓bothCT, ↓bothCF, Try.f190, rows_length, rows_get _ _ _ h, encB1, encBk, nlt h, nn0]
      refine CallTo.det (hp _ (List.getElem_mem h)) fun _ => ?_
      rw [drop_cons xs i h] at hp'
      simp (config := { maxSteps := 4000000 }) only [go_sem, Nat.reduceEqDiff, Nat.reduceAdd, Nat.reduceMul, Nat.reduceSub, Nat.reduceLT, Nat.reduceLeDiff, reduceIte, reduceCtorEq, Int.reduceToNat, Int.reduceLE, Int.reduceLT, Int.reduceEq, Int.reduceGT, Int.reduceGE, Int.reduceAdd, Int.reduceSub, Int.reduceNeg, Int.reduceMul, ↓bT, ↓bF, ↓backK_top, ↓backK_int, ↓backK_bool, ↓backK_sl, ↓backK_fn, ↓backK_agg, ↓backK_tup, ↓backK_pel, ↓backK_osl, ↓backK_may, ↓backK_box, ↓bothTT, ↓bothTF, ↓bothFT, ↓bothFF, bothTT, bothTF, bothFT, bothFF, ↓bothTT, ↓bothTF, ↓bothFT, ↓bothFF, ↓bothNT, ↓bothNF, ↓bothCT, ↓bothCF, Try.f190, rows_length, rows_get _ _ _ h, encB1, encBk, nlt h]
      refine ⟨fun h => ?_, fun h' => ?_⟩
      · rw [← hp']; simp [idxF, h]
      · refine ⟨i + 1, [], ⟨by omega, ?_⟩, by dsimp only; omega, Weak.of (by rfl) trivial ?_ (by rfl)⟩
        · rw [← hp']; simp [idxF, h']
        · simp (config := { maxSteps := 4000000 }) only [go_sem, Nat.reduceEqDiff, Nat.reduceAdd, Nat.reduceMul, Nat.reduceSub, Nat.reduceLT, Nat.reduceLeDiff, reduceIte, reduceCtorEq, Int.reduceToNat, Int.reduceLE, Int.reduceLT, Int.reduceEq, Int.reduceGT, Int.reduceGE, Int.reduceAdd, Int.reduceSub, Int.reduceNeg, Int.reduceMul, ↓bT, ↓bF, ↓backK_top, ↓backK_int, ↓backK_bool, ↓backK_sl, ↓backK_fn, ↓backK_agg, ↓backK_tup, ↓backK_pel, ↓backK_osl, ↓backK_may, ↓backK_box, ↓bothTT, ↓bothTF, ↓bothFT, ↓bothFF, bothTT, bothTF, bothFT, bothFF, ↓bothTT, ↓bothTF, ↓bothFT, ↓bothFF, ↓bothNT, ↓bothNF, ↓bothCT, ↓bothCF, Try.f190, wsucc h hx, frW, wk2, wk1, wkL, wkB, hpW, List.mem_cons, Prod.mk.injEq, exists_eq_left, exists_eq_right, exists_eq]
    · have : i = xs.length := by omega
      subst this
      rw [List.drop_length] at hp'
      simp (config := { maxSteps := 4000000 }) only [go_sem, Nat.reduceEqDiff, Nat.reduceAdd, Nat.reduceMul, Nat.reduceSub, Nat.reduceLT, Nat.reduceLeDiff, reduceIte, reduceCtorEq, Int.reduceToNat, Int.reduceLE, Int.reduceLT, Int.reduceEq, Int.reduceGT, Int.reduceGE, Int.reduceAdd, Int.reduceSub, Int.reduceNeg, Int.reduceMul, ↓bT, ↓bF, ↓backK_top, ↓backK_int, ↓backK_bool, ↓backK_sl, ↓backK_fn, ↓backK_agg, ↓backK_tup, ↓backK_pel, ↓backK_osl, ↓backK_may, ↓backK_box, ↓bothTT, ↓bothTF, ↓bothFT, ↓bothFF, bothTT, bothTF, bothFT, bothFF, ↓bothTT, ↓bothTF, ↓bothFT, ↓bothFF, ↓bothNT, ↓bothNF, ↓bothCT, ↓bothCF, Try.f190, nlf h]
      rw [← hp']
      rfl

/-- The number of the block with a sum. -/
def findB (bs : List Block) (sum : Int) : Int := idxF (fun b => blockSum b == sum) bs 0

theorem c_impl_find (n1 n2 n3 : Option Bool) (t : Tree) (sum : Int) (hx : TreeSz t) : Det Try.prog 164 [.agg (encT n1 n2 n3 t), .int .i64 sum] (.int .i64 (findB t.blocks sum)) := by
  refine fspec_det tab_ok Try.call164 Try.func164 rfl 9 Try.ntmps164 (of_decide_eq_true rfl) fun B => codeK_sound tab_ok _ _ _ ?_
  unfold encT
  simp (config := { maxSteps := 4000000 }) only [go_sem, Nat.reduceEqDiff, Nat.reduceAdd, Nat.reduceMul, Nat.reduceSub, Nat.reduceLT, Nat.reduceLeDiff, reduceIte, reduceCtorEq, Int.reduceToNat, Int.reduceLE, Int.reduceLT, Int.reduceEq, Int.reduceGT, Int.reduceGE, Int.reduceAdd, Int.reduceSub, Int.reduceNeg, Int.reduceMul, ↓bT, ↓bF, ↓backK_top, ↓backK_int, ↓backK_bool, ↓backK_sl, ↓backK_fn, ↓backK_agg, ↓backK_tup, ↓backK_pel, ↓backK_osl, ↓backK_may, ↓backK_box, ↓bothTT, ↓bothTF, ↓bothFT, ↓bothFF, bothTT, bothTF, bothFT, bothFF, ↓bothTT, ↓bothTF, ↓bothFT, ↓bothFF, ↓bothNT, ↓bothNF, ↓bothCT, ↓bothCF, Try.f164]
  refine CallTo.det (c_slices_IndexFunc_Block n2 t.blocks _ sum (fun b => blockSum b == sum) hx.blocks fun b hb => c_impl_find1 none b sum (hx.list b hb)) fun _ => ?_
  simp (config := { maxSteps := 4000000 }) only [go_sem, Nat.reduceEqDiff, Nat.reduceAdd, Nat.reduceMul, Nat.reduceSub, Nat.reduceLT, Nat.reduceLeDiff, reduceIte, reduceCtorEq, Int.reduceToNat, Int.reduceLE, Int.reduceLT, Int.reduceEq, Int.reduceGT, Int.reduceGE, Int.reduceAdd, Int.reduceSub, Int.reduceNeg, Int.reduceMul, ↓bT, ↓bF, ↓backK_top, ↓backK_int, ↓backK_bool, ↓backK_sl, ↓backK_fn, ↓backK_agg, ↓backK_tup, ↓backK_pel, ↓backK_osl, ↓backK_may, ↓backK_box, ↓bothTT, ↓bothTF, ↓bothFT, ↓bothFF, bothTT, bothTF, bothFT, bothFF, ↓bothTT, ↓bothTF, ↓bothFT, ↓bothFF, ↓bothNT, ↓bothNF, ↓bothCT, ↓bothCF, Try.f164]
  rfl

theorem c_spec_find (n1 n2 n3 : Option Bool) (t : Tree) (sum : Int) (hx : TreeSz t) : Det Try.prog 128 [.agg (encT n1 n2 n3 t), .int .i64 sum] (.int .i64 (findB t.blocks sum)) := by
  refine fspec_det tab_ok Try.call128 Try.func128 rfl 22 Try.ntmps128 (of_decide_eq_true rfl) fun B => codeK_sound tab_ok _ _ _ ?_
  unfold encT
  simp (config := { maxSteps := 4000000 }) only [go_sem, Nat.reduceEqDiff, Nat.reduceAdd, Nat.reduceMul, Nat.reduceSub, Nat.reduceLT, Nat.reduceLeDiff, reduceIte, reduceCtorEq, Int.reduceToNat, Int.reduceLE, Int.reduceLT, Int.reduceEq, Int.reduceGT, Int.reduceGE, Int.reduceAdd, Int.reduceSub, Int.reduceNeg, Int.reduceMul, ↓bT, ↓bF, ↓backK_top, ↓backK_int, ↓backK_bool, ↓backK_sl, ↓backK_fn, ↓backK_agg, ↓backK_tup, ↓backK_pel, ↓backK_osl, ↓backK_may, ↓backK_box, ↓bothTT, ↓bothTF, ↓bothFT, ↓bothFF, bothTT, bothTF, bothFT, bothFF, ↓bothTT, ↓bothTF, ↓bothFT, ↓bothFF, ↓bothNT, ↓bothNF, ↓bothCT, ↓bothCF, Try.f128]
  refine semL_for tab_ok (fun i : Nat => ⟨22, [(1, .int .i64 sum), (2, .loc 2 0), (5, .int .i64 i)], [(2, .var (encT n1 n2 n3 t))]⟩) (fun i => t.blocks.length - i)
    (fun i => i ≤ t.blocks.length ∧ idxF (fun b => blockSum b == sum) (t.blocks.drop i) i = findB t.blocks sum) 0 [(2, 2)] (Weak.of (by rfl) ?_ ?_ (by rfl)) ⟨by omega, rfl⟩ ?_
  · simp (config := { maxSteps := 4000000 }) only [go_sem, Nat.reduceEqDiff, Nat.reduceAdd, Nat.reduceMul, Nat.reduceSub, Nat.reduceLT, Nat.reduceLeDiff, reduceIte, reduceCtorEq, Int.reduceToNat, Int.reduceLE, Int.reduceLT, Int.reduceEq, Int.reduceGT, Int.reduceGE, Int.reduceAdd, Int.reduceSub, Int.reduceNeg, Int.reduceMul, ↓bT, ↓bF, ↓backK_top, ↓backK_int, ↓backK_bool, ↓backK_sl, ↓backK_fn, ↓backK_agg, ↓backK_tup, ↓backK_pel, ↓backK_osl, ↓backK_may, ↓backK_box, ↓bothTT, ↓bothTF, ↓bothFT, ↓bothFF, bothTT, bothTF, bothFT, bothFF, ↓bothTT, ↓bothTF, ↓bothFT, ↓bothFF, ↓bothNT, ↓bothNF, ↓bothCT, ↓bothCF, Try.f128, encT, frW, wk2, wk1, wkL, wkB, hpW, List.mem_cons, Prod.mk.injEq, exists_eq_left, exists_eq_right, exists_eq]
  · simp (config := { maxSteps := 4000000 }) only [go_sem, Nat.reduceEqDiff, Nat.reduceAdd, Nat.reduceMul, Nat.reduceSub, Nat.reduceLT, Nat.reduceLeDiff, reduceIte, reduceCtorEq, Int.reduceToNat, Int.reduceLE, Int.reduceLT, Int.reduceEq, Int.reduceGT, Int.reduceGE, Int.reduceAdd, Int.reduceSub, Int.reduceNeg, Int.reduceMul, ↓bT, ↓bF, ↓backK_top, ↓backK_int, ↓backK_bool, ↓backK_sl, ↓backK_fn, ↓backK_agg, ↓backK_tup, ↓backK_pel, ↓backK_osl, ↓backK_may, ↓backK_box, ↓bothTT, ↓bothTF, ↓bothFT, ↓bothFF, bothTT, bothTF, bothFT, bothFF, ↓bothTT, ↓bothTF, ↓bothFT, ↓bothFF, ↓bothNT, ↓bothNF, ↓bothCT, ↓bothCF, Try.f128, frW, wk2, wk1, wkL, wkB, hpW, List.mem_cons, Prod.mk.injEq, exists_eq_left, exists_eq_right, exists_eq]
  · rintro i ⟨hi, hp⟩
    by_cases h : i < t.blocks.length
    · simp (config := { maxSteps := 4000000 }) only [go_sem, Nat.reduceEqDiff, Nat.reduceAdd, Nat.reduceMul, Nat.reduceSub, Nat.reduceLT, Nat.reduceLeDiff, reduceIte, reduceCtorEq, Int.reduceToNat, Int.reduceLE, Int.reduceLT, Int.reduceEq, Int.reduceGT, Int.reduceGE, Int.reduceAdd, Int.reduceSub, Int.reduceNeg, Int.reduceMul, ↓bT, ↓bF, ↓backK_top, ↓backK_int, ↓backK_bool, ↓backK_sl, ↓backK_fn, ↓backK_agg, ↓backK_tup, ↓backK_pel, ↓backK_osl, ↓backK_may, ↓backK_box, ↓bothTT, ↓bothTF, ↓bothFT, ↓bothFF, bothTT, bothTF, bothFT, bothFF, ↓bothTT, ↓bothTF, ↓bothFT, ↓bothFF, ↓bothNT, ↓bothNF, ↓bothCT, ↓bothCF, Try.f128, encT, rows_length, rows_get _ _ _ h, encB1, encBk, nlt h, nn0]
      refine CallTo.det (c_spec_BlockSum none _ (hx.list _ (List.getElem_mem h))) fun _ => ?_
      rw [drop_cons t.blocks i h] at hp
      have hp : (if (blockSum t.blocks[i] == sum) = true then (i : Int) else idxF (fun b => blockSum b == sum) (t.blocks.drop (i + 1)) (i + 1)) = findB t.blocks sum := hp
      cases he : (blockSum t.blocks[i] == sum) with
      | true =>
        rw [if_pos he] at hp
        simp (config := { maxSteps := 4000000 }) only [go_sem, Nat.reduceEqDiff, Nat.reduceAdd, Nat.reduceMul, Nat.reduceSub, Nat.reduceLT, Nat.reduceLeDiff, reduceIte, reduceCtorEq, Int.reduceToNat, Int.reduceLE, Int.reduceLT, Int.reduceEq, Int.reduceGT, Int.reduceGE, Int.reduceAdd, Int.reduceSub, Int.reduceNeg, Int.reduceMul, ↓bT, ↓bF, ↓backK_top, ↓backK_int, ↓backK_bool, ↓backK_sl, ↓backK_fn, ↓backK_agg, ↓backK_tup, ↓backK_pel, ↓backK_osl, ↓backK_may, ↓backK_box, ↓bothTT, ↓bothTF, ↓bothFT, ↓bothFF, bothTT, bothTF, bothFT, bothFF, ↓bothTT, ↓bothTF, ↓bothFT, ↓bothFF, ↓bothNT, ↓bothNF, ↓bothCT, ↓bothCF, Try.f128, encT, rows_length, rows_get _ _ _ h, nlt h, nn0, he, ← hp]
      | false =>
        rw [if_neg (by rw [he]; simp)] at hp
        simp (config := { maxSteps := 4000000 }) only [go_sem, Nat.reduceEqDiff, Nat.reduceAdd, Nat.reduceMul, Nat.reduceSub, Nat.reduceLT, Nat.reduceLeDiff, reduceIte, reduceCtorEq, Int.reduceToNat, Int.reduceLE, Int.reduceLT, Int.reduceEq, Int.reduceGT, Int.reduceGE, Int.reduceAdd, Int.reduceSub, Int.reduceNeg, Int.reduceMul, ↓bT, ↓bF, ↓backK_top, ↓backK_int, ↓backK_bool, ↓backK_sl, ↓backK_fn, ↓backK_agg, ↓backK_tup, ↓backK_pel, ↓backK_osl, ↓backK_may, ↓backK_box, ↓bothTT, ↓bothTF, ↓bothFT, ↓bothFF, bothTT, bothTF, bothFT, bothFF, ↓bothTT, ↓bothTF, ↓bothFT, ↓bothFF, ↓bothNT, ↓bothNF, ↓bothCT, ↓bothCF, Try.f128, encT, rows_length, rows_get _ _ _ h, nlt h, nn0, he]
        refine ⟨i + 1, [(2, 2)], ⟨by omega, hp⟩, by dsimp only; omega, Weak.of (by rfl) ?_ ?_ (by rfl)⟩
        · simp (config := { maxSteps := 4000000 }) only [go_sem, Nat.reduceEqDiff, Nat.reduceAdd, Nat.reduceMul, Nat.reduceSub, Nat.reduceLT, Nat.reduceLeDiff, reduceIte, reduceCtorEq, Int.reduceToNat, Int.reduceLE, Int.reduceLT, Int.reduceEq, Int.reduceGT, Int.reduceGE, Int.reduceAdd, Int.reduceSub, Int.reduceNeg, Int.reduceMul, ↓bT, ↓bF, ↓backK_top, ↓backK_int, ↓backK_bool, ↓backK_sl, ↓backK_fn, ↓backK_agg, ↓backK_tup, ↓backK_pel, ↓backK_osl, ↓backK_may, ↓backK_box, ↓bothTT, ↓bothTF, ↓bothFT, ↓bothFF, bothTT, bothTF, bothFT, bothFF, ↓bothTT, ↓bothTF, ↓bothFT, ↓bothFF, ↓bothNT, ↓bothNF, ↓bothCT, ↓bothCF, Try.f128, encT, frW, wk2, wk1, wkL, wkB, hpW, List.mem_cons, Prod.mk.injEq, exists_eq_left, exists_eq_right, exists_eq]
        · simp (config := { maxSteps := 4000000 }) only [go_sem, Nat.reduceEqDiff, Nat.reduceAdd, Nat.reduceMul, Nat.reduceSub, Nat.reduceLT, Nat.reduceLeDiff, reduceIte, reduceCtorEq, Int.reduceToNat, Int.reduceLE, Int.reduceLT, Int.reduceEq, Int.reduceGT, Int.reduceGE, Int.reduceAdd, Int.reduceSub, Int.reduceNeg, Int.reduceMul, ↓bT, ↓bF, ↓backK_top, ↓backK_int, ↓backK_bool, ↓backK_sl, ↓backK_fn, ↓backK_agg, ↓backK_tup, ↓backK_pel, ↓backK_osl, ↓backK_may, ↓backK_box, ↓bothTT, ↓bothTF, ↓bothFT, ↓bothFF, bothTT, bothTF, bothFT, bothFF, ↓bothTT, ↓bothTF, ↓bothFT, ↓bothFF, ↓bothNT, ↓bothNF, ↓bothCT, ↓bothCF, Try.f128, wsucc h hx.blocks, frW, wk2, wk1, wkL, wkB, hpW, List.mem_cons, Prod.mk.injEq, exists_eq_left, exists_eq_right, exists_eq]
    · have : i = t.blocks.length := by omega
      subst this
      rw [List.drop_length] at hp
      simp (config := { maxSteps := 4000000 }) only [go_sem, Nat.reduceEqDiff, Nat.reduceAdd, Nat.reduceMul, Nat.reduceSub, Nat.reduceLT, Nat.reduceLeDiff, reduceIte, reduceCtorEq, Int.reduceToNat, Int.reduceLE, Int.reduceLT, Int.reduceEq, Int.reduceGT, Int.reduceGE, Int.reduceAdd, Int.reduceSub, Int.reduceNeg, Int.reduceMul, ↓bT, ↓bF, ↓backK_top, ↓backK_int, ↓backK_bool, ↓backK_sl, ↓backK_fn, ↓backK_agg, ↓backK_tup, ↓backK_pel, ↓backK_osl, ↓backK_may, ↓backK_box, ↓bothTT, ↓bothTF, ↓bothFT, ↓bothFF, bothTT, bothTF, bothFT, bothFF, ↓bothTT, ↓bothTF, ↓bothFT, ↓bothFF, ↓bothNT, ↓bothNF, ↓bothCT, ↓bothCF, Try.f128, encT, rows_length, nlf h, ← hp]
      rfl

end Go.Proofs.Ytdaemhaecjldaaa

/- Contracts: valid trees of blocks. -/
set_option linter.unusedSimpArgs false
set_option linter.unusedVariables false
set_option maxRecDepth 20000
set_option maxHeartbeats 4000000
namespace Go.Proofs.Ytdaemhaecjldaaa
open Go Go.RowKit

def Tree.blk (t : Tree) (i : Nat) : Block := t.blocks.getD i default
def Tree.bef (t : Tree) (i : Nat) : Int := t.before.getD i 0

theorem Tree.blk_get (t : Tree) (i : Nat) (h : i < t.blocks.length) : t.blocks[i] = t.blk i := (getD_get _ _ h).symm
theorem Tree.bef_get (t : Tree) (i : Nat) (h : i < t.before.length) : t.before[i] = t.bef i := by
  simp [Tree.bef, List.getD_eq_getElem?_getD, h]

/-- The block k is behind the one that it names. -/
structure Link (t : Tree) (k : Nat) : Prop where
  lo : 0 ≤ t.bef k
  hi : t.bef k < k
  sum : blockSum (t.blk (t.bef k).toNat) = (t.blk k).before
  height : (t.blk (t.bef k).toNat).height + 1 = (t.blk k).height
  view : (t.blk (t.bef k).toNat).view < (t.blk k).view

/-- Valid trees. -/
structure TreeOk (t : Tree) : Prop where
  store : storeValid t.base = true
  len : 1 ≤ t.blocks.length ∧ t.blocks.length ≤ 14
  bef : t.before.length = t.blocks.length
  first : t.blk 0 = firstBlock t.base
  bef0 : t.bef 0 = -1
  valid : ∀ i, i < t.blocks.length → blockValid (t.blk i) = true
  dist : ∀ i j, i < j → j < t.blocks.length → blockSum (t.blk i) ≠ blockSum (t.blk j)
  link : ∀ k, 0 < k → k < t.blocks.length → Link t k

open Classical in
noncomputable def treeValid (t : Tree) : Bool := decide (TreeOk t)

theorem treeValid_false {t : Tree} (h : ¬ TreeOk t) : treeValid t = false := by simp [treeValid, h]
theorem treeValid_true {t : Tree} (h : TreeOk t) : treeValid t = true := by simp [treeValid, h]
theorem treeOk_of {t : Tree} (h : treeValid t = true) : TreeOk t := by simpa [treeValid] using h

theorem firstBlock_list (s : List Entry) : (firstBlock s).list = [] := by unfold firstBlock; split <;> rfl

theorem blk_bd {b : Block} (h : blockValid b = true) : 0 ≤ b.height ∧ b.height ≤ 100 ∧ 0 ≤ b.view ∧ b.view ≤ 1000 := by
  simp only [blockValid, Bool.and_eq_true] at h
  have h4 := inB_iff.1 h.1.1.2
  have h5 := inB_iff.1 h.1.2
  omega

/-- What is known of a tree before its blocks are looked at one by one. -/
structure TreePre (t : Tree) : Prop where
  store : storeValid t.base = true
  len : 1 ≤ t.blocks.length ∧ t.blocks.length ≤ 14
  bef : t.before.length = t.blocks.length
  first : t.blk 0 = firstBlock t.base
  bef0 : t.bef 0 = -1

/-- What is known of a tree when its first i blocks have been looked at. -/
structure TreeTo (t : Tree) (i : Nat) : Prop where
  valid : ∀ k, k < i → blockValid (t.blk k) = true
  dist : ∀ j k, j < k → k < i → blockSum (t.blk j) ≠ blockSum (t.blk k)
  link : ∀ k, 0 < k → k < i → Link t k

theorem TreePre.ok {t : Tree} (h : TreePre t) (h' : TreeTo t t.blocks.length) : TreeOk t :=
  ⟨h.store, h.len, h.bef, h.first, h.bef0, h'.valid, h'.dist, h'.link⟩

def sumsTo (t : Tree) (i : Nat) : List Int := (List.range i).map fun k => blockSum (t.blk k)
theorem sumsTo_len (t : Tree) (i : Nat) : (sumsTo t i).length = i := by simp [sumsTo]
theorem sumsTo_succ (t : Tree) (i : Nat) : sumsTo t (i + 1) = sumsTo t i ++ [blockSum (t.blk i)] := by simp [sumsTo, List.range_succ]
theorem sumsTo_get (t : Tree) (i k : Nat) (h : k < i) : (sumsTo t i)[k]'(by rw [sumsTo_len]; exact h) = blockSum (t.blk k) := by simp [sumsTo]
theorem sumsTo_any (t : Tree) (i : Nat) (v : Int) : ((sumsTo t i).any fun x => v == x) = true ↔ ∃ k, k < i ∧ blockSum (t.blk k) = v := by
  simp only [sumsTo, List.any_map, List.any_eq_true, List.mem_range, Function.comp, beq_iff_eq]
  constructor
  · rintro ⟨k, h1, h2⟩; exact ⟨k, h1, h2.symm⟩
  · rintro ⟨k, h1, h2⟩; exact ⟨k, h1, h2.symm⟩

theorem c_impl_BlockTreeValid (n1 n2 n3 : Option Bool) (t : Tree) (hx : TreeSz t) : Det Try.prog 99 [.agg (encT n1 n2 n3 t)] (.bool (treeValid t)) := by
  refine fspec_det tab_ok Try.call99 Try.func99 rfl 112 Try.ntmps99 (of_decide_eq_true rfl) fun B => codeK_sound tab_ok _ _ _ ?_
  unfold encT
  simp (config := { maxSteps := 4000000 }) only [go_sem, Nat.reduceEqDiff, Nat.reduceAdd, Nat.reduceMul, Nat.reduceSub, Nat.reduceLT, Nat.reduceLeDiff, reduceIte, reduceCtorEq, Int.reduceToNat, Int.reduceLE, Int.reduceLT, Int.reduceEq, Int.reduceGT, Int.reduceGE, Int.reduceAdd, Int.reduceSub, Int.reduceNeg, Int.reduceMul, ↓bT, ↓bF, ↓backK_top, ↓backK_int, ↓backK_bool, ↓backK_sl, ↓backK_fn, ↓backK_agg, ↓backK_tup, ↓backK_pel, ↓backK_osl, ↓backK_may, ↓backK_box, ↓bothTT, ↓bothTF, ↓bothFT, ↓bothFF, bothTT, bothTF, bothFT, bothFF, ↓bothTT, ↓bothTF, ↓bothFT, ↓bothFF, ↓bothNT, ↓bothNF, ↓bothCT, ↓bothCF, Try.f99]
  refine semL_draw tab_ok mixed_ rfl (ord := [(0, []), (1, []), (2, []), (3, []), (4, []), (5, []), (6, []), (7, []), (8, []), (9, []), (10, []), (11, []), (12, []), (13, []), (14, []), (15, []), (16, []), (17, []), (18, []), (19, []), (20, []), (21, []), (22, []), (23, []), (24, []), (25, []), (26, []), (27, [21, 22, 23, 24]), (28, []), (29, []), (30, []), (31, []), (32, []), (33, []), (34, []), (35, []), (36, []), (37, [])]) (by dsimp only; decide +kernel) ?_
  simp (config := { maxSteps := 4000000 }) only [go_sem, Nat.reduceEqDiff, Nat.reduceAdd, Nat.reduceMul, Nat.reduceSub, Nat.reduceLT, Nat.reduceLeDiff, reduceIte, reduceCtorEq, Int.reduceToNat, Int.reduceLE, Int.reduceLT, Int.reduceEq, Int.reduceGT, Int.reduceGE, Int.reduceAdd, Int.reduceSub, Int.reduceNeg, Int.reduceMul, ↓bT, ↓bF, ↓backK_top, ↓backK_int, ↓backK_bool, ↓backK_sl, ↓backK_fn, ↓backK_agg, ↓backK_tup, ↓backK_pel, ↓backK_osl, ↓backK_may, ↓backK_box, ↓bothTT, ↓bothTF, ↓bothFT, ↓bothFF, bothTT, bothTF, bothFT, bothFF, ↓bothTT, ↓bothTF, ↓bothFT, ↓bothFF, ↓bothNT, ↓bothNF, ↓bothCT, ↓bothCF, Try.f99]
  refine CallTo.det (c_impl_StoreValid _ _ hx.base) fun _ => ?_
  cases h1 : storeValid t.base with
  | false =>
    have hn : treeValid t = false := treeValid_false fun h => by have := h.store; rw [h1] at this; cases this
    simp (config := { maxSteps := 4000000 }) only [go_sem, Nat.reduceEqDiff, Nat.reduceAdd, Nat.reduceMul, Nat.reduceSub, Nat.reduceLT, Nat.reduceLeDiff, reduceIte, reduceCtorEq, Int.reduceToNat, Int.reduceLE, Int.reduceLT, Int.reduceEq, Int.reduceGT, Int.reduceGE, Int.reduceAdd, Int.reduceSub, Int.reduceNeg, Int.reduceMul, ↓bT, ↓bF, ↓backK_top, ↓backK_int, ↓backK_bool, ↓backK_sl, ↓backK_fn, ↓backK_agg, ↓backK_tup, ↓backK_pel, ↓backK_osl, ↓backK_may, ↓backK_box, ↓bothTT, ↓bothTF, ↓bothFT, ↓bothFF, bothTT, bothTF, bothFT, bothFF, ↓bothTT, ↓bothTF, ↓bothFT, ↓bothFF, ↓bothNT, ↓bothNF, ↓bothCT, ↓bothCF, Try.f99, h1, hn]
  | true =>
    simp (config := { maxSteps := 4000000 }) only [go_sem, Nat.reduceEqDiff, Nat.reduceAdd, Nat.reduceMul, Nat.reduceSub, Nat.reduceLT, Nat.reduceLeDiff, reduceIte, reduceCtorEq, Int.reduceToNat, Int.reduceLE, Int.reduceLT, Int.reduceEq, Int.reduceGT, Int.reduceGE, Int.reduceAdd, Int.reduceSub, Int.reduceNeg, Int.reduceMul, ↓bT, ↓bF, ↓backK_top, ↓backK_int, ↓backK_bool, ↓backK_sl, ↓backK_fn, ↓backK_agg, ↓backK_tup, ↓backK_pel, ↓backK_osl, ↓backK_may, ↓backK_box, ↓bothTT, ↓bothTF, ↓bothFT, ↓bothFF, bothTT, bothTF, bothFT, bothFF, ↓bothTT, ↓bothTF, ↓bothFT, ↓bothFF, ↓bothNT, ↓bothNF, ↓bothCT, ↓bothCF, Try.f99, h1, rows_length]
    refine CallTo.det (c_in _ _ _) fun _ => ?_
    cases h2 : inB (t.blocks.length) 1 14 with
    | false =>
      have hn : treeValid t = false := treeValid_false fun h => by have := h.len; rw [inB_iff.2 (by omega)] at h2; cases h2
      simp (config := { maxSteps := 4000000 }) only [go_sem, Nat.reduceEqDiff, Nat.reduceAdd, Nat.reduceMul, Nat.reduceSub, Nat.reduceLT, Nat.reduceLeDiff, reduceIte, reduceCtorEq, Int.reduceToNat, Int.reduceLE, Int.reduceLT, Int.reduceEq, Int.reduceGT, Int.reduceGE, Int.reduceAdd, Int.reduceSub, Int.reduceNeg, Int.reduceMul, ↓bT, ↓bF, ↓backK_top, ↓backK_int, ↓backK_bool, ↓backK_sl, ↓backK_fn, ↓backK_agg, ↓backK_tup, ↓backK_pel, ↓backK_osl, ↓backK_may, ↓backK_box, ↓bothTT, ↓bothTF, ↓bothFT, ↓bothFF, bothTT, bothTF, bothFT, bothFF, ↓bothTT, ↓bothTF, ↓bothFT, ↓bothFF, ↓bothNT, ↓bothNF, ↓bothCT, ↓bothCF, Try.f99, h1, h2, hn, rows_length]
    | true =>
      have h2' := inB_iff.1 h2
      have h0 : 0 < t.blocks.length := by omega
      by_cases h3 : t.before.length = t.blocks.length
      · have hd : ((t.before.length : Int) != (t.blocks.length : Int)) = false := by simp [h3]
        have hp0 : ((0 : Int) < (t.blocks.length : Int)) = True := by simp; omega
        have hq0 : ((0 : Int) < (t.before.length : Int)) = True := by simp; omega
        have hg0 : (rows encB1 t.blocks).getD 0 [] = encB1 (t.blk 0) := rows_gd encB1 t.blocks 0 h0
        have hgb : (rows encI t.before).getD 0 [] = [.int .i64 (t.bef 0)] := by rw [rows_get _ _ 0 (by omega), t.bef_get 0 (by omega)]; rfl
        have hfl : (firstBlock t.base).list.length < 2 ^ 62 := by rw [firstBlock_list]; decide
        have hbl : ∀ i, i < t.blocks.length → (t.blk i).list.length < 2 ^ 62 := fun i hi => hx.list _ (by rw [← t.blk_get i hi]; exact List.getElem_mem hi)
        simp (config := { maxSteps := 4000000 }) only [go_sem, Nat.reduceEqDiff, Nat.reduceAdd, Nat.reduceMul, Nat.reduceSub, Nat.reduceLT, Nat.reduceLeDiff, reduceIte, reduceCtorEq, Int.reduceToNat, Int.reduceLE, Int.reduceLT, Int.reduceEq, Int.reduceGT, Int.reduceGE, Int.reduceAdd, Int.reduceSub, Int.reduceNeg, Int.reduceMul, ↓bT, ↓bF, ↓backK_top, ↓backK_int, ↓backK_bool, ↓backK_sl, ↓backK_fn, ↓backK_agg, ↓backK_tup, ↓backK_pel, ↓backK_osl, ↓backK_may, ↓backK_box, ↓bothTT, ↓bothTF, ↓bothFT, ↓bothFF, bothTT, bothTF, bothFT, bothFF, ↓bothTT, ↓bothTF, ↓bothFT, ↓bothFF, ↓bothNT, ↓bothNF, ↓bothCT, ↓bothCF, Try.f99, h1, h2, hd, rows_length, hp0, hg0, encB1, encBk]
        refine CallTo.det (c_impl_FirstBlock _ _ hx.base) fun _ => ?_
        simp (config := { maxSteps := 4000000 }) only [go_sem, Nat.reduceEqDiff, Nat.reduceAdd, Nat.reduceMul, Nat.reduceSub, Nat.reduceLT, Nat.reduceLeDiff, reduceIte, reduceCtorEq, Int.reduceToNat, Int.reduceLE, Int.reduceLT, Int.reduceEq, Int.reduceGT, Int.reduceGE, Int.reduceAdd, Int.reduceSub, Int.reduceNeg, Int.reduceMul, ↓bT, ↓bF, ↓backK_top, ↓backK_int, ↓backK_bool, ↓backK_sl, ↓backK_fn, ↓backK_agg, ↓backK_tup, ↓backK_pel, ↓backK_osl, ↓backK_may, ↓backK_box, ↓bothTT, ↓bothTF, ↓bothFT, ↓bothFF, bothTT, bothTF, bothFT, bothFF, ↓bothTT, ↓bothTF, ↓bothFT, ↓bothFF, ↓bothNT, ↓bothNF, ↓bothCT, ↓bothCF, Try.f99, h1, h2, hd, rows_length, hp0, hg0, encB1, encBk]
        refine CallTo.det (c_impl_same none none (t.blk 0) (firstBlock t.base) (hbl 0 h0) hfl) fun _ => ?_
        cases h4 : sameB (t.blk 0) (firstBlock t.base) with
        | false =>
          have hn : treeValid t = false := treeValid_false fun h => by have := (sameB_iff _ _).2 h.first; rw [h4] at this; cases this
          simp (config := { maxSteps := 4000000 }) only [go_sem, Nat.reduceEqDiff, Nat.reduceAdd, Nat.reduceMul, Nat.reduceSub, Nat.reduceLT, Nat.reduceLeDiff, reduceIte, reduceCtorEq, Int.reduceToNat, Int.reduceLE, Int.reduceLT, Int.reduceEq, Int.reduceGT, Int.reduceGE, Int.reduceAdd, Int.reduceSub, Int.reduceNeg, Int.reduceMul, ↓bT, ↓bF, ↓backK_top, ↓backK_int, ↓backK_bool, ↓backK_sl, ↓backK_fn, ↓backK_agg, ↓backK_tup, ↓backK_pel, ↓backK_osl, ↓backK_may, ↓backK_box, ↓bothTT, ↓bothTF, ↓bothFT, ↓bothFF, bothTT, bothTF, bothFT, bothFF, ↓bothTT, ↓bothTF, ↓bothFT, ↓bothFF, ↓bothNT, ↓bothNF, ↓bothCT, ↓bothCF, Try.f99, h1, h2, hd, h4, hn, rows_length, encBk]
        | true =>
          have h4' := (sameB_iff _ _).1 h4
          by_cases h5 : t.bef 0 = -1
          · have hd5 : (t.bef 0 != -1) = false := by simp [h5]
            have hpre : TreePre t := ⟨h1, by omega, h3, h4', h5⟩
            simp (config := { maxSteps := 4000000 }) only [go_sem, Nat.reduceEqDiff, Nat.reduceAdd, Nat.reduceMul, Nat.reduceSub, Nat.reduceLT, Nat.reduceLeDiff, reduceIte, reduceCtorEq, Int.reduceToNat, Int.reduceLE, Int.reduceLT, Int.reduceEq, Int.reduceGT, Int.reduceGE, Int.reduceAdd, Int.reduceSub, Int.reduceNeg, Int.reduceMul, ↓bT, ↓bF, ↓backK_top, ↓backK_int, ↓backK_bool, ↓backK_sl, ↓backK_fn, ↓backK_agg, ↓backK_tup, ↓backK_pel, ↓backK_osl, ↓backK_may, ↓backK_box, ↓bothTT, ↓bothTF, ↓bothFT, ↓bothFF, bothTT, bothTF, bothFT, bothFF, ↓bothTT, ↓bothTF, ↓bothFT, ↓bothFF, ↓bothNT, ↓bothNF, ↓bothCT, ↓bothCF, Try.f99, h1, h2, hd, h4, hd5, rows_length, hq0, hgb, encBk]
            refine semL_nilA 3 3 1 true (by rfl) (by rfl) (by decide) (by decide) ?_
            refine semL_for tab_ok (fun i : Nat => ⟨112, [(1, .loc 1 0), (3, .row 3 i), (47, .sl n2 (rows encB1 t.blocks)), (48, .int .i64 t.blocks.length), (49, .int .i64 i)], [(1, .var (encT n1 n2 n3 t)), (3, .row true false 1 (rows encI (sumsTo t i)))]⟩) (fun i => t.blocks.length - i)
              (fun i => i ≤ t.blocks.length ∧ TreeTo t i) 0 [(1, 1), (3, 3)] (Weak.of (by rfl) ?_ ?_ (by rfl)) ⟨by omega, ⟨fun k hk => by omega, fun j k _ hk => by omega, fun k _ hk => by omega⟩⟩ ?_
            · simp (config := { maxSteps := 4000000 }) only [go_sem, Nat.reduceEqDiff, Nat.reduceAdd, Nat.reduceMul, Nat.reduceSub, Nat.reduceLT, Nat.reduceLeDiff, reduceIte, reduceCtorEq, Int.reduceToNat, Int.reduceLE, Int.reduceLT, Int.reduceEq, Int.reduceGT, Int.reduceGE, Int.reduceAdd, Int.reduceSub, Int.reduceNeg, Int.reduceMul, ↓bT, ↓bF, ↓backK_top, ↓backK_int, ↓backK_bool, ↓backK_sl, ↓backK_fn, ↓backK_agg, ↓backK_tup, ↓backK_pel, ↓backK_osl, ↓backK_may, ↓backK_box, ↓bothTT, ↓bothTF, ↓bothFT, ↓bothFF, bothTT, bothTF, bothFT, bothFF, ↓bothTT, ↓bothTF, ↓bothFT, ↓bothFF, ↓bothNT, ↓bothNF, ↓bothCT, ↓bothCF, Try.f99, encT, frW, wk2, wk1, wkL, wkB, hpW, List.mem_cons, Prod.mk.injEq, exists_eq_left, exists_eq_right, exists_eq]
              rfl
            · simp (config := { maxSteps := 4000000 }) only [go_sem, Nat.reduceEqDiff, Nat.reduceAdd, Nat.reduceMul, Nat.reduceSub, Nat.reduceLT, Nat.reduceLeDiff, reduceIte, reduceCtorEq, Int.reduceToNat, Int.reduceLE, Int.reduceLT, Int.reduceEq, Int.reduceGT, Int.reduceGE, Int.reduceAdd, Int.reduceSub, Int.reduceNeg, Int.reduceMul, ↓bT, ↓bF, ↓backK_top, ↓backK_int, ↓backK_bool, ↓backK_sl, ↓backK_fn, ↓backK_agg, ↓backK_tup, ↓backK_pel, ↓backK_osl, ↓backK_may, ↓backK_box, ↓bothTT, ↓bothTF, ↓bothFT, ↓bothFF, bothTT, bothTF, bothFT, bothFF, ↓bothTT, ↓bothTF, ↓bothFT, ↓bothFF, ↓bothNT, ↓bothNF, ↓bothCT, ↓bothCF, Try.f99, frW, wk2, wk1, wkL, wkB, hpW, List.mem_cons, Prod.mk.injEq, exists_eq_left, exists_eq_right, exists_eq]
            · clear hd5 hd h4 h5
              rintro i ⟨hi, hto⟩
              by_cases h : i < t.blocks.length
              · have hgi : (rows encB1 t.blocks).getD i [] = encB1 (t.blk i) := rows_gd encB1 t.blocks i h
                have hsl : (rows encI (sumsTo t i)).length = i := by rw [rows_length, sumsTo_len]
                simp (config := { maxSteps := 4000000 }) only [go_sem, Nat.reduceEqDiff, Nat.reduceAdd, Nat.reduceMul, Nat.reduceSub, Nat.reduceLT, Nat.reduceLeDiff, reduceIte, reduceCtorEq, Int.reduceToNat, Int.reduceLE, Int.reduceLT, Int.reduceEq, Int.reduceGT, Int.reduceGE, Int.reduceAdd, Int.reduceSub, Int.reduceNeg, Int.reduceMul, ↓bT, ↓bF, ↓backK_top, ↓backK_int, ↓backK_bool, ↓backK_sl, ↓backK_fn, ↓backK_agg, ↓backK_tup, ↓backK_pel, ↓backK_osl, ↓backK_may, ↓backK_box, ↓bothTT, ↓bothTF, ↓bothFT, ↓bothFF, bothTT, bothTF, bothFT, bothFF, ↓bothTT, ↓bothTF, ↓bothFT, ↓bothFF, ↓bothNT, ↓bothNF, ↓bothCT, ↓bothCF, Try.f99, rows_length, nlt h, nn0, hgi, encB1, encBk]
                refine CallTo.det (c_impl_BlockSum none (t.blk i) (hbl i h)) fun _ => ?_
                cases hs : decide (blockSum (t.blk i) < 0) with
                | true =>
                  have hn : treeValid t = false := treeValid_false fun hk => by
                    have h1 := (blockSum_neg _).1 (of_decide_eq_true hs)
                    rw [hk.valid i h] at h1; cases h1
                  simp (config := { maxSteps := 4000000 }) only [go_sem, Nat.reduceEqDiff, Nat.reduceAdd, Nat.reduceMul, Nat.reduceSub, Nat.reduceLT, Nat.reduceLeDiff, reduceIte, reduceCtorEq, Int.reduceToNat, Int.reduceLE, Int.reduceLT, Int.reduceEq, Int.reduceGT, Int.reduceGE, Int.reduceAdd, Int.reduceSub, Int.reduceNeg, Int.reduceMul, ↓bT, ↓bF, ↓backK_top, ↓backK_int, ↓backK_bool, ↓backK_sl, ↓backK_fn, ↓backK_agg, ↓backK_tup, ↓backK_pel, ↓backK_osl, ↓backK_may, ↓backK_box, ↓bothTT, ↓bothTF, ↓bothFT, ↓bothFF, bothTT, bothTF, bothFT, bothFF, ↓bothTT, ↓bothTF, ↓bothFT, ↓bothFF, ↓bothNT, ↓bothNF, ↓bothCT, ↓bothCF, Try.f99, hs, hn]
                | false =>
                  have hva : blockValid (t.blk i) = true := by
                    have h1 := of_decide_eq_false hs
                    rw [blockSum_neg] at h1; simpa using h1
                  simp (config := { maxSteps := 4000000 }) only [go_sem, Nat.reduceEqDiff, Nat.reduceAdd, Nat.reduceMul, Nat.reduceSub, Nat.reduceLT, Nat.reduceLeDiff, reduceIte, reduceCtorEq, Int.reduceToNat, Int.reduceLE, Int.reduceLT, Int.reduceEq, Int.reduceGT, Int.reduceGE, Int.reduceAdd, Int.reduceSub, Int.reduceNeg, Int.reduceMul, ↓bT, ↓bF, ↓backK_top, ↓backK_int, ↓backK_bool, ↓backK_sl, ↓backK_fn, ↓backK_agg, ↓backK_tup, ↓backK_pel, ↓backK_osl, ↓backK_may, ↓backK_box, ↓bothTT, ↓bothTF, ↓bothFT, ↓bothFF, bothTT, bothTF, bothFT, bothFF, ↓bothTT, ↓bothTF, ↓bothFT, ↓bothFF, ↓bothNT, ↓bothNF, ↓bothCT, ↓bothCF, Try.f99, hs, hsl]
                  refine CallTo.det (c_slices_Contains_int _ _ _ (by rw [sumsTo_len]; omega)) fun _ => ?_
                  cases ha : (sumsTo t i).any fun x => blockSum (t.blk i) == x with
                  | true =>
                    have hn : treeValid t = false := treeValid_false fun hk => by
                      obtain ⟨k, hk1, hk2⟩ := (sumsTo_any t i _).1 ha
                      exact hk.dist k i hk1 h hk2
                    simp (config := { maxSteps := 4000000 }) only [go_sem, Nat.reduceEqDiff, Nat.reduceAdd, Nat.reduceMul, Nat.reduceSub, Nat.reduceLT, Nat.reduceLeDiff, reduceIte, reduceCtorEq, Int.reduceToNat, Int.reduceLE, Int.reduceLT, Int.reduceEq, Int.reduceGT, Int.reduceGE, Int.reduceAdd, Int.reduceSub, Int.reduceNeg, Int.reduceMul, ↓bT, ↓bF, ↓backK_top, ↓backK_int, ↓backK_bool, ↓backK_sl, ↓backK_fn, ↓backK_agg, ↓backK_tup, ↓backK_pel, ↓backK_osl, ↓backK_may, ↓backK_box, ↓bothTT, ↓bothTF, ↓bothFT, ↓bothFF, bothTT, bothTF, bothFT, bothFF, ↓bothTT, ↓bothTF, ↓bothFT, ↓bothFF, ↓bothNT, ↓bothNF, ↓bothCT, ↓bothCF, Try.f99, hs, hsl, ha, hn]
                  | false =>
                    have hdist : ∀ k, k < i → blockSum (t.blk k) ≠ blockSum (t.blk i) := fun k hk e => by
                      have := (sumsTo_any t i _).2 ⟨k, hk, e⟩
                      rw [ha] at this; cases this
                    have hw : IntKind.i64.wrap ((i : Int) + 1) = ((i + 1 : Nat) : Int) := wsucc h hx.blocks
                    have ht := take_rows encI (sumsTo t i) i (sumsTo_len t i).symm
                    have hnext : (0 < i → Link t i) → TreeTo t (i + 1) := fun hl => ⟨fun k hk => by
                        rcases Nat.lt_succ_iff_lt_or_eq.1 hk with h | rfl
                        · exact hto.valid k h
                        · exact hva, fun j k hjk hk => by
                        rcases Nat.lt_succ_iff_lt_or_eq.1 hk with h | rfl
                        · exact hto.dist j k hjk h
                        · exact hdist j hjk, fun k h0 hk => by
                        rcases Nat.lt_succ_iff_lt_or_eq.1 hk with h | rfl
                        · exact hto.link k h0 h
                        · exact hl h0⟩
                    rcases Nat.eq_zero_or_pos i with hz | hz
                    · have hz' : ((i : Int) == 0) = true := by simp [hz]
                      simp (config := { maxSteps := 4000000 }) only [go_sem, Nat.reduceEqDiff, Nat.reduceAdd, Nat.reduceMul, Nat.reduceSub, Nat.reduceLT, Nat.reduceLeDiff, reduceIte, reduceCtorEq, Int.reduceToNat, Int.reduceLE, Int.reduceLT, Int.reduceEq, Int.reduceGT, Int.reduceGE, Int.reduceAdd, Int.reduceSub, Int.reduceNeg, Int.reduceMul, ↓bT, ↓bF, ↓backK_top, ↓backK_int, ↓backK_bool, ↓backK_sl, ↓backK_fn, ↓backK_agg, ↓backK_tup, ↓backK_pel, ↓backK_osl, ↓backK_may, ↓backK_box, ↓bothTT, ↓bothTF, ↓bothFT, ↓bothFF, bothTT, bothTF, bothFT, bothFF, ↓bothTT, ↓bothTF, ↓bothFT, ↓bothFF, ↓bothNT, ↓bothNF, ↓bothCT, ↓bothCF, Try.f99, hs, hsl, ha, hz', hw, ht, rows_length, sumsTo_len]
                      refine ⟨by omega, by simp, by omega, by omega, i + 1, [(1, 1), (66, 3)], ⟨by omega, hnext fun h => by omega⟩, by dsimp only; omega, Weak.of (by rfl) ?_ ?_ (by rfl)⟩
                      · simp (config := { maxSteps := 4000000 }) only [go_sem, Nat.reduceEqDiff, Nat.reduceAdd, Nat.reduceMul, Nat.reduceSub, Nat.reduceLT, Nat.reduceLeDiff, reduceIte, reduceCtorEq, Int.reduceToNat, Int.reduceLE, Int.reduceLT, Int.reduceEq, Int.reduceGT, Int.reduceGE, Int.reduceAdd, Int.reduceSub, Int.reduceNeg, Int.reduceMul, ↓bT, ↓bF, ↓backK_top, ↓backK_int, ↓backK_bool, ↓backK_sl, ↓backK_fn, ↓backK_agg, ↓backK_tup, ↓backK_pel, ↓backK_osl, ↓backK_may, ↓backK_box, ↓bothTT, ↓bothTF, ↓bothFT, ↓bothFF, bothTT, bothTF, bothFT, bothFF, ↓bothTT, ↓bothTF, ↓bothFT, ↓bothFF, ↓bothNT, ↓bothNF, ↓bothCT, ↓bothCF, Try.f99, encT, sumsTo_succ, frW, wk2, wk1, wkL, wkB, hpW, List.mem_cons, Prod.mk.injEq, exists_eq_left, exists_eq_right, exists_eq]
                        exact (rows_snoc encI _ _).symm
                      · simp (config := { maxSteps := 4000000 }) only [go_sem, Nat.reduceEqDiff, Nat.reduceAdd, Nat.reduceMul, Nat.reduceSub, Nat.reduceLT, Nat.reduceLeDiff, reduceIte, reduceCtorEq, Int.reduceToNat, Int.reduceLE, Int.reduceLT, Int.reduceEq, Int.reduceGT, Int.reduceGE, Int.reduceAdd, Int.reduceSub, Int.reduceNeg, Int.reduceMul, ↓bT, ↓bF, ↓backK_top, ↓backK_int, ↓backK_bool, ↓backK_sl, ↓backK_fn, ↓backK_agg, ↓backK_tup, ↓backK_pel, ↓backK_osl, ↓backK_may, ↓backK_box, ↓bothTT, ↓bothTF, ↓bothFT, ↓bothFF, bothTT, bothTF, bothFT, bothFF, ↓bothTT, ↓bothTF, ↓bothFT, ↓bothFF, ↓bothNT, ↓bothNF, ↓bothCT, ↓bothCF, Try.f99, frW, wk2, wk1, wkL, wkB, hpW, List.mem_cons, Prod.mk.injEq, exists_eq_left, exists_eq_right, exists_eq]
                    · have hz' : ((i : Int) == 0) = false := by simp; omega
                      have hib : i < t.before.length := by rw [h3]; exact h
                      have hgk : (rows encI t.before).getD i [] = [.int .i64 (t.bef i)] := by rw [rows_get _ _ i hib, t.bef_get i hib]; rfl
                      simp (config := { maxSteps := 4000000 }) only [go_sem, Nat.reduceEqDiff, Nat.reduceAdd, Nat.reduceMul, Nat.reduceSub, Nat.reduceLT, Nat.reduceLeDiff, reduceIte, reduceCtorEq, Int.reduceToNat, Int.reduceLE, Int.reduceLT, Int.reduceEq, Int.reduceGT, Int.reduceGE, Int.reduceAdd, Int.reduceSub, Int.reduceNeg, Int.reduceMul, ↓bT, ↓bF, ↓backK_top, ↓backK_int, ↓backK_bool, ↓backK_sl, ↓backK_fn, ↓backK_agg, ↓backK_tup, ↓backK_pel, ↓backK_osl, ↓backK_may, ↓backK_box, ↓bothTT, ↓bothTF, ↓bothFT, ↓bothFF, bothTT, bothTF, bothFT, bothFF, ↓bothTT, ↓bothTF, ↓bothFT, ↓bothFF, ↓bothNT, ↓bothNF, ↓bothCT, ↓bothCF, Try.f99, hs, hsl, ha, hz', hw, ht, rows_length, sumsTo_len, encT, nn0, nlt hib, hgk]
                      refine ⟨by omega, by simp, by omega, by omega, ?_⟩
                      refine semL_draw tab_ok mixed_ rfl (ord := [(0, []), (1, []), (2, []), (3, []), (4, []), (5, []), (6, []), (7, []), (8, []), (9, []), (10, []), (11, []), (12, []), (13, []), (14, []), (15, []), (16, []), (17, []), (18, []), (19, []), (20, []), (21, []), (22, []), (23, []), (24, []), (25, []), (26, []), (27, []), (28, []), (29, []), (30, []), (31, []), (32, []), (33, []), (34, []), (35, []), (36, [])]) (by dsimp only; decide +kernel) ?_
                      have hw1 : IntKind.i64.wrap ((i : Int) - 1) = (i : Int) - 1 := wrap_small _ (by omega) (by omega)
                      simp (config := { maxSteps := 4000000 }) only [go_sem, Nat.reduceEqDiff, Nat.reduceAdd, Nat.reduceMul, Nat.reduceSub, Nat.reduceLT, Nat.reduceLeDiff, reduceIte, reduceCtorEq, Int.reduceToNat, Int.reduceLE, Int.reduceLT, Int.reduceEq, Int.reduceGT, Int.reduceGE, Int.reduceAdd, Int.reduceSub, Int.reduceNeg, Int.reduceMul, ↓bT, ↓bF, ↓backK_top, ↓backK_int, ↓backK_bool, ↓backK_sl, ↓backK_fn, ↓backK_agg, ↓backK_tup, ↓backK_pel, ↓backK_osl, ↓backK_may, ↓backK_box, ↓bothTT, ↓bothTF, ↓bothFT, ↓bothFF, bothTT, bothTF, bothFT, bothFF, ↓bothTT, ↓bothTF, ↓bothFT, ↓bothFF, ↓bothNT, ↓bothNF, ↓bothCT, ↓bothCF, Try.f99, hw1]
                      refine CallTo.det (c_in _ _ _) fun _ => ?_
                      cases hin : inB (t.bef i) 0 ((i : Int) - 1) with
                      | false =>
                        have hn : treeValid t = false := treeValid_false fun hk => by
                          have := hk.link i hz h
                          have h1 := this.lo; have h2 := this.hi
                          rw [inB_iff.2 (by omega)] at hin; cases hin
                        simp (config := { maxSteps := 4000000 }) only [go_sem, Nat.reduceEqDiff, Nat.reduceAdd, Nat.reduceMul, Nat.reduceSub, Nat.reduceLT, Nat.reduceLeDiff, reduceIte, reduceCtorEq, Int.reduceToNat, Int.reduceLE, Int.reduceLT, Int.reduceEq, Int.reduceGT, Int.reduceGE, Int.reduceAdd, Int.reduceSub, Int.reduceNeg, Int.reduceMul, ↓bT, ↓bF, ↓backK_top, ↓backK_int, ↓backK_bool, ↓backK_sl, ↓backK_fn, ↓backK_agg, ↓backK_tup, ↓backK_pel, ↓backK_osl, ↓backK_may, ↓backK_box, ↓bothTT, ↓bothTF, ↓bothFT, ↓bothFF, bothTT, bothTF, bothFT, bothFF, ↓bothTT, ↓bothTF, ↓bothFT, ↓bothFF, ↓bothNT, ↓bothNF, ↓bothCT, ↓bothCF, Try.f99, hin, hn]
                      | true =>
                        have hin' := inB_iff.1 hin
                        obtain ⟨k, hk⟩ : ∃ k : Nat, t.bef i = (k : Int) := ⟨(t.bef i).toNat, by omega⟩
                        have hki : k < i := by omega
                        have hkn : k < t.blocks.length := by omega
                        have hgk2 : (rows encB1 t.blocks).getD k [] = encB1 (t.blk k) := rows_gd encB1 t.blocks k hkn
                        have hgs : (rows encI (sumsTo t i) ++ [[AV.int .i64 (blockSum (t.blk i))]]).getD k [] = [.int .i64 (blockSum (t.blk k))] := by
                          rw [show [AV.int .i64 (blockSum (t.blk i))] = encI (blockSum (t.blk i)) from rfl, rows_snoc, rows_get _ _ k (by simp [sumsTo_len]; omega), List.getElem_append_left (by rw [sumsTo_len]; exact hki), sumsTo_get t i k hki]; rfl
                        have hkt : (t.bef i).toNat = k := by omega
                        have hki1 : k < i + 1 := by omega
                        have hkl : (k < i + 1) = True := by simp [hki1]
                        have hsla : (rows encI (sumsTo t i) ++ [[AV.int .i64 (blockSum (t.blk i))]]).length = i + 1 := by simp [hsl]
                        have hbk := blk_bd (hto.valid k hki)
                        have hbi := blk_bd hva
                        have hw2 : IntKind.i64.wrap ((t.blk k).height + 1) = (t.blk k).height + 1 := wrap_small _ (by omega) (by omega)
                        cases e1 : ((t.blk i).before != blockSum (t.blk k)) with
                        | true =>
                          have hn : treeValid t = false := treeValid_false fun hl => by
                            have := (hl.link i hz h).sum
                            rw [hkt] at this; simp [this] at e1
                          simp (config := { maxSteps := 4000000 }) only [go_sem, Nat.reduceEqDiff, Nat.reduceAdd, Nat.reduceMul, Nat.reduceSub, Nat.reduceLT, Nat.reduceLeDiff, reduceIte, reduceCtorEq, Int.reduceToNat, Int.reduceLE, Int.reduceLT, Int.reduceEq, Int.reduceGT, Int.reduceGE, Int.reduceAdd, Int.reduceSub, Int.reduceNeg, Int.reduceMul, ↓bT, ↓bF, ↓backK_top, ↓backK_int, ↓backK_bool, ↓backK_sl, ↓backK_fn, ↓backK_agg, ↓backK_tup, ↓backK_pel, ↓backK_osl, ↓backK_may, ↓backK_box, ↓bothTT, ↓bothTF, ↓bothFT, ↓bothFF, bothTT, bothTF, bothFT, bothFF, ↓bothTT, ↓bothTF, ↓bothFT, ↓bothFF, ↓bothNT, ↓bothNF, ↓bothCT, ↓bothCF, Try.f99, hin, hk, encB1, encBk, hgs, hgk2, hw2, hsla, hkl, rows_length, nn0, nlt hkn, nlt hki1, hn, e1]
                        | false =>
                          cases e2 : ((t.blk i).height != (t.blk k).height + 1) with
                          | true =>
                            have hn : treeValid t = false := treeValid_false fun hl => by
                              have := (hl.link i hz h).height
                              rw [hkt] at this; simp [this] at e2
                            simp (config := { maxSteps := 4000000 }) only [go_sem, Nat.reduceEqDiff, Nat.reduceAdd, Nat.reduceMul, Nat.reduceSub, Nat.reduceLT, Nat.reduceLeDiff, reduceIte, reduceCtorEq, Int.reduceToNat, Int.reduceLE, Int.reduceLT, Int.reduceEq, Int.reduceGT, Int.reduceGE, Int.reduceAdd, Int.reduceSub, Int.reduceNeg, Int.reduceMul, ↓bT, ↓bF, ↓backK_top, ↓backK_int, ↓backK_bool, ↓backK_sl, ↓backK_fn, ↓backK_agg, ↓backK_tup, ↓backK_pel, ↓backK_osl, ↓backK_may, ↓backK_box, ↓bothTT, ↓bothTF, ↓bothFT, ↓bothFF, bothTT, bothTF, bothFT, bothFF, ↓bothTT, ↓bothTF, ↓bothFT, ↓bothFF, ↓bothNT, ↓bothNF, ↓bothCT, ↓bothCF, Try.f99, hin, hk, encB1, encBk, hgs, hgk2, hw2, hsla, hkl, rows_length, nn0, nlt hkn, nlt hki1, hn, e1, e2]
                          | false =>
                            cases e3 : decide ((t.blk i).view ≤ (t.blk k).view) with
                            | true =>
                              have hn : treeValid t = false := treeValid_false fun hl => by
                                have := (hl.link i hz h).view
                                rw [hkt] at this
                                have := of_decide_eq_true e3
                                omega
                              simp (config := { maxSteps := 4000000 }) only [go_sem, Nat.reduceEqDiff, Nat.reduceAdd, Nat.reduceMul, Nat.reduceSub, Nat.reduceLT, Nat.reduceLeDiff, reduceIte, reduceCtorEq, Int.reduceToNat, Int.reduceLE, Int.reduceLT, Int.reduceEq, Int.reduceGT, Int.reduceGE, Int.reduceAdd, Int.reduceSub, Int.reduceNeg, Int.reduceMul, ↓bT, ↓bF, ↓backK_top, ↓backK_int, ↓backK_bool, ↓backK_sl, ↓backK_fn, ↓backK_agg, ↓backK_tup, ↓backK_pel, ↓backK_osl, ↓backK_may, ↓backK_box, ↓bothTT, ↓bothTF, ↓bothFT, ↓bothFF, bothTT, bothTF, bothFT, bothFF, ↓bothTT, ↓bothTF, ↓bothFT, ↓bothFF, ↓bothNT, ↓bothNF, ↓bothCT, ↓bothCF, Try.f99, hin, hk, encB1, encBk, hgs, hgk2, hw2, hsla, hkl, rows_length, nn0, nlt hkn, nlt hki1, hn, e1, e2, e3]
                            | false =>
                              have e1' : (t.blk i).before = blockSum (t.blk k) := by simpa using e1
                              have e2' : (t.blk i).height = (t.blk k).height + 1 := by simpa using e2
                              have e3' := of_decide_eq_false e3
                              simp (config := { maxSteps := 4000000 }) only [go_sem, Nat.reduceEqDiff, Nat.reduceAdd, Nat.reduceMul, Nat.reduceSub, Nat.reduceLT, Nat.reduceLeDiff, reduceIte, reduceCtorEq, Int.reduceToNat, Int.reduceLE, Int.reduceLT, Int.reduceEq, Int.reduceGT, Int.reduceGE, Int.reduceAdd, Int.reduceSub, Int.reduceNeg, Int.reduceMul, ↓bT, ↓bF, ↓backK_top, ↓backK_int, ↓backK_bool, ↓backK_sl, ↓backK_fn, ↓backK_agg, ↓backK_tup, ↓backK_pel, ↓backK_osl, ↓backK_may, ↓backK_box, ↓bothTT, ↓bothTF, ↓bothFT, ↓bothFF, bothTT, bothTF, bothFT, bothFF, ↓bothTT, ↓bothTF, ↓bothFT, ↓bothFF, ↓bothNT, ↓bothNF, ↓bothCT, ↓bothCF, Try.f99, hin, hk, encB1, encBk, hgs, hgk2, hw2, hsla, hkl, rows_length, nn0, nlt hkn, nlt hki1, e1, e2, e3]
                              refine ⟨i + 1, [(1, 1), (66, 3)], ⟨by omega, hnext fun _ => ⟨by omega, by omega, by rw [hkt]; exact e1'.symm, by rw [hkt]; exact e2'.symm, by rw [hkt]; omega⟩⟩, by dsimp only; omega, Weak.of (by rfl) ?_ ?_ (by rfl)⟩
                              · simp (config := { maxSteps := 4000000 }) only [go_sem, Nat.reduceEqDiff, Nat.reduceAdd, Nat.reduceMul, Nat.reduceSub, Nat.reduceLT, Nat.reduceLeDiff, reduceIte, reduceCtorEq, Int.reduceToNat, Int.reduceLE, Int.reduceLT, Int.reduceEq, Int.reduceGT, Int.reduceGE, Int.reduceAdd, Int.reduceSub, Int.reduceNeg, Int.reduceMul, ↓bT, ↓bF, ↓backK_top, ↓backK_int, ↓backK_bool, ↓backK_sl, ↓backK_fn, ↓backK_agg, ↓backK_tup, ↓backK_pel, ↓backK_osl, ↓backK_may, ↓backK_box, ↓bothTT, ↓bothTF, ↓bothFT, ↓bothFF, bothTT, bothTF, bothFT, bothFF, ↓bothTT, ↓bothTF, ↓bothFT, ↓bothFF, ↓bothNT, ↓bothNF, ↓bothCT, ↓bothCF, Try.f99, encT, sumsTo_succ, frW, wk2, wk1, wkL, wkB, hpW, List.mem_cons, Prod.mk.injEq, exists_eq_left, exists_eq_right, exists_eq]
                                exact (rows_snoc encI _ _).symm
                              · simp (config := { maxSteps := 4000000 }) only [go_sem, Nat.reduceEqDiff, Nat.reduceAdd, Nat.reduceMul, Nat.reduceSub, Nat.reduceLT, Nat.reduceLeDiff, reduceIte, reduceCtorEq, Int.reduceToNat, Int.reduceLE, Int.reduceLT, Int.reduceEq, Int.reduceGT, Int.reduceGE, Int.reduceAdd, Int.reduceSub, Int.reduceNeg, Int.reduceMul, ↓bT, ↓bF, ↓backK_top, ↓backK_int, ↓backK_bool, ↓backK_sl, ↓backK_fn, ↓backK_agg, ↓backK_tup, ↓backK_pel, ↓backK_osl, ↓backK_may, ↓backK_box, ↓bothTT, ↓bothTF, ↓bothFT, ↓bothFF, bothTT, bothTF, bothFT, bothFF, ↓bothTT, ↓bothTF, ↓bothFT, ↓bothFF, ↓bothNT, ↓bothNF, ↓bothCT, ↓bothCF, Try.f99, hw, frW, wk2, wk1, wkL, wkB, hpW, List.mem_cons, Prod.mk.injEq, exists_eq_left, exists_eq_right, exists_eq]
              · have : i = t.blocks.length := by omega
                subst this
                have hn : treeValid t = true := treeValid_true (hpre.ok hto)
                simp (config := { maxSteps := 4000000 }) only [go_sem, Nat.reduceEqDiff, Nat.reduceAdd, Nat.reduceMul, Nat.reduceSub, Nat.reduceLT, Nat.reduceLeDiff, reduceIte, reduceCtorEq, Int.reduceToNat, Int.reduceLE, Int.reduceLT, Int.reduceEq, Int.reduceGT, Int.reduceGE, Int.reduceAdd, Int.reduceSub, Int.reduceNeg, Int.reduceMul, ↓bT, ↓bF, ↓backK_top, ↓backK_int, ↓backK_bool, ↓backK_sl, ↓backK_fn, ↓backK_agg, ↓backK_tup, ↓backK_pel, ↓backK_osl, ↓backK_may, ↓backK_box, ↓bothTT, ↓bothTF, ↓bothFT, ↓bothFF, bothTT, bothTF, bothFT, bothFF, ↓bothTT, ↓bothTF, ↓bothFT, ↓bothFF, ↓bothNT, ↓bothNF, ↓bothCT, ↓bothCF, Try.f99, rows_length, nlf h, hn]
          · have hd5 : (t.bef 0 != -1) = true := by simp [h5]
            have hn : treeValid t = false := treeValid_false fun h => h5 h.bef0
            simp (config := { maxSteps := 4000000 }) only [go_sem, Nat.reduceEqDiff, Nat.reduceAdd, Nat.reduceMul, Nat.reduceSub, Nat.reduceLT, Nat.reduceLeDiff, reduceIte, reduceCtorEq, Int.reduceToNat, Int.reduceLE, Int.reduceLT, Int.reduceEq, Int.reduceGT, Int.reduceGE, Int.reduceAdd, Int.reduceSub, Int.reduceNeg, Int.reduceMul, ↓bT, ↓bF, ↓backK_top, ↓backK_int, ↓backK_bool, ↓backK_sl, ↓backK_fn, ↓backK_agg, ↓backK_tup, ↓backK_pel, ↓backK_osl, ↓backK_may, ↓backK_box, ↓bothTT, ↓bothTF, ↓bothFT, ↓bothFF, bothTT, bothTF, bothFT, bothFF, ↓bothTT, ↓bothTF, ↓bothFT, ↓bothFF, ↓bothNT, ↓bothNF, ↓bothCT, ↓bothCF, Try.f99, h1, h2, hd, h4, hd5, hn, rows_length, hq0, hgb, encBk]
      · have hd : ((t.before.length : Int) != (t.blocks.length : Int)) = true := by simp; omega
        have hn : treeValid t = false := treeValid_false fun h => h3 h.bef
        simp (config := { maxSteps := 4000000 }) only [go_sem, Nat.reduceEqDiff, Nat.reduceAdd, Nat.reduceMul, Nat.reduceSub, Nat.reduceLT, Nat.reduceLeDiff, reduceIte, reduceCtorEq, Int.reduceToNat, Int.reduceLE, Int.reduceLT, Int.reduceEq, Int.reduceGT, Int.reduceGE, Int.reduceAdd, Int.reduceSub, Int.reduceNeg, Int.reduceMul, ↓bT, ↓bF, ↓backK_top, ↓backK_int, ↓backK_bool, ↓backK_sl, ↓backK_fn, ↓backK_agg, ↓backK_tup, ↓backK_pel, ↓backK_osl, ↓backK_may, ↓backK_box, ↓bothTT, ↓bothTF, ↓bothFT, ↓bothFF, bothTT, bothTF, bothFT, bothFF, ↓bothTT, ↓bothTF, ↓bothFT, ↓bothFF, ↓bothNT, ↓bothNF, ↓bothCT, ↓bothCF, Try.f99, h1, h2, hd, hn, rows_length]

end Go.Proofs.Ytdaemhaecjldaaa

/- Contracts: valid trees of blocks, by the reference. -/
set_option linter.unusedSimpArgs false
set_option linter.unusedVariables false
set_option maxRecDepth 20000
set_option maxHeartbeats 4000000
namespace Go.Proofs.Ytdaemhaecjldaaa
open Go Go.RowKit

theorem idxF_is {α : Type} (p : α → Bool) : ∀ (l : List α) (s i : Nat) (h : i < l.length), p l[i] = true → (∀ k (hk : k < i), p (l[k]'(by omega)) = false) → idxF p l s = ((s + i : Nat) : Int)
  | [], _, _, h, _, _ => absurd h (by simp)
  | x :: r, s, 0, h, h1, h2 => by
    have h1 : p x = true := h1
    simp [idxF, h1]
  | x :: r, s, i + 1, h, h1, h2 => by
    have h3 : p x = false := h2 0 (by omega)
    have := idxF_is p r (s + 1) i (by simpa using h) h1 (fun k hk => h2 (k + 1) (by omega))
    simp only [idxF, h3, Bool.false_eq_true, if_false]
    rw [this]; congr 1; omega

theorem idxF_cases {α : Type} (p : α → Bool) : ∀ (l : List α) (s : Nat), (idxF p l s = -1 ∧ ∀ k (h : k < l.length), p l[k] = false) ∨ ∃ i, ∃ h : i < l.length, idxF p l s = ((s + i : Nat) : Int) ∧ p l[i] = true ∧ ∀ k (hk : k < i), p (l[k]'(by omega)) = false
  | [], s => .inl ⟨rfl, fun k h => absurd h (by simp)⟩
  | x :: r, s => by
    cases hx : p x with
    | true => exact .inr ⟨0, by simp, by simp [idxF, hx], hx, fun k hk => by omega⟩
    | false =>
      rcases idxF_cases p r (s + 1) with ⟨h1, h2⟩ | ⟨i, h, h1, h2, h3⟩
      · refine .inl ⟨by simp [idxF, hx, h1], fun k h => ?_⟩
        cases k with
        | zero => exact hx
        | succ k => exact h2 k (by simpa using h)
      · refine .inr ⟨i + 1, by simpa using h, ?_, h2, fun k hk => ?_⟩
        · simp only [idxF, hx, Bool.false_eq_true, if_false]; rw [h1]; congr 1; omega
        · cases k with
          | zero => exact hx
          | succ k => exact h3 k (by omega)

/-- The first block with a sum. -/
theorem findB_cases (t : Tree) (sum : Int) : (findB t.blocks sum = -1 ∧ ∀ k, k < t.blocks.length → blockSum (t.blk k) ≠ sum) ∨
    ∃ i, i < t.blocks.length ∧ findB t.blocks sum = (i : Int) ∧ blockSum (t.blk i) = sum ∧ ∀ k, k < i → blockSum (t.blk k) ≠ sum := by
  rcases idxF_cases (fun b => blockSum b == sum) t.blocks 0 with ⟨h1, h2⟩ | ⟨i, h, h1, h2, h3⟩
  · refine .inl ⟨h1, fun k hk e => ?_⟩
    have := h2 k hk
    rw [t.blk_get k hk, e] at this; simp at this
  · refine .inr ⟨i, h, by unfold findB; rw [h1, Nat.zero_add], ?_, fun k hk e => ?_⟩
    · rw [t.blk_get i h] at h2; simpa using h2
    · have := h3 k hk
      rw [t.blk_get k (by omega), e] at this; simp at this

theorem findB_self (t : Tree) (i : Nat) (h : i < t.blocks.length) : findB t.blocks (blockSum (t.blk i)) = (i : Int) ↔ ∀ k, k < i → blockSum (t.blk k) ≠ blockSum (t.blk i) := by
  constructor
  · intro e
    rcases findB_cases t (blockSum (t.blk i)) with ⟨h1, _⟩ | ⟨j, h1, h2, h3, h4⟩
    · omega
    · have : j = i := by omega
      subst this; exact h4
  · intro hk
    rcases findB_cases t (blockSum (t.blk i)) with ⟨_, h2⟩ | ⟨j, h1, h2, h3, h4⟩
    · exact absurd rfl (h2 i h)
    · rcases Nat.lt_trichotomy j i with hlt | rfl | hgt
      · exact absurd h3 (hk j hlt)
      · exact h2
      · exact absurd rfl (h4 i hgt)

theorem c_spec_BlockTreeValid (n1 n2 n3 : Option Bool) (t : Tree) (hx : TreeSz t) : Det Try.prog 96 [.agg (encT n1 n2 n3 t)] (.bool (treeValid t)) := by
  refine fspec_det tab_ok Try.call96 Try.func96 rfl 130 Try.ntmps96 (of_decide_eq_true rfl) fun B => codeK_sound tab_ok _ _ _ ?_
  unfold encT
  simp (config := { maxSteps := 4000000 }) only [go_sem, Nat.reduceEqDiff, Nat.reduceAdd, Nat.reduceMul, Nat.reduceSub, Nat.reduceLT, Nat.reduceLeDiff, reduceIte, reduceCtorEq, Int.reduceToNat, Int.reduceLE, Int.reduceLT, Int.reduceEq, Int.reduceGT, Int.reduceGE, Int.reduceAdd, Int.reduceSub, Int.reduceNeg, Int.reduceMul, ↓bT, ↓bF, ↓backK_top, ↓backK_int, ↓backK_bool, ↓backK_sl, ↓backK_fn, ↓backK_agg, ↓backK_tup, ↓backK_pel, ↓backK_osl, ↓backK_may, ↓backK_box, ↓bothTT, ↓bothTF, ↓bothFT, ↓bothFF, bothTT, bothTF, bothFT, bothFF, ↓bothTT, ↓bothTF, ↓bothFT, ↓bothFF, ↓bothNT, ↓bothNF, ↓bothCT, ↓bothCF, Try.f96]
  refine CallTo.det (c_spec_StoreValid _ _ hx.base) fun _ => ?_
  cases h1 : storeValid t.base with
  | false =>
    have hn : treeValid t = false := treeValid_false fun h => by have := h.store; rw [h1] at this; cases this
    simp (config := { maxSteps := 4000000 }) only [go_sem, Nat.reduceEqDiff, Nat.reduceAdd, Nat.reduceMul, Nat.reduceSub, Nat.reduceLT, Nat.reduceLeDiff, reduceIte, reduceCtorEq, Int.reduceToNat, Int.reduceLE, Int.reduceLT, Int.reduceEq, Int.reduceGT, Int.reduceGE, Int.reduceAdd, Int.reduceSub, Int.reduceNeg, Int.reduceMul, ↓bT, ↓bF, ↓backK_top, ↓backK_int, ↓backK_bool, ↓backK_sl, ↓backK_fn, ↓backK_agg, ↓backK_tup, ↓backK_pel, ↓backK_osl, ↓backK_may, ↓backK_box, ↓bothTT, ↓bothTF, ↓bothFT, ↓bothFF, bothTT, bothTF, bothFT, bothFF, ↓bothTT, ↓bothTF, ↓bothFT, ↓bothFF, ↓bothNT, ↓bothNF, ↓bothCT, ↓bothCF, Try.f96, h1, hn]
  | true =>
    simp (config := { maxSteps := 4000000 }) only [go_sem, Nat.reduceEqDiff, Nat.reduceAdd, Nat.reduceMul, Nat.reduceSub, Nat.reduceLT, Nat.reduceLeDiff, reduceIte, reduceCtorEq, Int.reduceToNat, Int.reduceLE, Int.reduceLT, Int.reduceEq, Int.reduceGT, Int.reduceGE, Int.reduceAdd, Int.reduceSub, Int.reduceNeg, Int.reduceMul, ↓bT, ↓bF, ↓backK_top, ↓backK_int, ↓backK_bool, ↓backK_sl, ↓backK_fn, ↓backK_agg, ↓backK_tup, ↓backK_pel, ↓backK_osl, ↓backK_may, ↓backK_box, ↓bothTT, ↓bothTF, ↓bothFT, ↓bothFF, bothTT, bothTF, bothFT, bothFF, ↓bothTT, ↓bothTF, ↓bothFT, ↓bothFF, ↓bothNT, ↓bothNF, ↓bothCT, ↓bothCF, Try.f96, h1, rows_length]
    refine CallTo.det (c_l1In _ _ _) fun _ => ?_
    cases h2 : inB (t.blocks.length) 1 14 with
    | false =>
      have hn : treeValid t = false := treeValid_false fun h => by have := h.len; rw [inB_iff.2 (by omega)] at h2; cases h2
      simp (config := { maxSteps := 4000000 }) only [go_sem, Nat.reduceEqDiff, Nat.reduceAdd, Nat.reduceMul, Nat.reduceSub, Nat.reduceLT, Nat.reduceLeDiff, reduceIte, reduceCtorEq, Int.reduceToNat, Int.reduceLE, Int.reduceLT, Int.reduceEq, Int.reduceGT, Int.reduceGE, Int.reduceAdd, Int.reduceSub, Int.reduceNeg, Int.reduceMul, ↓bT, ↓bF, ↓backK_top, ↓backK_int, ↓backK_bool, ↓backK_sl, ↓backK_fn, ↓backK_agg, ↓backK_tup, ↓backK_pel, ↓backK_osl, ↓backK_may, ↓backK_box, ↓bothTT, ↓bothTF, ↓bothFT, ↓bothFF, bothTT, bothTF, bothFT, bothFF, ↓bothTT, ↓bothTF, ↓bothFT, ↓bothFF, ↓bothNT, ↓bothNF, ↓bothCT, ↓bothCF, Try.f96, h1, h2, hn, rows_length]
    | true =>
      have h2' := inB_iff.1 h2
      have h0 : 0 < t.blocks.length := by omega
      by_cases h3 : t.before.length = t.blocks.length
      · have hd : ((t.before.length : Int) != (t.blocks.length : Int)) = false := by simp [h3]
        have hq0 : ((0 : Int) < (t.before.length : Int)) = True := by simp; omega
        have hp0 : ((0 : Int) < (t.blocks.length : Int)) = True := by simp; omega
        have hg0 : (rows encB1 t.blocks).getD 0 [] = encB1 (t.blk 0) := rows_gd encB1 t.blocks 0 h0
        have hgb : (rows encI t.before).getD 0 [] = [.int .i64 (t.bef 0)] := by rw [rows_get _ _ 0 (by omega), t.bef_get 0 (by omega)]; rfl
        have hfl : (firstBlock t.base).list.length < 2 ^ 62 := by rw [firstBlock_list]; decide
        have hbl : ∀ i, i < t.blocks.length → (t.blk i).list.length < 2 ^ 62 := fun i hi => hx.list _ (by rw [← t.blk_get i hi]; exact List.getElem_mem hi)
        by_cases h5 : t.bef 0 = -1
        · have hd5 : (t.bef 0 != -1) = false := by simp [h5]
          simp (config := { maxSteps := 4000000 }) only [go_sem, Nat.reduceEqDiff, Nat.reduceAdd, Nat.reduceMul, Nat.reduceSub, Nat.reduceLT, Nat.reduceLeDiff, reduceIte, reduceCtorEq, Int.reduceToNat, Int.reduceLE, Int.reduceLT, Int.reduceEq, Int.reduceGT, Int.reduceGE, Int.reduceAdd, Int.reduceSub, Int.reduceNeg, Int.reduceMul, ↓bT, ↓bF, ↓backK_top, ↓backK_int, ↓backK_bool, ↓backK_sl, ↓backK_fn, ↓backK_agg, ↓backK_tup, ↓backK_pel, ↓backK_osl, ↓backK_may, ↓backK_box, ↓bothTT, ↓bothTF, ↓bothFT, ↓bothFF, bothTT, bothTF, bothFT, bothFF, ↓bothTT, ↓bothTF, ↓bothFT, ↓bothFF, ↓bothNT, ↓bothNF, ↓bothCT, ↓bothCF, Try.f96, h1, h2, hd, hd5, rows_length, hq0, hgb]
          clear hd5 hd
          refine semL_for tab_ok (fun i : Nat => ⟨130, [(1, .loc 1 0), (3, .int .i64 i)], [(1, .var (encT n1 n2 n3 t))]⟩) (fun i => t.blocks.length - i)
            (fun i => i ≤ t.blocks.length ∧ (∀ k, k < i → blockValid (t.blk k) = true) ∧ ∀ j k, j < k → k < i → blockSum (t.blk j) ≠ blockSum (t.blk k)) 0 [(1, 1)] (Weak.of (by rfl) ?_ ?_ (by rfl)) ⟨by omega, fun k hk => by omega, fun j k _ hk => by omega⟩ ?_
          · simp (config := { maxSteps := 4000000 }) only [go_sem, Nat.reduceEqDiff, Nat.reduceAdd, Nat.reduceMul, Nat.reduceSub, Nat.reduceLT, Nat.reduceLeDiff, reduceIte, reduceCtorEq, Int.reduceToNat, Int.reduceLE, Int.reduceLT, Int.reduceEq, Int.reduceGT, Int.reduceGE, Int.reduceAdd, Int.reduceSub, Int.reduceNeg, Int.reduceMul, ↓bT, ↓bF, ↓backK_top, ↓backK_int, ↓backK_bool, ↓backK_sl, ↓backK_fn, ↓backK_agg, ↓backK_tup, ↓backK_pel, ↓backK_osl, ↓backK_may, ↓backK_box, ↓bothTT, ↓bothTF, ↓bothFT, ↓bothFF, bothTT, bothTF, bothFT, bothFF, ↓bothTT, ↓bothTF, ↓bothFT, ↓bothFF, ↓bothNT, ↓bothNF, ↓bothCT, ↓bothCF, Try.f96, encT, frW, wk2, wk1, wkL, wkB, hpW, List.mem_cons, Prod.mk.injEq, exists_eq_left, exists_eq_right, exists_eq]
          · simp (config := { maxSteps := 4000000 }) only [go_sem, Nat.reduceEqDiff, Nat.reduceAdd, Nat.reduceMul, Nat.reduceSub, Nat.reduceLT, Nat.reduceLeDiff, reduceIte, reduceCtorEq, Int.reduceToNat, Int.reduceLE, Int.reduceLT, Int.reduceEq, Int.reduceGT, Int.reduceGE, Int.reduceAdd, Int.reduceSub, Int.reduceNeg, Int.reduceMul, ↓bT, ↓bF, ↓backK_top, ↓backK_int, ↓backK_bool, ↓backK_sl, ↓backK_fn, ↓backK_agg, ↓backK_tup, ↓backK_pel, ↓backK_osl, ↓backK_may, ↓backK_box, ↓bothTT, ↓bothTF, ↓bothFT, ↓bothFF, bothTT, bothTF, bothFT, bothFF, ↓bothTT, ↓bothTF, ↓bothFT, ↓bothFF, ↓bothNT, ↓bothNF, ↓bothCT, ↓bothCF, Try.f96, frW, wk2, wk1, wkL, wkB, hpW, List.mem_cons, Prod.mk.injEq, exists_eq_left, exists_eq_right, exists_eq]
          · rintro i ⟨hi, hva, hdi⟩
            by_cases h : i < t.blocks.length
            · have hgi : (rows encB1 t.blocks).getD i [] = encB1 (t.blk i) := rows_gd encB1 t.blocks i h
              simp (config := { maxSteps := 4000000 }) only [go_sem, Nat.reduceEqDiff, Nat.reduceAdd, Nat.reduceMul, Nat.reduceSub, Nat.reduceLT, Nat.reduceLeDiff, reduceIte, reduceCtorEq, Int.reduceToNat, Int.reduceLE, Int.reduceLT, Int.reduceEq, Int.reduceGT, Int.reduceGE, Int.reduceAdd, Int.reduceSub, Int.reduceNeg, Int.reduceMul, ↓bT, ↓bF, ↓backK_top, ↓backK_int, ↓backK_bool, ↓backK_sl, ↓backK_fn, ↓backK_agg, ↓backK_tup, ↓backK_pel, ↓backK_osl, ↓backK_may, ↓backK_box, ↓bothTT, ↓bothTF, ↓bothFT, ↓bothFF, bothTT, bothTF, bothFT, bothFF, ↓bothTT, ↓bothTF, ↓bothFT, ↓bothFF, ↓bothNT, ↓bothNF, ↓bothCT, ↓bothCF, Try.f96, encT, rows_length, nlt h]
              refine semL_draw tab_ok mixed_ rfl (ord := [(0, []), (1, []), (2, []), (3, []), (4, []), (5, []), (6, []), (7, []), (8, []), (9, []), (10, []), (11, []), (12, []), (13, []), (16, []), (14, [8, 16]), (15, [16]), (17, []), (18, [])]) (by dsimp only; decide +kernel) ?_
              simp (config := { maxSteps := 4000000 }) only [go_sem, Nat.reduceEqDiff, Nat.reduceAdd, Nat.reduceMul, Nat.reduceSub, Nat.reduceLT, Nat.reduceLeDiff, reduceIte, reduceCtorEq, Int.reduceToNat, Int.reduceLE, Int.reduceLT, Int.reduceEq, Int.reduceGT, Int.reduceGE, Int.reduceAdd, Int.reduceSub, Int.reduceNeg, Int.reduceMul, ↓bT, ↓bF, ↓backK_top, ↓backK_int, ↓backK_bool, ↓backK_sl, ↓backK_fn, ↓backK_agg, ↓backK_tup, ↓backK_pel, ↓backK_osl, ↓backK_may, ↓backK_box, ↓bothTT, ↓bothTF, ↓bothFT, ↓bothFF, bothTT, bothTF, bothFT, bothFF, ↓bothTT, ↓bothTF, ↓bothFT, ↓bothFF, ↓bothNT, ↓bothNF, ↓bothCT, ↓bothCF, Try.f96, encT, rows_length, nlt h, nn0, hgi, encB1, encBk]
              refine CallTo.det (c_spec_BlockValid none (t.blk i) (hbl i h)) fun _ => ?_
              cases hv : blockValid (t.blk i) with
              | false =>
                have hn : treeValid t = false := treeValid_false fun hk => by have := hk.valid i h; rw [hv] at this; cases this
                simp (config := { maxSteps := 4000000 }) only [go_sem, Nat.reduceEqDiff, Nat.reduceAdd, Nat.reduceMul, Nat.reduceSub, Nat.reduceLT, Nat.reduceLeDiff, reduceIte, reduceCtorEq, Int.reduceToNat, Int.reduceLE, Int.reduceLT, Int.reduceEq, Int.reduceGT, Int.reduceGE, Int.reduceAdd, Int.reduceSub, Int.reduceNeg, Int.reduceMul, ↓bT, ↓bF, ↓backK_top, ↓backK_int, ↓backK_bool, ↓backK_sl, ↓backK_fn, ↓backK_agg, ↓backK_tup, ↓backK_pel, ↓backK_osl, ↓backK_may, ↓backK_box, ↓bothTT, ↓bothTF, ↓bothFT, ↓bothFF, bothTT, bothTF, bothFT, bothFF, ↓bothTT, ↓bothTF, ↓bothFT, ↓bothFF, ↓bothNT, ↓bothNF, ↓bothCT, ↓bothCF, Try.f96, hv, hn]
              | true =>
                simp (config := { maxSteps := 4000000 }) only [go_sem, Nat.reduceEqDiff, Nat.reduceAdd, Nat.reduceMul, Nat.reduceSub, Nat.reduceLT, Nat.reduceLeDiff, reduceIte, reduceCtorEq, Int.reduceToNat, Int.reduceLE, Int.reduceLT, Int.reduceEq, Int.reduceGT, Int.reduceGE, Int.reduceAdd, Int.reduceSub, Int.reduceNeg, Int.reduceMul, ↓bT, ↓bF, ↓backK_top, ↓backK_int, ↓backK_bool, ↓backK_sl, ↓backK_fn, ↓backK_agg, ↓backK_tup, ↓backK_pel, ↓backK_osl, ↓backK_may, ↓backK_box, ↓bothTT, ↓bothTF, ↓bothFT, ↓bothFF, bothTT, bothTF, bothFT, bothFF, ↓bothTT, ↓bothTF, ↓bothFT, ↓bothFF, ↓bothNT, ↓bothNF, ↓bothCT, ↓bothCF, Try.f96, encT, rows_length, nlt h, nn0, hgi, encB1, encBk, hv]
                refine CallTo.det (c_spec_BlockSum none (t.blk i) (hbl i h)) fun _ => ?_
                simp (config := { maxSteps := 4000000 }) only [go_sem, Nat.reduceEqDiff, Nat.reduceAdd, Nat.reduceMul, Nat.reduceSub, Nat.reduceLT, Nat.reduceLeDiff, reduceIte, reduceCtorEq, Int.reduceToNat, Int.reduceLE, Int.reduceLT, Int.reduceEq, Int.reduceGT, Int.reduceGE, Int.reduceAdd, Int.reduceSub, Int.reduceNeg, Int.reduceMul, ↓bT, ↓bF, ↓backK_top, ↓backK_int, ↓backK_bool, ↓backK_sl, ↓backK_fn, ↓backK_agg, ↓backK_tup, ↓backK_pel, ↓backK_osl, ↓backK_may, ↓backK_box, ↓bothTT, ↓bothTF, ↓bothFT, ↓bothFF, bothTT, bothTF, bothFT, bothFF, ↓bothTT, ↓bothTF, ↓bothFT, ↓bothFF, ↓bothNT, ↓bothNF, ↓bothCT, ↓bothCF, Try.f96, hv]
                refine CallTo.det (c_spec_find n1 n2 n3 t _ hx) fun _ => ?_
                cases hf : (findB t.blocks (blockSum (t.blk i)) != (i : Int)) with
                | true =>
                  have hn : treeValid t = false := treeValid_false fun hk => by
                    have := (findB_self t i h).2 fun k hki => hk.dist k i hki h
                    simp [this] at hf
                  simp (config := { maxSteps := 4000000 }) only [go_sem, Nat.reduceEqDiff, Nat.reduceAdd, Nat.reduceMul, Nat.reduceSub, Nat.reduceLT, Nat.reduceLeDiff, reduceIte, reduceCtorEq, Int.reduceToNat, Int.reduceLE, Int.reduceLT, Int.reduceEq, Int.reduceGT, Int.reduceGE, Int.reduceAdd, Int.reduceSub, Int.reduceNeg, Int.reduceMul, ↓bT, ↓bF, ↓backK_top, ↓backK_int, ↓backK_bool, ↓backK_sl, ↓backK_fn, ↓backK_agg, ↓backK_tup, ↓backK_pel, ↓backK_osl, ↓backK_may, ↓backK_box, ↓bothTT, ↓bothTF, ↓bothFT, ↓bothFF, bothTT, bothTF, bothFT, bothFF, ↓bothTT, ↓bothTF, ↓bothFT, ↓bothFF, ↓bothNT, ↓bothNF, ↓bothCT, ↓bothCF, Try.f96, hv, hf, hn]
                | false =>
                  have hf' := (findB_self t i h).1 (by simpa using hf)
                  simp (config := { maxSteps := 4000000 }) only [go_sem, Nat.reduceEqDiff, Nat.reduceAdd, Nat.reduceMul, Nat.reduceSub, Nat.reduceLT, Nat.reduceLeDiff, reduceIte, reduceCtorEq, Int.reduceToNat, Int.reduceLE, Int.reduceLT, Int.reduceEq, Int.reduceGT, Int.reduceGE, Int.reduceAdd, Int.reduceSub, Int.reduceNeg, Int.reduceMul, ↓bT, ↓bF, ↓backK_top, ↓backK_int, ↓backK_bool, ↓backK_sl, ↓backK_fn, ↓backK_agg, ↓backK_tup, ↓backK_pel, ↓backK_osl, ↓backK_may, ↓backK_box, ↓bothTT, ↓bothTF, ↓bothFT, ↓bothFF, bothTT, bothTF, bothFT, bothFF, ↓bothTT, ↓bothTF, ↓bothFT, ↓bothFF, ↓bothNT, ↓bothNF, ↓bothCT, ↓bothCF, Try.f96, hv, hf, wsucc h hx.blocks]
                  refine ⟨i + 1, [(1, 1)], ⟨by omega, fun k hk => ?_, fun j k hjk hk => ?_⟩, by dsimp only; omega, Weak.of (by rfl) ?_ ?_ (by rfl)⟩
                  · rcases Nat.lt_succ_iff_lt_or_eq.1 hk with hk | rfl
                    · exact hva k hk
                    · exact hv
                  · rcases Nat.lt_succ_iff_lt_or_eq.1 hk with hk | rfl
                    · exact hdi j k hjk hk
                    · exact hf' j hjk
                  · simp (config := { maxSteps := 4000000 }) only [go_sem, Nat.reduceEqDiff, Nat.reduceAdd, Nat.reduceMul, Nat.reduceSub, Nat.reduceLT, Nat.reduceLeDiff, reduceIte, reduceCtorEq, Int.reduceToNat, Int.reduceLE, Int.reduceLT, Int.reduceEq, Int.reduceGT, Int.reduceGE, Int.reduceAdd, Int.reduceSub, Int.reduceNeg, Int.reduceMul, ↓bT, ↓bF, ↓backK_top, ↓backK_int, ↓backK_bool, ↓backK_sl, ↓backK_fn, ↓backK_agg, ↓backK_tup, ↓backK_pel, ↓backK_osl, ↓backK_may, ↓backK_box, ↓bothTT, ↓bothTF, ↓bothFT, ↓bothFF, bothTT, bothTF, bothFT, bothFF, ↓bothTT, ↓bothTF, ↓bothFT, ↓bothFF, ↓bothNT, ↓bothNF, ↓bothCT, ↓bothCF, Try.f96, encT, frW, wk2, wk1, wkL, wkB, hpW, List.mem_cons, Prod.mk.injEq, exists_eq_left, exists_eq_right, exists_eq]
                  · simp (config := { maxSteps := 4000000 }) only [go_sem, Nat.reduceEqDiff, Nat.reduceAdd, Nat.reduceMul, Nat.reduceSub, Nat.reduceLT, Nat.reduceLeDiff, reduceIte, reduceCtorEq, Int.reduceToNat, Int.reduceLE, Int.reduceLT, Int.reduceEq, Int.reduceGT, Int.reduceGE, Int.reduceAdd, Int.reduceSub, Int.reduceNeg, Int.reduceMul, ↓bT, ↓bF, ↓backK_top, ↓backK_int, ↓backK_bool, ↓backK_sl, ↓backK_fn, ↓backK_agg, ↓backK_tup, ↓backK_pel, ↓backK_osl, ↓backK_may, ↓backK_box, ↓bothTT, ↓bothTF, ↓bothFT, ↓bothFF, bothTT, bothTF, bothFT, bothFF, ↓bothTT, ↓bothTF, ↓bothFT, ↓bothFF, ↓bothNT, ↓bothNF, ↓bothCT, ↓bothCF, Try.f96, frW, wk2, wk1, wkL, wkB, hpW, List.mem_cons, Prod.mk.injEq, exists_eq_left, exists_eq_right, exists_eq]
            · have : i = t.blocks.length := by omega
              subst this
              simp (config := { maxSteps := 4000000 }) only [go_sem, Nat.reduceEqDiff, Nat.reduceAdd, Nat.reduceMul, Nat.reduceSub, Nat.reduceLT, Nat.reduceLeDiff, reduceIte, reduceCtorEq, Int.reduceToNat, Int.reduceLE, Int.reduceLT, Int.reduceEq, Int.reduceGT, Int.reduceGE, Int.reduceAdd, Int.reduceSub, Int.reduceNeg, Int.reduceMul, ↓bT, ↓bF, ↓backK_top, ↓backK_int, ↓backK_bool, ↓backK_sl, ↓backK_fn, ↓backK_agg, ↓backK_tup, ↓backK_pel, ↓backK_osl, ↓backK_may, ↓backK_box, ↓bothTT, ↓bothTF, ↓bothFT, ↓bothFF, bothTT, bothTF, bothFT, bothFF, ↓bothTT, ↓bothTF, ↓bothFT, ↓bothFF, ↓bothNT, ↓bothNF, ↓bothCT, ↓bothCF, Try.f96, encT, rows_length, nlf h]
              refine semL_for tab_ok (fun i : Nat => ⟨130, [(1, .loc 1 0), (4, .int .i64 i)], [(1, .var (encT n1 n2 n3 t))]⟩) (fun i => t.blocks.length - i)
                (fun i => 0 < i ∧ i ≤ t.blocks.length ∧ ∀ k, 0 < k → k < i → Link t k) 1 [(1, 1)] (Weak.of (by rfl) ?_ ?_ (by rfl)) ⟨by omega, by omega, fun k _ hk => by omega⟩ ?_
              · simp (config := { maxSteps := 4000000 }) only [go_sem, Nat.reduceEqDiff, Nat.reduceAdd, Nat.reduceMul, Nat.reduceSub, Nat.reduceLT, Nat.reduceLeDiff, reduceIte, reduceCtorEq, Int.reduceToNat, Int.reduceLE, Int.reduceLT, Int.reduceEq, Int.reduceGT, Int.reduceGE, Int.reduceAdd, Int.reduceSub, Int.reduceNeg, Int.reduceMul, ↓bT, ↓bF, ↓backK_top, ↓backK_int, ↓backK_bool, ↓backK_sl, ↓backK_fn, ↓backK_agg, ↓backK_tup, ↓backK_pel, ↓backK_osl, ↓backK_may, ↓backK_box, ↓bothTT, ↓bothTF, ↓bothFT, ↓bothFF, bothTT, bothTF, bothFT, bothFF, ↓bothTT, ↓bothTF, ↓bothFT, ↓bothFF, ↓bothNT, ↓bothNF, ↓bothCT, ↓bothCF, Try.f96, encT, frW, wk2, wk1, wkL, wkB, hpW, List.mem_cons, Prod.mk.injEq, exists_eq_left, exists_eq_right, exists_eq]
              · simp (config := { maxSteps := 4000000 }) only [go_sem, Nat.reduceEqDiff, Nat.reduceAdd, Nat.reduceMul, Nat.reduceSub, Nat.reduceLT, Nat.reduceLeDiff, reduceIte, reduceCtorEq, Int.reduceToNat, Int.reduceLE, Int.reduceLT, Int.reduceEq, Int.reduceGT, Int.reduceGE, Int.reduceAdd, Int.reduceSub, Int.reduceNeg, Int.reduceMul, ↓bT, ↓bF, ↓backK_top, ↓backK_int, ↓backK_bool, ↓backK_sl, ↓backK_fn, ↓backK_agg, ↓backK_tup, ↓backK_pel, ↓backK_osl, ↓backK_may, ↓backK_box, ↓bothTT, ↓bothTF, ↓bothFT, ↓bothFF, bothTT, bothTF, bothFT, bothFF, ↓bothTT, ↓bothTF, ↓bothFT, ↓bothFF, ↓bothNT, ↓bothNF, ↓bothCT, ↓bothCF, Try.f96, show ((1 : Nat) : Int) = 1 from rfl, frW, wk2, wk1, wkL, wkB, hpW, List.mem_cons, Prod.mk.injEq, exists_eq_left, exists_eq_right, exists_eq]
              · rintro i ⟨hz, hi, hli⟩
                by_cases h : i < t.blocks.length
                · have hgi : (rows encB1 t.blocks).getD i [] = encB1 (t.blk i) := rows_gd encB1 t.blocks i h
                  have hib : i < t.before.length := by rw [h3]; exact h
                  have hgk : (rows encI t.before).getD i [] = [.int .i64 (t.bef i)] := by rw [rows_get _ _ i hib, t.bef_get i hib]; rfl
                  simp (config := { maxSteps := 4000000 }) only [go_sem, Nat.reduceEqDiff, Nat.reduceAdd, Nat.reduceMul, Nat.reduceSub, Nat.reduceLT, Nat.reduceLeDiff, reduceIte, reduceCtorEq, Int.reduceToNat, Int.reduceLE, Int.reduceLT, Int.reduceEq, Int.reduceGT, Int.reduceGE, Int.reduceAdd, Int.reduceSub, Int.reduceNeg, Int.reduceMul, ↓bT, ↓bF, ↓backK_top, ↓backK_int, ↓backK_bool, ↓backK_sl, ↓backK_fn, ↓backK_agg, ↓backK_tup, ↓backK_pel, ↓backK_osl, ↓backK_may, ↓backK_box, ↓bothTT, ↓bothTF, ↓bothFT, ↓bothFF, bothTT, bothTF, bothFT, bothFF, ↓bothTT, ↓bothTF, ↓bothFT, ↓bothFF, ↓bothNT, ↓bothNF, ↓bothCT, ↓bothCF, Try.f96, encT, rows_length, nlt h, nn0, nlt hib, hgk]
                  refine semL_draw tab_ok mixed_ rfl (ord := [(0, []), (1, []), (2, []), (3, []), (4, []), (5, []), (6, []), (7, []), (8, []), (9, []), (10, []), (12, []), (13, []), (14, []), (15, []), (16, []), (17, []), (11, [12, 13, 14, 15, 16, 17]), (18, []), (19, []), (20, []), (21, []), (22, []), (23, []), (24, []), (25, []), (26, []), (27, []), (28, []), (29, []), (30, []), (31, []), (32, []), (33, []), (34, []), (35, []), (36, []), (37, []), (38, []), (39, []), (40, []), (41, []), (42, []), (43, []), (44, []), (45, []), (46, []), (47, []), (48, []), (49, []), (50, [])]) (by dsimp only; decide +kernel) ?_
                  have hw1 : IntKind.i64.wrap ((i : Int) - 1) = (i : Int) - 1 := wrap_small _ (by omega) (by omega)
                  simp (config := { maxSteps := 4000000 }) only [go_sem, Nat.reduceEqDiff, Nat.reduceAdd, Nat.reduceMul, Nat.reduceSub, Nat.reduceLT, Nat.reduceLeDiff, reduceIte, reduceCtorEq, Int.reduceToNat, Int.reduceLE, Int.reduceLT, Int.reduceEq, Int.reduceGT, Int.reduceGE, Int.reduceAdd, Int.reduceSub, Int.reduceNeg, Int.reduceMul, ↓bT, ↓bF, ↓backK_top, ↓backK_int, ↓backK_bool, ↓backK_sl, ↓backK_fn, ↓backK_agg, ↓backK_tup, ↓backK_pel, ↓backK_osl, ↓backK_may, ↓backK_box, ↓bothTT, ↓bothTF, ↓bothFT, ↓bothFF, bothTT, bothTF, bothFT, bothFF, ↓bothTT, ↓bothTF, ↓bothFT, ↓bothFF, ↓bothNT, ↓bothNF, ↓bothCT, ↓bothCF, Try.f96, hw1]
                  refine CallTo.det (c_l1In _ _ _) fun _ => ?_
                  cases hin : inB (t.bef i) 0 ((i : Int) - 1) with
                  | false =>
                    have hn : treeValid t = false := treeValid_false fun hk => by
                      have := hk.link i hz h
                      have h1 := this.lo; have h2 := this.hi
                      rw [inB_iff.2 (by omega)] at hin; cases hin
                    simp (config := { maxSteps := 4000000 }) only [go_sem, Nat.reduceEqDiff, Nat.reduceAdd, Nat.reduceMul, Nat.reduceSub, Nat.reduceLT, Nat.reduceLeDiff, reduceIte, reduceCtorEq, Int.reduceToNat, Int.reduceLE, Int.reduceLT, Int.reduceEq, Int.reduceGT, Int.reduceGE, Int.reduceAdd, Int.reduceSub, Int.reduceNeg, Int.reduceMul, ↓bT, ↓bF, ↓backK_top, ↓backK_int, ↓backK_bool, ↓backK_sl, ↓backK_fn, ↓backK_agg, ↓backK_tup, ↓backK_pel, ↓backK_osl, ↓backK_may, ↓backK_box, ↓bothTT, ↓bothTF, ↓bothFT, ↓bothFF, bothTT, bothTF, bothFT, bothFF, ↓bothTT, ↓bothTF, ↓bothFT, ↓bothFF, ↓bothNT, ↓bothNF, ↓bothCT, ↓bothCF, Try.f96, hin, hn]
                  | true =>
                    have hin' := inB_iff.1 hin
                    obtain ⟨k, hk⟩ : ∃ k : Nat, t.bef i = (k : Int) := ⟨(t.bef i).toNat, by omega⟩
                    have hki : k < i := by omega
                    have hkn : k < t.blocks.length := by omega
                    have hgk2 : (rows encB1 t.blocks).getD k [] = encB1 (t.blk k) := rows_gd encB1 t.blocks k hkn
                    have hkt : (t.bef i).toNat = k := by omega
                    have hbk := blk_bd (hva k hkn)
                    have hbi := blk_bd (hva i h)
                    have hw2 : IntKind.i64.wrap ((t.blk i).height - 1) = (t.blk i).height - 1 := wrap_small _ (by omega) (by omega)
                    simp (config := { maxSteps := 4000000 }) only [go_sem, Nat.reduceEqDiff, Nat.reduceAdd, Nat.reduceMul, Nat.reduceSub, Nat.reduceLT, Nat.reduceLeDiff, reduceIte, reduceCtorEq, Int.reduceToNat, Int.reduceLE, Int.reduceLT, Int.reduceEq, Int.reduceGT, Int.reduceGE, Int.reduceAdd, Int.reduceSub, Int.reduceNeg, Int.reduceMul, ↓bT, ↓bF, ↓backK_top, ↓backK_int, ↓backK_bool, ↓backK_sl, ↓backK_fn, ↓backK_agg, ↓backK_tup, ↓backK_pel, ↓backK_osl, ↓backK_may, ↓backK_box, ↓bothTT, ↓bothTF, ↓bothFT, ↓bothFF, bothTT, bothTF, bothFT, bothFF, ↓bothTT, ↓bothTF, ↓bothFT, ↓bothFF, ↓bothNT, ↓bothNF, ↓bothCT, ↓bothCF, Try.f96, hin, hk, encT, encB1, encBk, hgk2, hgi, rows_length, nn0, nlt hkn, nlt h]
                    refine CallTo.det (c_spec_BlockSum none (t.blk k) (hbl k hkn)) fun _ => ?_
                    cases e1 : (blockSum (t.blk k) != (t.blk i).before) with
                    | true =>
                      have hn : treeValid t = false := treeValid_false fun hl => by
                        have := (hl.link i hz h).sum
                        rw [hkt] at this; simp [this] at e1
                      simp (config := { maxSteps := 4000000 }) only [go_sem, Nat.reduceEqDiff, Nat.reduceAdd, Nat.reduceMul, Nat.reduceSub, Nat.reduceLT, Nat.reduceLeDiff, reduceIte, reduceCtorEq, Int.reduceToNat, Int.reduceLE, Int.reduceLT, Int.reduceEq, Int.reduceGT, Int.reduceGE, Int.reduceAdd, Int.reduceSub, Int.reduceNeg, Int.reduceMul, ↓bT, ↓bF, ↓backK_top, ↓backK_int, ↓backK_bool, ↓backK_sl, ↓backK_fn, ↓backK_agg, ↓backK_tup, ↓backK_pel, ↓backK_osl, ↓backK_may, ↓backK_box, ↓bothTT, ↓bothTF, ↓bothFT, ↓bothFF, bothTT, bothTF, bothFT, bothFF, ↓bothTT, ↓bothTF, ↓bothFT, ↓bothFF, ↓bothNT, ↓bothNF, ↓bothCT, ↓bothCF, Try.f96, hin, hk, encT, encB1, encBk, hgk2, hgi, rows_length, nn0, nlt hkn, nlt h, hn, e1]
                    | false =>
                      cases e2 : ((t.blk k).height != (t.blk i).height - 1) with
                      | true =>
                        have hn : treeValid t = false := treeValid_false fun hl => by
                          have := (hl.link i hz h).height
                          rw [hkt] at this; simp at e2; omega
                        simp (config := { maxSteps := 4000000 }) only [go_sem, Nat.reduceEqDiff, Nat.reduceAdd, Nat.reduceMul, Nat.reduceSub, Nat.reduceLT, Nat.reduceLeDiff, reduceIte, reduceCtorEq, Int.reduceToNat, Int.reduceLE, Int.reduceLT, Int.reduceEq, Int.reduceGT, Int.reduceGE, Int.reduceAdd, Int.reduceSub, Int.reduceNeg, Int.reduceMul, ↓bT, ↓bF, ↓backK_top, ↓backK_int, ↓backK_bool, ↓backK_sl, ↓backK_fn, ↓backK_agg, ↓backK_tup, ↓backK_pel, ↓backK_osl, ↓backK_may, ↓backK_box, ↓bothTT, ↓bothTF, ↓bothFT, ↓bothFF, bothTT, bothTF, bothFT, bothFF, ↓bothTT, ↓bothTF, ↓bothFT, ↓bothFF, ↓bothNT, ↓bothNF, ↓bothCT, ↓bothCF, Try.f96, hin, hk, encT, encB1, encBk, hgk2, hgi, rows_length, nn0, nlt hkn, nlt h, hn, e1, e2, hw2]
                      | false =>
                        cases e3 : decide ((t.blk k).view ≥ (t.blk i).view) with
                        | true =>
                          have hn : treeValid t = false := treeValid_false fun hl => by
                            have := (hl.link i hz h).view
                            rw [hkt] at this
                            have := of_decide_eq_true e3
                            omega
                          simp (config := { maxSteps := 4000000 }) only [go_sem, Nat.reduceEqDiff, Nat.reduceAdd, Nat.reduceMul, Nat.reduceSub, Nat.reduceLT, Nat.reduceLeDiff, reduceIte, reduceCtorEq, Int.reduceToNat, Int.reduceLE, Int.reduceLT, Int.reduceEq, Int.reduceGT, Int.reduceGE, Int.reduceAdd, Int.reduceSub, Int.reduceNeg, Int.reduceMul, ↓bT, ↓bF, ↓backK_top, ↓backK_int, ↓backK_bool, ↓backK_sl, ↓backK_fn, ↓backK_agg, ↓backK_tup, ↓backK_pel, ↓backK_osl, ↓backK_may, ↓backK_box, ↓bothTT, ↓bothTF, ↓bothFT, ↓bothFF, bothTT, bothTF, bothFT, bothFF, ↓bothTT, ↓bothTF, ↓bothFT, ↓bothFF, ↓bothNT, ↓bothNF, ↓bothCT, ↓bothCF, Try.f96, hin, hk, encT, encB1, encBk, hgk2, hgi, rows_length, nn0, nlt hkn, nlt h, hn, e1, e2, e3, hw2]
                        | false =>
                          have e1' : blockSum (t.blk k) = (t.blk i).before := by simpa using e1
                          have e2' : (t.blk k).height = (t.blk i).height - 1 := by simpa using e2
                          have e3' := of_decide_eq_false e3
                          simp (config := { maxSteps := 4000000 }) only [go_sem, Nat.reduceEqDiff, Nat.reduceAdd, Nat.reduceMul, Nat.reduceSub, Nat.reduceLT, Nat.reduceLeDiff, reduceIte, reduceCtorEq, Int.reduceToNat, Int.reduceLE, Int.reduceLT, Int.reduceEq, Int.reduceGT, Int.reduceGE, Int.reduceAdd, Int.reduceSub, Int.reduceNeg, Int.reduceMul, ↓bT, ↓bF, ↓backK_top, ↓backK_int, ↓backK_bool, ↓backK_sl, ↓backK_fn, ↓backK_agg, ↓backK_tup, ↓backK_pel, ↓backK_osl, ↓backK_may, ↓backK_box, ↓bothTT, ↓bothTF, ↓bothFT, ↓bothFF, bothTT, bothTF, bothFT, bothFF, ↓bothTT, ↓bothTF, ↓bothFT, ↓bothFF, ↓bothNT, ↓bothNF, ↓bothCT, ↓bothCF, Try.f96, hin, hk, encT, encB1, encBk, hgk2, hgi, rows_length, nn0, nlt hkn, nlt h, e1, e2, e3, hw2, wsucc h hx.blocks]
                          refine ⟨i + 1, [(1, 1)], ⟨by omega, by omega, fun k' h0 hk' => ?_⟩, by dsimp only; omega, Weak.of (by rfl) ?_ ?_ (by rfl)⟩
                          · rcases Nat.lt_succ_iff_lt_or_eq.1 hk' with hk' | rfl
                            · exact hli k' h0 hk'
                            · exact ⟨by omega, by omega, by rw [hkt]; exact e1', by rw [hkt]; omega, by rw [hkt]; omega⟩
                          · simp (config := { maxSteps := 4000000 }) only [go_sem, Nat.reduceEqDiff, Nat.reduceAdd, Nat.reduceMul, Nat.reduceSub, Nat.reduceLT, Nat.reduceLeDiff, reduceIte, reduceCtorEq, Int.reduceToNat, Int.reduceLE, Int.reduceLT, Int.reduceEq, Int.reduceGT, Int.reduceGE, Int.reduceAdd, Int.reduceSub, Int.reduceNeg, Int.reduceMul, ↓bT, ↓bF, ↓backK_top, ↓backK_int, ↓backK_bool, ↓backK_sl, ↓backK_fn, ↓backK_agg, ↓backK_tup, ↓backK_pel, ↓backK_osl, ↓backK_may, ↓backK_box, ↓bothTT, ↓bothTF, ↓bothFT, ↓bothFF, bothTT, bothTF, bothFT, bothFF, ↓bothTT, ↓bothTF, ↓bothFT, ↓bothFF, ↓bothNT, ↓bothNF, ↓bothCT, ↓bothCF, Try.f96, encT, frW, wk2, wk1, wkL, wkB, hpW, List.mem_cons, Prod.mk.injEq, exists_eq_left, exists_eq_right, exists_eq]
                          · simp (config := { maxSteps := 4000000 }) only [go_sem, Nat.reduceEqDiff, Nat.reduceAdd, Nat.reduceMul, Nat.reduceSub, Nat.reduceLT, Nat.reduceLeDiff, reduceIte, reduceCtorEq, Int.reduceToNat, Int.reduceLE, Int.reduceLT, Int.reduceEq, Int.reduceGT, Int.reduceGE, Int.reduceAdd, Int.reduceSub, Int.reduceNeg, Int.reduceMul, ↓bT, ↓bF, ↓backK_top, ↓backK_int, ↓backK_bool, ↓backK_sl, ↓backK_fn, ↓backK_agg, ↓backK_tup, ↓backK_pel, ↓backK_osl, ↓backK_may, ↓backK_box, ↓bothTT, ↓bothTF, ↓bothFT, ↓bothFF, bothTT, bothTF, bothFT, bothFF, ↓bothTT, ↓bothTF, ↓bothFT, ↓bothFF, ↓bothNT, ↓bothNF, ↓bothCT, ↓bothCF, Try.f96, frW, wk2, wk1, wkL, wkB, hpW, List.mem_cons, Prod.mk.injEq, exists_eq_left, exists_eq_right, exists_eq]
                · have : i = t.blocks.length := by omega
                  subst this
                  simp (config := { maxSteps := 4000000 }) only [go_sem, Nat.reduceEqDiff, Nat.reduceAdd, Nat.reduceMul, Nat.reduceSub, Nat.reduceLT, Nat.reduceLeDiff, reduceIte, reduceCtorEq, Int.reduceToNat, Int.reduceLE, Int.reduceLT, Int.reduceEq, Int.reduceGT, Int.reduceGE, Int.reduceAdd, Int.reduceSub, Int.reduceNeg, Int.reduceMul, ↓bT, ↓bF, ↓backK_top, ↓backK_int, ↓backK_bool, ↓backK_sl, ↓backK_fn, ↓backK_agg, ↓backK_tup, ↓backK_pel, ↓backK_osl, ↓backK_may, ↓backK_box, ↓bothTT, ↓bothTF, ↓bothFT, ↓bothFF, bothTT, bothTF, bothFT, bothFF, ↓bothTT, ↓bothTF, ↓bothFT, ↓bothFF, ↓bothNT, ↓bothNF, ↓bothCT, ↓bothCF, Try.f96, encT, rows_length, nlf h]
                  refine semL_draw tab_ok mixed_ rfl (ord := [(0, []), (1, []), (2, []), (3, []), (4, []), (5, []), (6, [0, 1, 2, 3]), (7, []), (8, [])]) (by dsimp only; decide +kernel) ?_
                  simp (config := { maxSteps := 4000000 }) only [go_sem, Nat.reduceEqDiff, Nat.reduceAdd, Nat.reduceMul, Nat.reduceSub, Nat.reduceLT, Nat.reduceLeDiff, reduceIte, reduceCtorEq, Int.reduceToNat, Int.reduceLE, Int.reduceLT, Int.reduceEq, Int.reduceGT, Int.reduceGE, Int.reduceAdd, Int.reduceSub, Int.reduceNeg, Int.reduceMul, ↓bT, ↓bF, ↓backK_top, ↓backK_int, ↓backK_bool, ↓backK_sl, ↓backK_fn, ↓backK_agg, ↓backK_tup, ↓backK_pel, ↓backK_osl, ↓backK_may, ↓backK_box, ↓bothTT, ↓bothTF, ↓bothFT, ↓bothFF, bothTT, bothTF, bothFT, bothFF, ↓bothTT, ↓bothTF, ↓bothFT, ↓bothFF, ↓bothNT, ↓bothNF, ↓bothCT, ↓bothCF, Try.f96, encT, rows_length, hp0, hg0, encB1, encBk]
                  refine CallTo.det (c_spec_FirstBlock _ _ hx.base) fun _ => ?_
                  simp (config := { maxSteps := 4000000 }) only [go_sem, Nat.reduceEqDiff, Nat.reduceAdd, Nat.reduceMul, Nat.reduceSub, Nat.reduceLT, Nat.reduceLeDiff, reduceIte, reduceCtorEq, Int.reduceToNat, Int.reduceLE, Int.reduceLT, Int.reduceEq, Int.reduceGT, Int.reduceGE, Int.reduceAdd, Int.reduceSub, Int.reduceNeg, Int.reduceMul, ↓bT, ↓bF, ↓backK_top, ↓backK_int, ↓backK_bool, ↓backK_sl, ↓backK_fn, ↓backK_agg, ↓backK_tup, ↓backK_pel, ↓backK_osl, ↓backK_may, ↓backK_box, ↓bothTT, ↓bothTF, ↓bothFT, ↓bothFF, bothTT, bothTF, bothFT, bothFF, ↓bothTT, ↓bothTF, ↓bothFT, ↓bothFF, ↓bothNT, ↓bothNF, ↓bothCT, ↓bothCF, Try.f96, encT, rows_length, hp0, hg0, encB1, encBk]
                  refine CallTo.det (c_spec_same none none (t.blk 0) (firstBlock t.base) (hbl 0 h0) hfl) fun _ => ?_
                  have hr : sameB (t.blk 0) (firstBlock t.base) = treeValid t := by
                    cases h4 : sameB (t.blk 0) (firstBlock t.base) with
                    | true => exact (treeValid_true ⟨h1, by omega, h3, (sameB_iff _ _).1 h4, h5, hva, hdi, hli⟩).symm
                    | false => exact (treeValid_false fun h => by rw [(sameB_iff _ _).2 h.first] at h4; cases h4).symm
                  simp (config := { maxSteps := 4000000 }) only [go_sem, Nat.reduceEqDiff, Nat.reduceAdd, Nat.reduceMul, Nat.reduceSub, Nat.reduceLT, Nat.reduceLeDiff, reduceIte, reduceCtorEq, Int.reduceToNat, Int.reduceLE, Int.reduceLT, Int.reduceEq, Int.reduceGT, Int.reduceGE, Int.reduceAdd, Int.reduceSub, Int.reduceNeg, Int.reduceMul, ↓bT, ↓bF, ↓backK_top, ↓backK_int, ↓backK_bool, ↓backK_sl, ↓backK_fn, ↓backK_agg, ↓backK_tup, ↓backK_pel, ↓backK_osl, ↓backK_may, ↓backK_box, ↓bothTT, ↓bothTF, ↓bothFT, ↓bothFF, bothTT, bothTF, bothFT, bothFF, ↓bothTT, ↓bothTF, ↓bothFT, ↓bothFF, ↓bothNT, ↓bothNF, ↓bothCT, ↓bothCF, Try.f96, encT, rows_length, hp0, hg0, encB1, encBk, hr]
        · have hd5 : (t.bef 0 != -1) = true := by simp [h5]
          have hn : treeValid t = false := treeValid_false fun h => h5 h.bef0
          simp (config := { maxSteps := 4000000 }) only [go_sem, Nat.reduceEqDiff, Nat.reduceAdd, Nat.reduceMul, Nat.reduceSub, Nat.reduceLT, Nat.reduceLeDiff, reduceIte, reduceCtorEq, Int.reduceToNat, Int.reduceLE, Int.reduceLT, Int.reduceEq, Int.reduceGT, Int.reduceGE, Int.reduceAdd, Int.reduceSub, Int.reduceNeg, Int.reduceMul, ↓bT, ↓bF, ↓backK_top, ↓backK_int, ↓backK_bool, ↓backK_sl, ↓backK_fn, ↓backK_agg, ↓backK_tup, ↓backK_pel, ↓backK_osl, ↓backK_may, ↓backK_box, ↓bothTT, ↓bothTF, ↓bothFT, ↓bothFF, bothTT, bothTF, bothFT, bothFF, ↓bothTT, ↓bothTF, ↓bothFT, ↓bothFF, ↓bothNT, ↓bothNF, ↓bothCT, ↓bothCF, Try.f96, h1, h2, hd, hd5, hn, rows_length, hq0, hgb]
      · have hd : ((t.before.length : Int) != (t.blocks.length : Int)) = true := by simp; omega
        have hn : treeValid t = false := treeValid_false fun h => h3 h.bef
        simp (config := { maxSteps := 4000000 }) only [go_sem, Nat.reduceEqDiff, Nat.reduceAdd, Nat.reduceMul, Nat.reduceSub, Nat.reduceLT, Nat.reduceLeDiff, reduceIte, reduceCtorEq, Int.reduceToNat, Int.reduceLE, Int.reduceLT, Int.reduceEq, Int.reduceGT, Int.reduceGE, Int.reduceAdd, Int.reduceSub, Int.reduceNeg, Int.reduceMul, ↓bT, ↓bF, ↓backK_top, ↓backK_int, ↓backK_bool, ↓backK_sl, ↓backK_fn, ↓backK_agg, ↓backK_tup, ↓backK_pel, ↓backK_osl, ↓backK_may, ↓backK_box, ↓bothTT, ↓bothTF, ↓bothFT, ↓bothFF, bothTT, bothTF, bothFT, bothFF, ↓bothTT, ↓bothTF, ↓bothFT, ↓bothFF, ↓bothNT, ↓bothNF, ↓bothCT, ↓bothCF, Try.f96, h1, h2, hd, hn, rows_length]

end Go.Proofs.Ytdaemhaecjldaaa

/- Contracts: votes. -/
set_option linter.unusedSimpArgs false
set_option linter.unusedVariables false
set_option maxRecDepth 20000
set_option maxHeartbeats 4000000
namespace Go.Proofs.Ytdaemhaecjldaaa
open Go Go.RowKit

structure Voter where
  last : Int
  lock : Int
deriving DecidableEq, Inhabited

def encV (v : Voter) : List AV := [.int .i64 v.last, .int .i64 v.lock]

theorem c_impl_has (n1 n2 n3 : Option Bool) (t : Tree) (n : Int) (hx : TreeSz t) : Det Try.prog 100 [.agg (encT n1 n2 n3 t), .int .i64 n] (.bool (inB n 0 ((t.blocks.length : Int) - 1))) := by
  refine fspec_det tab_ok Try.call100 Try.func100 rfl 11 Try.ntmps100 (of_decide_eq_true rfl) fun B => codeK_sound tab_ok _ _ _ ?_
  unfold encT
  have hw : IntKind.i64.wrap ((t.blocks.length : Int) - 1) = (t.blocks.length : Int) - 1 := wrap_small _ (by omega) (by have := hx.blocks; omega)
  simp (config := { maxSteps := 4000000 }) only [go_sem, Nat.reduceEqDiff, Nat.reduceAdd, Nat.reduceMul, Nat.reduceSub, Nat.reduceLT, Nat.reduceLeDiff, reduceIte, reduceCtorEq, Int.reduceToNat, Int.reduceLE, Int.reduceLT, Int.reduceEq, Int.reduceGT, Int.reduceGE, Int.reduceAdd, Int.reduceSub, Int.reduceNeg, Int.reduceMul, ↓bT, ↓bF, ↓backK_top, ↓backK_int, ↓backK_bool, ↓backK_sl, ↓backK_fn, ↓backK_agg, ↓backK_tup, ↓backK_pel, ↓backK_osl, ↓backK_may, ↓backK_box, ↓bothTT, ↓bothTF, ↓bothFT, ↓bothFF, bothTT, bothTF, bothFT, bothFF, ↓bothTT, ↓bothTF, ↓bothFT, ↓bothFF, ↓bothNT, ↓bothNF, ↓bothCT, ↓bothCF, Try.f100, rows_length, hw]
  refine CallTo.det (c_in _ _ _) fun _ => ?_
  simp (config := { maxSteps := 4000000 }) only [go_sem, Nat.reduceEqDiff, Nat.reduceAdd, Nat.reduceMul, Nat.reduceSub, Nat.reduceLT, Nat.reduceLeDiff, reduceIte, reduceCtorEq, Int.reduceToNat, Int.reduceLE, Int.reduceLT, Int.reduceEq, Int.reduceGT, Int.reduceGE, Int.reduceAdd, Int.reduceSub, Int.reduceNeg, Int.reduceMul, ↓bT, ↓bF, ↓backK_top, ↓backK_int, ↓backK_bool, ↓backK_sl, ↓backK_fn, ↓backK_agg, ↓backK_tup, ↓backK_pel, ↓backK_osl, ↓backK_may, ↓backK_box, ↓bothTT, ↓bothTF, ↓bothFT, ↓bothFF, bothTT, bothTF, bothFT, bothFF, ↓bothTT, ↓bothTF, ↓bothFT, ↓bothFF, ↓bothNT, ↓bothNF, ↓bothCT, ↓bothCF, Try.f100]

/-- A voter may vote for a block. -/
structure MayOk (v : Voter) (t : Tree) (c : List Bool) (n : Int) : Prop where
  vv : voterValid v.last v.lock = true
  tree : TreeOk t
  len : c.length = t.blocks.length
  n1 : 1 ≤ n
  n2 : n < t.blocks.length
  cert : c.getD (t.bef n.toNat).toNat false = true
  last : (t.blk n.toNat).view > v.last
  lock : (t.blk (t.bef n.toNat).toNat).view ≥ v.lock

open Classical in
noncomputable def mayVote (v : Voter) (t : Tree) (c : List Bool) (n : Int) : Bool := decide (MayOk v t c n)

theorem may_false {v : Voter} {t : Tree} {c : List Bool} {n : Int} (h : ¬ MayOk v t c n) : mayVote v t c n = false := by simp [mayVote, h]
theorem may_true {v : Voter} {t : Tree} {c : List Bool} {n : Int} (h : MayOk v t c n) : mayVote v t c n = true := by simp [mayVote, h]
theorem mayOk_of {v : Voter} {t : Tree} {c : List Bool} {n : Int} (h : mayVote v t c n = true) : MayOk v t c n := by simpa [mayVote] using h

/-- What is needed of a block and the one before it. -/
theorem may_facts {t : Tree} (ht : TreeOk t) {c : List Bool} (hc : c.length = t.blocks.length) {n : Int} (h1 : 1 ≤ n) (h2 : n < t.blocks.length) :
    ∃ j k : Nat, n = (j : Int) ∧ 0 < j ∧ j < t.blocks.length ∧ j < t.before.length ∧ k < j ∧ t.bef j = (k : Int) ∧
      (rows encI t.before).getD j [] = [.int .i64 (k : Int)] ∧ (rows encB1 t.blocks).getD j [] = encB1 (t.blk j) ∧ (rows encB1 t.blocks).getD k [] = encB1 (t.blk k) ∧ (boolRows c).getD k [] = [.bool (c.getD k false)] := by
  obtain ⟨j, rfl⟩ : ∃ j : Nat, n = (j : Int) := ⟨n.toNat, by omega⟩
  have hj : j < t.blocks.length := by omega
  have hl := ht.link j (by omega) hj
  obtain ⟨k, hk⟩ : ∃ k : Nat, t.bef j = (k : Int) := ⟨(t.bef j).toNat, by have := hl.lo; omega⟩
  have hkj : k < j := by have := hl.hi; omega
  have hjb : j < t.before.length := by rw [ht.bef]; exact hj
  exact ⟨j, k, rfl, by omega, hj, hjb, hkj, hk, by rw [rows_get _ _ j hjb, t.bef_get j hjb, hk]; rfl, rows_gd _ _ j hj, rows_gd _ _ k (by omega), boolRows_get c k (by omega)⟩

theorem c_impl_MayVote (n1 n2 n3 n4 : Option Bool) (v : Voter) (t : Tree) (c : List Bool) (n : Int) (hx : TreeSz t) (hc : c.length < 2 ^ 62) :
    Det Try.prog 36 [.agg (encV v), .agg (encT n1 n2 n3 t), .sl n4 (boolRows c), .int .i64 n] (.bool (mayVote v t c n)) := by
  refine fspec_det tab_ok Try.call36 Try.func36 rfl 67 Try.ntmps36 (of_decide_eq_true rfl) fun B => codeK_sound tab_ok _ _ _ ?_
  unfold encT encV
  simp (config := { maxSteps := 4000000 }) only [go_sem, Nat.reduceEqDiff, Nat.reduceAdd, Nat.reduceMul, Nat.reduceSub, Nat.reduceLT, Nat.reduceLeDiff, reduceIte, reduceCtorEq, Int.reduceToNat, Int.reduceLE, Int.reduceLT, Int.reduceEq, Int.reduceGT, Int.reduceGE, Int.reduceAdd, Int.reduceSub, Int.reduceNeg, Int.reduceMul, ↓bT, ↓bF, ↓backK_top, ↓backK_int, ↓backK_bool, ↓backK_sl, ↓backK_fn, ↓backK_agg, ↓backK_tup, ↓backK_pel, ↓backK_osl, ↓backK_may, ↓backK_box, ↓bothTT, ↓bothTF, ↓bothFT, ↓bothFF, bothTT, bothTF, bothFT, bothFF, ↓bothTT, ↓bothTF, ↓bothFT, ↓bothFF, ↓bothNT, ↓bothNF, ↓bothCT, ↓bothCF, Try.f36]
  refine CallTo.det (c_impl_VoterValid _ _) fun _ => ?_
  cases h1 : voterValid v.last v.lock with
  | false =>
    have hn : mayVote v t c n = false := may_false fun h => by have := h.vv; rw [h1] at this; cases this
    simp (config := { maxSteps := 4000000 }) only [go_sem, Nat.reduceEqDiff, Nat.reduceAdd, Nat.reduceMul, Nat.reduceSub, Nat.reduceLT, Nat.reduceLeDiff, reduceIte, reduceCtorEq, Int.reduceToNat, Int.reduceLE, Int.reduceLT, Int.reduceEq, Int.reduceGT, Int.reduceGE, Int.reduceAdd, Int.reduceSub, Int.reduceNeg, Int.reduceMul, ↓bT, ↓bF, ↓backK_top, ↓backK_int, ↓backK_bool, ↓backK_sl, ↓backK_fn, ↓backK_agg, ↓backK_tup, ↓backK_pel, ↓backK_osl, ↓backK_may, ↓backK_box, ↓bothTT, ↓bothTF, ↓bothFT, ↓bothFF, bothTT, bothTF, bothFT, bothFF, ↓bothTT, ↓bothTF, ↓bothFT, ↓bothFF, ↓bothNT, ↓bothNF, ↓bothCT, ↓bothCF, Try.f36, h1, hn]
  | true =>
    simp (config := { maxSteps := 4000000 }) only [go_sem, Nat.reduceEqDiff, Nat.reduceAdd, Nat.reduceMul, Nat.reduceSub, Nat.reduceLT, Nat.reduceLeDiff, reduceIte, reduceCtorEq, Int.reduceToNat, Int.reduceLE, Int.reduceLT, Int.reduceEq, Int.reduceGT, Int.reduceGE, Int.reduceAdd, Int.reduceSub, Int.reduceNeg, Int.reduceMul, ↓bT, ↓bF, ↓backK_top, ↓backK_int, ↓backK_bool, ↓backK_sl, ↓backK_fn, ↓backK_agg, ↓backK_tup, ↓backK_pel, ↓backK_osl, ↓backK_may, ↓backK_box, ↓bothTT, ↓bothTF, ↓bothFT, ↓bothFF, bothTT, bothTF, bothFT, bothFF, ↓bothTT, ↓bothTF, ↓bothFT, ↓bothFF, ↓bothNT, ↓bothNF, ↓bothCT, ↓bothCF, Try.f36, h1]
    refine CallTo.det (c_impl_BlockTreeValid n1 n2 n3 t hx) fun _ => ?_
    cases h2 : treeValid t with
    | false =>
      have hn : mayVote v t c n = false := may_false fun h => by rw [treeValid_true h.tree] at h2; cases h2
      simp (config := { maxSteps := 4000000 }) only [go_sem, Nat.reduceEqDiff, Nat.reduceAdd, Nat.reduceMul, Nat.reduceSub, Nat.reduceLT, Nat.reduceLeDiff, reduceIte, reduceCtorEq, Int.reduceToNat, Int.reduceLE, Int.reduceLT, Int.reduceEq, Int.reduceGT, Int.reduceGE, Int.reduceAdd, Int.reduceSub, Int.reduceNeg, Int.reduceMul, ↓bT, ↓bF, ↓backK_top, ↓backK_int, ↓backK_bool, ↓backK_sl, ↓backK_fn, ↓backK_agg, ↓backK_tup, ↓backK_pel, ↓backK_osl, ↓backK_may, ↓backK_box, ↓bothTT, ↓bothTF, ↓bothFT, ↓bothFF, bothTT, bothTF, bothFT, bothFF, ↓bothTT, ↓bothTF, ↓bothFT, ↓bothFF, ↓bothNT, ↓bothNF, ↓bothCT, ↓bothCF, Try.f36, h1, h2, hn]
    | true =>
      have ht := treeOk_of h2
      by_cases h3 : c.length = t.blocks.length
      · have hd : ((c.length : Int) != (t.blocks.length : Int)) = false := by simp [h3]
        simp (config := { maxSteps := 4000000 }) only [go_sem, Nat.reduceEqDiff, Nat.reduceAdd, Nat.reduceMul, Nat.reduceSub, Nat.reduceLT, Nat.reduceLeDiff, reduceIte, reduceCtorEq, Int.reduceToNat, Int.reduceLE, Int.reduceLT, Int.reduceEq, Int.reduceGT, Int.reduceGE, Int.reduceAdd, Int.reduceSub, Int.reduceNeg, Int.reduceMul, ↓bT, ↓bF, ↓backK_top, ↓backK_int, ↓backK_bool, ↓backK_sl, ↓backK_fn, ↓backK_agg, ↓backK_tup, ↓backK_pel, ↓backK_osl, ↓backK_may, ↓backK_box, ↓bothTT, ↓bothTF, ↓bothFT, ↓bothFF, bothTT, bothTF, bothFT, bothFF, ↓bothTT, ↓bothTF, ↓bothFT, ↓bothFF, ↓bothNT, ↓bothNF, ↓bothCT, ↓bothCF, Try.f36, h1, h2, hd, rows_length, boolRows_length]
        refine CallTo.det (c_impl_has n1 n2 n3 t n hx) fun _ => ?_
        cases h4 : inB n 0 ((t.blocks.length : Int) - 1) with
        | false =>
          have hn : mayVote v t c n = false := may_false fun h => by
            have := h.n1; have := h.n2
            rw [inB_iff.2 (by omega)] at h4; cases h4
          simp (config := { maxSteps := 4000000 }) only [go_sem, Nat.reduceEqDiff, Nat.reduceAdd, Nat.reduceMul, Nat.reduceSub, Nat.reduceLT, Nat.reduceLeDiff, reduceIte, reduceCtorEq, Int.reduceToNat, Int.reduceLE, Int.reduceLT, Int.reduceEq, Int.reduceGT, Int.reduceGE, Int.reduceAdd, Int.reduceSub, Int.reduceNeg, Int.reduceMul, ↓bT, ↓bF, ↓backK_top, ↓backK_int, ↓backK_bool, ↓backK_sl, ↓backK_fn, ↓backK_agg, ↓backK_tup, ↓backK_pel, ↓backK_osl, ↓backK_may, ↓backK_box, ↓bothTT, ↓bothTF, ↓bothFT, ↓bothFF, bothTT, bothTF, bothFT, bothFF, ↓bothTT, ↓bothTF, ↓bothFT, ↓bothFF, ↓bothNT, ↓bothNF, ↓bothCT, ↓bothCF, Try.f36, h1, h2, hd, h4, hn]
        | true =>
          have h4' := inB_iff.1 h4
          by_cases h5 : n = 0
          · have hd5 : (n == 0) = true := by simp [h5]
            have hn : mayVote v t c n = false := may_false fun h => by have := h.n1; omega
            simp (config := { maxSteps := 4000000 }) only [go_sem, Nat.reduceEqDiff, Nat.reduceAdd, Nat.reduceMul, Nat.reduceSub, Nat.reduceLT, Nat.reduceLeDiff, reduceIte, reduceCtorEq, Int.reduceToNat, Int.reduceLE, Int.reduceLT, Int.reduceEq, Int.reduceGT, Int.reduceGE, Int.reduceAdd, Int.reduceSub, Int.reduceNeg, Int.reduceMul, ↓bT, ↓bF, ↓backK_top, ↓backK_int, ↓backK_bool, ↓backK_sl, ↓backK_fn, ↓backK_agg, ↓backK_tup, ↓backK_pel, ↓backK_osl, ↓backK_may, ↓backK_box, ↓bothTT, ↓bothTF, ↓bothFT, ↓bothFF, bothTT, bothTF, bothFT, bothFF, ↓bothTT, ↓bothTF, ↓bothFT, ↓bothFF, ↓bothNT, ↓bothNF, ↓bothCT, ↓bothCF, Try.f36, h1, h2, hd, h4, hd5, hn]
          · have hd5 : (n == 0) = false := by simp [h5]
            obtain ⟨j, k, rfl, hj0, hj, hjb, hkj, hk, g1, g2, g3, g4⟩ := may_facts ht h3 (n := n) (by omega) (by omega)
            have hkn : k < t.blocks.length := by omega
            have hkc : k < c.length := by omega
            simp (config := { maxSteps := 4000000 }) only [go_sem, Nat.reduceEqDiff, Nat.reduceAdd, Nat.reduceMul, Nat.reduceSub, Nat.reduceLT, Nat.reduceLeDiff, reduceIte, reduceCtorEq, Int.reduceToNat, Int.reduceLE, Int.reduceLT, Int.reduceEq, Int.reduceGT, Int.reduceGE, Int.reduceAdd, Int.reduceSub, Int.reduceNeg, Int.reduceMul, ↓bT, ↓bF, ↓backK_top, ↓backK_int, ↓backK_bool, ↓backK_sl, ↓backK_fn, ↓backK_agg, ↓backK_tup, ↓backK_pel, ↓backK_osl, ↓backK_may, ↓backK_box, ↓bothTT, ↓bothTF, ↓bothFT, ↓bothFF, bothTT, bothTF, bothFT, bothFF, ↓bothTT, ↓bothTF, ↓bothFT, ↓bothFF, ↓bothNT, ↓bothNF, ↓bothCT, ↓bothCF, Try.f36, h1, h2, hd, h4, hd5, rows_length, nn0, nlt hjb, g1]
            refine semL_draw tab_ok mixed_ rfl (ord := [(0, []), (1, []), (2, []), (3, []), (4, []), (5, []), (6, []), (7, []), (8, []), (9, []), (10, []), (11, []), (12, []), (13, []), (14, []), (15, []), (16, []), (17, []), (18, []), (19, []), (20, []), (21, []), (22, []), (23, []), (24, []), (25, []), (26, [])]) (by dsimp only; decide +kernel) ?_
            cases h6 : c.getD k false with
            | false =>
              have hn : mayVote v t c j = false := may_false fun h => by
                have := h.cert
                rw [Int.toNat_natCast, hk, Int.toNat_natCast, h6] at this; cases this
              simp (config := { maxSteps := 4000000 }) only [go_sem, Nat.reduceEqDiff, Nat.reduceAdd, Nat.reduceMul, Nat.reduceSub, Nat.reduceLT, Nat.reduceLeDiff, reduceIte, reduceCtorEq, Int.reduceToNat, Int.reduceLE, Int.reduceLT, Int.reduceEq, Int.reduceGT, Int.reduceGE, Int.reduceAdd, Int.reduceSub, Int.reduceNeg, Int.reduceMul, ↓bT, ↓bF, ↓backK_top, ↓backK_int, ↓backK_bool, ↓backK_sl, ↓backK_fn, ↓backK_agg, ↓backK_tup, ↓backK_pel, ↓backK_osl, ↓backK_may, ↓backK_box, ↓bothTT, ↓bothTF, ↓bothFT, ↓bothFF, bothTT, bothTF, bothFT, bothFF, ↓bothTT, ↓bothTF, ↓bothFT, ↓bothFF, ↓bothNT, ↓bothNF, ↓bothCT, ↓bothCF, Try.f36, boolRows_length, nn0, nlt hkc, g4, h6, hn]
            | true =>
              cases h7 : decide ((t.blk j).view > v.last) with
              | false =>
                have hn : mayVote v t c j = false := may_false fun h => by
                  have := h.last
                  rw [Int.toNat_natCast] at this; exact of_decide_eq_false h7 this
                simp (config := { maxSteps := 4000000 }) only [go_sem, Nat.reduceEqDiff, Nat.reduceAdd, Nat.reduceMul, Nat.reduceSub, Nat.reduceLT, Nat.reduceLeDiff, reduceIte, reduceCtorEq, Int.reduceToNat, Int.reduceLE, Int.reduceLT, Int.reduceEq, Int.reduceGT, Int.reduceGE, Int.reduceAdd, Int.reduceSub, Int.reduceNeg, Int.reduceMul, ↓bT, ↓bF, ↓backK_top, ↓backK_int, ↓backK_bool, ↓backK_sl, ↓backK_fn, ↓backK_agg, ↓backK_tup, ↓backK_pel, ↓backK_osl, ↓backK_may, ↓backK_box, ↓bothTT, ↓bothTF, ↓bothFT, ↓bothFF, bothTT, bothTF, bothFT, bothFF, ↓bothTT, ↓bothTF, ↓bothFT, ↓bothFF, ↓bothNT, ↓bothNF, ↓bothCT, ↓bothCF, Try.f36, boolRows_length, rows_length, nn0, nlt hkc, nlt hj, g2, g4, encB1, encBk, h6, h7, hn]
              | true =>
                have hr : decide ((t.blk k).view ≥ v.lock) = mayVote v t c j := by
                  cases h8 : decide ((t.blk k).view ≥ v.lock) with
                  | true => exact (may_true ⟨h1, ht, h3, by omega, by omega, by rw [Int.toNat_natCast, hk]; exact h6, by rw [Int.toNat_natCast]; exact of_decide_eq_true h7, by rw [Int.toNat_natCast, hk]; exact of_decide_eq_true h8⟩).symm
                  | false => exact (may_false fun h => by have := h.lock; rw [Int.toNat_natCast, hk] at this; exact of_decide_eq_false h8 this).symm
                simp (config := { maxSteps := 4000000 }) only [go_sem, Nat.reduceEqDiff, Nat.reduceAdd, Nat.reduceMul, Nat.reduceSub, Nat.reduceLT, Nat.reduceLeDiff, reduceIte, reduceCtorEq, Int.reduceToNat, Int.reduceLE, Int.reduceLT, Int.reduceEq, Int.reduceGT, Int.reduceGE, Int.reduceAdd, Int.reduceSub, Int.reduceNeg, Int.reduceMul, ↓bT, ↓bF, ↓backK_top, ↓backK_int, ↓backK_bool, ↓backK_sl, ↓backK_fn, ↓backK_agg, ↓backK_tup, ↓backK_pel, ↓backK_osl, ↓backK_may, ↓backK_box, ↓bothTT, ↓bothTF, ↓bothFT, ↓bothFF, bothTT, bothTF, bothFT, bothFF, ↓bothTT, ↓bothTF, ↓bothFT, ↓bothFF, ↓bothNT, ↓bothNF, ↓bothCT, ↓bothCF, Try.f36, boolRows_length, rows_length, nn0, nlt hkc, nlt hj, nlt hkn, g2, g3, g4, encB1, encBk, h6, h7, hr]
      · have hd : ((c.length : Int) != (t.blocks.length : Int)) = true := by simp; omega
        have hn : mayVote v t c n = false := may_false fun h => h3 h.len
        simp (config := { maxSteps := 4000000 }) only [go_sem, Nat.reduceEqDiff, Nat.reduceAdd, Nat.reduceMul, Nat.reduceSub, Nat.reduceLT, Nat.reduceLeDiff, reduceIte, reduceCtorEq, Int.reduceToNat, Int.reduceLE, Int.reduceLT, Int.reduceEq, Int.reduceGT, Int.reduceGE, Int.reduceAdd, Int.reduceSub, Int.reduceNeg, Int.reduceMul, ↓bT, ↓bF, ↓backK_top, ↓backK_int, ↓backK_bool, ↓backK_sl, ↓backK_fn, ↓backK_agg, ↓backK_tup, ↓backK_pel, ↓backK_osl, ↓backK_may, ↓backK_box, ↓bothTT, ↓bothTF, ↓bothFT, ↓bothFF, bothTT, bothTF, bothFT, bothFF, ↓bothTT, ↓bothTF, ↓bothFT, ↓bothFF, ↓bothNT, ↓bothNF, ↓bothCT, ↓bothCF, Try.f36, h1, h2, hd, hn, rows_length, boolRows_length]

theorem c_spec_MayVote (n1 n2 n3 n4 : Option Bool) (v : Voter) (t : Tree) (c : List Bool) (n : Int) (hx : TreeSz t) (hc : c.length < 2 ^ 62) :
    Det Try.prog 33 [.agg (encV v), .agg (encT n1 n2 n3 t), .sl n4 (boolRows c), .int .i64 n] (.bool (mayVote v t c n)) := by
  refine fspec_det tab_ok Try.call33 Try.func33 rfl 66 Try.ntmps33 (of_decide_eq_true rfl) fun B => codeK_sound tab_ok _ _ _ ?_
  unfold encT encV
  have hw : IntKind.i64.wrap ((t.blocks.length : Int) - 1) = (t.blocks.length : Int) - 1 := wrap_small _ (by omega) (by have := hx.blocks; omega)
  simp (config := { maxSteps := 4000000 }) only [go_sem, Nat.reduceEqDiff, Nat.reduceAdd, Nat.reduceMul, Nat.reduceSub, Nat.reduceLT, Nat.reduceLeDiff, reduceIte, reduceCtorEq, Int.reduceToNat, Int.reduceLE, Int.reduceLT, Int.reduceEq, Int.reduceGT, Int.reduceGE, Int.reduceAdd, Int.reduceSub, Int.reduceNeg, Int.reduceMul, ↓bT, ↓bF, ↓backK_top, ↓backK_int, ↓backK_bool, ↓backK_sl, ↓backK_fn, ↓backK_agg, ↓backK_tup, ↓backK_pel, ↓backK_osl, ↓backK_may, ↓backK_box, ↓bothTT, ↓bothTF, ↓bothFT, ↓bothFF, bothTT, bothTF, bothFT, bothFF, ↓bothTT, ↓bothTF, ↓bothFT, ↓bothFF, ↓bothNT, ↓bothNF, ↓bothCT, ↓bothCF, Try.f33]
  refine CallTo.det (c_spec_VoterValid _ _) fun _ => ?_
  cases h1 : voterValid v.last v.lock with
  | false =>
    have hn : mayVote v t c n = false := may_false fun h => by have := h.vv; rw [h1] at this; cases this
    simp (config := { maxSteps := 4000000 }) only [go_sem, Nat.reduceEqDiff, Nat.reduceAdd, Nat.reduceMul, Nat.reduceSub, Nat.reduceLT, Nat.reduceLeDiff, reduceIte, reduceCtorEq, Int.reduceToNat, Int.reduceLE, Int.reduceLT, Int.reduceEq, Int.reduceGT, Int.reduceGE, Int.reduceAdd, Int.reduceSub, Int.reduceNeg, Int.reduceMul, ↓bT, ↓bF, ↓backK_top, ↓backK_int, ↓backK_bool, ↓backK_sl, ↓backK_fn, ↓backK_agg, ↓backK_tup, ↓backK_pel, ↓backK_osl, ↓backK_may, ↓backK_box, ↓bothTT, ↓bothTF, ↓bothFT, ↓bothFF, bothTT, bothTF, bothFT, bothFF, ↓bothTT, ↓bothTF, ↓bothFT, ↓bothFF, ↓bothNT, ↓bothNF, ↓bothCT, ↓bothCF, Try.f33, h1, hn]
  | true =>
    simp (config := { maxSteps := 4000000 }) only [go_sem, Nat.reduceEqDiff, Nat.reduceAdd, Nat.reduceMul, Nat.reduceSub, Nat.reduceLT, Nat.reduceLeDiff, reduceIte, reduceCtorEq, Int.reduceToNat, Int.reduceLE, Int.reduceLT, Int.reduceEq, Int.reduceGT, Int.reduceGE, Int.reduceAdd, Int.reduceSub, Int.reduceNeg, Int.reduceMul, ↓bT, ↓bF, ↓backK_top, ↓backK_int, ↓backK_bool, ↓backK_sl, ↓backK_fn, ↓backK_agg, ↓backK_tup, ↓backK_pel, ↓backK_osl, ↓backK_may, ↓backK_box, ↓bothTT, ↓bothTF, ↓bothFT, ↓bothFF, bothTT, bothTF, bothFT, bothFF, ↓bothTT, ↓bothTF, ↓bothFT, ↓bothFF, ↓bothNT, ↓bothNF, ↓bothCT, ↓bothCF, Try.f33, h1]
    refine CallTo.det (c_spec_BlockTreeValid n1 n2 n3 t hx) fun _ => ?_
    cases h2 : treeValid t with
    | false =>
      have hn : mayVote v t c n = false := may_false fun h => by rw [treeValid_true h.tree] at h2; cases h2
      simp (config := { maxSteps := 4000000 }) only [go_sem, Nat.reduceEqDiff, Nat.reduceAdd, Nat.reduceMul, Nat.reduceSub, Nat.reduceLT, Nat.reduceLeDiff, reduceIte, reduceCtorEq, Int.reduceToNat, Int.reduceLE, Int.reduceLT, Int.reduceEq, Int.reduceGT, Int.reduceGE, Int.reduceAdd, Int.reduceSub, Int.reduceNeg, Int.reduceMul, ↓bT, ↓bF, ↓backK_top, ↓backK_int, ↓backK_bool, ↓backK_sl, ↓backK_fn, ↓backK_agg, ↓backK_tup, ↓backK_pel, ↓backK_osl, ↓backK_may, ↓backK_box, ↓bothTT, ↓bothTF, ↓bothFT, ↓bothFF, bothTT, bothTF, bothFT, bothFF, ↓bothTT, ↓bothTF, ↓bothFT, ↓bothFF, ↓bothNT, ↓bothNF, ↓bothCT, ↓bothCF, Try.f33, h1, h2, hn]
    | true =>
      have ht := treeOk_of h2
      by_cases h3 : c.length = t.blocks.length
      · have hd : ((c.length : Int) != (t.blocks.length : Int)) = false := by simp [h3]
        simp (config := { maxSteps := 4000000 }) only [go_sem, Nat.reduceEqDiff, Nat.reduceAdd, Nat.reduceMul, Nat.reduceSub, Nat.reduceLT, Nat.reduceLeDiff, reduceIte, reduceCtorEq, Int.reduceToNat, Int.reduceLE, Int.reduceLT, Int.reduceEq, Int.reduceGT, Int.reduceGE, Int.reduceAdd, Int.reduceSub, Int.reduceNeg, Int.reduceMul, ↓bT, ↓bF, ↓backK_top, ↓backK_int, ↓backK_bool, ↓backK_sl, ↓backK_fn, ↓backK_agg, ↓backK_tup, ↓backK_pel, ↓backK_osl, ↓backK_may, ↓backK_box, ↓bothTT, ↓bothTF, ↓bothFT, ↓bothFF, bothTT, bothTF, bothFT, bothFF, ↓bothTT, ↓bothTF, ↓bothFT, ↓bothFF, ↓bothNT, ↓bothNF, ↓bothCT, ↓bothCF, Try.f33, h1, h2, hd, hw, rows_length, boolRows_length]
        refine CallTo.det (c_l1In _ _ _) fun _ => ?_
        cases h4 : inB n 1 ((t.blocks.length : Int) - 1) with
        | false =>
          have hn : mayVote v t c n = false := may_false fun h => by
            have := h.n1; have := h.n2
            rw [inB_iff.2 (by omega)] at h4; cases h4
          simp (config := { maxSteps := 4000000 }) only [go_sem, Nat.reduceEqDiff, Nat.reduceAdd, Nat.reduceMul, Nat.reduceSub, Nat.reduceLT, Nat.reduceLeDiff, reduceIte, reduceCtorEq, Int.reduceToNat, Int.reduceLE, Int.reduceLT, Int.reduceEq, Int.reduceGT, Int.reduceGE, Int.reduceAdd, Int.reduceSub, Int.reduceNeg, Int.reduceMul, ↓bT, ↓bF, ↓backK_top, ↓backK_int, ↓backK_bool, ↓backK_sl, ↓backK_fn, ↓backK_agg, ↓backK_tup, ↓backK_pel, ↓backK_osl, ↓backK_may, ↓backK_box, ↓bothTT, ↓bothTF, ↓bothFT, ↓bothFF, bothTT, bothTF, bothFT, bothFF, ↓bothTT, ↓bothTF, ↓bothFT, ↓bothFF, ↓bothNT, ↓bothNF, ↓bothCT, ↓bothCF, Try.f33, h1, h2, hd, h4, hn]
        | true =>
          have h4' := inB_iff.1 h4
          obtain ⟨j, k, rfl, hj0, hj, hjb, hkj, hk, g1, g2, g3, g4⟩ := may_facts ht h3 (n := n) (by omega) (by omega)
          have hkn : k < t.blocks.length := by omega
          have hkc : k < c.length := by omega
          simp (config := { maxSteps := 4000000 }) only [go_sem, Nat.reduceEqDiff, Nat.reduceAdd, Nat.reduceMul, Nat.reduceSub, Nat.reduceLT, Nat.reduceLeDiff, reduceIte, reduceCtorEq, Int.reduceToNat, Int.reduceLE, Int.reduceLT, Int.reduceEq, Int.reduceGT, Int.reduceGE, Int.reduceAdd, Int.reduceSub, Int.reduceNeg, Int.reduceMul, ↓bT, ↓bF, ↓backK_top, ↓backK_int, ↓backK_bool, ↓backK_sl, ↓backK_fn, ↓backK_agg, ↓backK_tup, ↓backK_pel, ↓backK_osl, ↓backK_may, ↓backK_box, ↓bothTT, ↓bothTF, ↓bothFT, ↓bothFF, bothTT, bothTF, bothFT, bothFF, ↓bothTT, ↓bothTF, ↓bothFT, ↓bothFF, ↓bothNT, ↓bothNF, ↓bothCT, ↓bothCF, Try.f33, h1, h2, hd, h4, rows_length, nn0, nlt hjb, g1]
          refine semL_draw tab_ok mixed_ rfl (ord := [(0, []), (1, []), (2, []), (3, []), (4, []), (5, []), (6, []), (7, []), (8, []), (9, []), (10, []), (11, []), (12, []), (13, []), (14, []), (15, []), (16, []), (17, []), (18, []), (19, []), (20, []), (21, []), (22, []), (23, []), (24, []), (25, []), (26, [])]) (by dsimp only; decide +kernel) ?_
          cases h6 : c.getD k false with
          | false =>
            have hn : mayVote v t c j = false := may_false fun h => by
              have := h.cert
              rw [Int.toNat_natCast, hk, Int.toNat_natCast, h6] at this; cases this
            simp (config := { maxSteps := 4000000 }) only [go_sem, Nat.reduceEqDiff, Nat.reduceAdd, Nat.reduceMul, Nat.reduceSub, Nat.reduceLT, Nat.reduceLeDiff, reduceIte, reduceCtorEq, Int.reduceToNat, Int.reduceLE, Int.reduceLT, Int.reduceEq, Int.reduceGT, Int.reduceGE, Int.reduceAdd, Int.reduceSub, Int.reduceNeg, Int.reduceMul, ↓bT, ↓bF, ↓backK_top, ↓backK_int, ↓backK_bool, ↓backK_sl, ↓backK_fn, ↓backK_agg, ↓backK_tup, ↓backK_pel, ↓backK_osl, ↓backK_may, ↓backK_box, ↓bothTT, ↓bothTF, ↓bothFT, ↓bothFF, bothTT, bothTF, bothFT, bothFF, ↓bothTT, ↓bothTF, ↓bothFT, ↓bothFF, ↓bothNT, ↓bothNF, ↓bothCT, ↓bothCF, Try.f33, boolRows_length, nn0, nlt hkc, g4, h6, hn]
          | true =>
            cases h7 : decide ((t.blk j).view > v.last) with
            | false =>
              have hn : mayVote v t c j = false := may_false fun h => by
                have := h.last
                rw [Int.toNat_natCast] at this; exact of_decide_eq_false h7 this
              simp (config := { maxSteps := 4000000 }) only [go_sem, Nat.reduceEqDiff, Nat.reduceAdd, Nat.reduceMul, Nat.reduceSub, Nat.reduceLT, Nat.reduceLeDiff, reduceIte, reduceCtorEq, Int.reduceToNat, Int.reduceLE, Int.reduceLT, Int.reduceEq, Int.reduceGT, Int.reduceGE, Int.reduceAdd, Int.reduceSub, Int.reduceNeg, Int.reduceMul, ↓bT, ↓bF, ↓backK_top, ↓backK_int, ↓backK_bool, ↓backK_sl, ↓backK_fn, ↓backK_agg, ↓backK_tup, ↓backK_pel, ↓backK_osl, ↓backK_may, ↓backK_box, ↓bothTT, ↓bothTF, ↓bothFT, ↓bothFF, bothTT, bothTF, bothFT, bothFF, ↓bothTT, ↓bothTF, ↓bothFT, ↓bothFF, ↓bothNT, ↓bothNF, ↓bothCT, ↓bothCF, Try.f33, boolRows_length, rows_length, nn0, nlt hkc, nlt hj, g2, g4, encB1, encBk, h6, h7, hn]
            | true =>
              have hr : decide ((t.blk k).view ≥ v.lock) = mayVote v t c j := by
                cases h8 : decide ((t.blk k).view ≥ v.lock) with
                | true => exact (may_true ⟨h1, ht, h3, by omega, by omega, by rw [Int.toNat_natCast, hk]; exact h6, by rw [Int.toNat_natCast]; exact of_decide_eq_true h7, by rw [Int.toNat_natCast, hk]; exact of_decide_eq_true h8⟩).symm
                | false => exact (may_false fun h => by have := h.lock; rw [Int.toNat_natCast, hk] at this; exact of_decide_eq_false h8 this).symm
              simp (config := { maxSteps := 4000000 }) only [go_sem, Nat.reduceEqDiff, Nat.reduceAdd, Nat.reduceMul, Nat.reduceSub, Nat.reduceLT, Nat.reduceLeDiff, reduceIte, reduceCtorEq, Int.reduceToNat, Int.reduceLE, Int.reduceLT, Int.reduceEq, Int.reduceGT, Int.reduceGE, Int.reduceAdd, Int.reduceSub, Int.reduceNeg, Int.reduceMul, ↓bT, ↓bF, ↓backK_top, ↓backK_int, ↓backK_bool, ↓backK_sl, ↓backK_fn, ↓backK_agg, ↓backK_tup, ↓backK_pel, ↓backK_osl, ↓backK_may, ↓backK_box, ↓bothTT, ↓bothTF, ↓bothFT, ↓bothFF, bothTT, bothTF, bothFT, bothFF, ↓bothTT, ↓bothTF, ↓bothFT, ↓bothFF, ↓bothNT, ↓bothNF, ↓bothCT, ↓bothCF, Try.f33, boolRows_length, rows_length, nn0, nlt hkc, nlt hj, nlt hkn, g2, g3, g4, encB1, encBk, h6, h7, hr]
      · have hd : ((c.length : Int) != (t.blocks.length : Int)) = true := by simp; omega
        have hn : mayVote v t c n = false := may_false fun h => h3 h.len
        simp (config := { maxSteps := 4000000 }) only [go_sem, Nat.reduceEqDiff, Nat.reduceAdd, Nat.reduceMul, Nat.reduceSub, Nat.reduceLT, Nat.reduceLeDiff, reduceIte, reduceCtorEq, Int.reduceToNat, Int.reduceLE, Int.reduceLT, Int.reduceEq, Int.reduceGT, Int.reduceGE, Int.reduceAdd, Int.reduceSub, Int.reduceNeg, Int.reduceMul, ↓bT, ↓bF, ↓backK_top, ↓backK_int, ↓backK_bool, ↓backK_sl, ↓backK_fn, ↓backK_agg, ↓backK_tup, ↓backK_pel, ↓backK_osl, ↓backK_may, ↓backK_box, ↓bothTT, ↓bothTF, ↓bothFT, ↓bothFF, bothTT, bothTF, bothFT, bothFF, ↓bothTT, ↓bothTF, ↓bothFT, ↓bothFF, ↓bothNT, ↓bothNF, ↓bothCT, ↓bothCF, Try.f33, h1, h2, hd, hn, rows_length, boolRows_length]

end Go.Proofs.Ytdaemhaecjldaaa

/- Contracts: the laws' copies. -/
set_option linter.unusedSimpArgs false
set_option linter.unusedVariables false
set_option maxRecDepth 20000
set_option maxHeartbeats 4000000
namespace Go.Proofs.Ytdaemhaecjldaaa
open Go Go.RowKit

theorem getD_at {α : Type} (xs : List α) (i : Nat) (d : α) (h : i < xs.length) : xs.getD i d = xs[i] := by
  simp [List.getD_eq_getElem?_getD, h]

def encBkO (b : Block) : List AV := [.int .i64 b.before, .int .i64 b.height, .int .i64 b.view, .osl true 4 (rows encA b.list), .int .i64 b.root, .int .i64 b.effects]

theorem c_laws_toEntry (e : Entry) : Det Try.prog 79 [.agg (encE e)] (.agg (encE e)) := by
  refine fspec_det tab_ok Try.call79 Try.func79 rfl 11 Try.ntmps79 (of_decide_eq_true rfl) fun B => codeK_sound tab_ok _ _ _ ?_
  unfold encE
  simp (config := { maxSteps := 4000000 }) only [go_sem, Nat.reduceEqDiff, Nat.reduceAdd, Nat.reduceMul, Nat.reduceSub, Nat.reduceLT, Nat.reduceLeDiff, reduceIte, reduceCtorEq, Int.reduceToNat, Int.reduceLE, Int.reduceLT, Int.reduceEq, Int.reduceGT, Int.reduceGE, Int.reduceAdd, Int.reduceSub, Int.reduceNeg, Int.reduceMul, ↓bT, ↓bF, ↓backK_top, ↓backK_int, ↓backK_bool, ↓backK_sl, ↓backK_fn, ↓backK_agg, ↓backK_tup, ↓backK_pel, ↓backK_osl, ↓backK_may, ↓backK_box, ↓bothTT, ↓bothTF, ↓bothFT, ↓bothFF, bothTT, bothTF, bothFT, bothFF, ↓bothTT, ↓bothTF, ↓bothFT, ↓bothFF, ↓bothNT, ↓bothNF, ↓bothCT, ↓bothCF, Try.f79]

theorem c_laws_toAction (a : Action) : Det Try.prog 80 [.agg (encA a)] (.agg (encA a)) := by
  refine fspec_det tab_ok Try.call80 Try.func80 rfl 17 Try.ntmps80 (of_decide_eq_true rfl) fun B => codeK_sound tab_ok _ _ _ ?_
  unfold encA
  simp (config := { maxSteps := 4000000 }) only [go_sem, Nat.reduceEqDiff, Nat.reduceAdd, Nat.reduceMul, Nat.reduceSub, Nat.reduceLT, Nat.reduceLeDiff, reduceIte, reduceCtorEq, Int.reduceToNat, Int.reduceLE, Int.reduceLT, Int.reduceEq, Int.reduceGT, Int.reduceGE, Int.reduceAdd, Int.reduceSub, Int.reduceNeg, Int.reduceMul, ↓bT, ↓bF, ↓backK_top, ↓backK_int, ↓backK_bool, ↓backK_sl, ↓backK_fn, ↓backK_agg, ↓backK_tup, ↓backK_pel, ↓backK_osl, ↓backK_may, ↓backK_box, ↓bothTT, ↓bothTF, ↓bothFT, ↓bothFF, bothTT, bothTF, bothFT, bothFF, ↓bothTT, ↓bothTF, ↓bothFT, ↓bothFF, ↓bothNT, ↓bothNF, ↓bothCT, ↓bothCF, Try.f80]

theorem c_laws_toEntryS (n1 : Option Bool) (xs : List Entry) (hx : xs.length < 2 ^ 32) :
    Det Try.prog 22 [.sl n1 (rows encE xs)] (.osl true 2 (rows encE xs)) := by
  refine fspec_det tab_ok Try.call22 Try.func22 rfl 23 Try.ntmps22 (of_decide_eq_true rfl) fun B => codeK_sound tab_ok _ _ _ ?_
  have hx62 : xs.length < 2 ^ 62 := by omega
  simp (config := { maxSteps := 4000000 }) only [go_sem, Nat.reduceEqDiff, Nat.reduceAdd, Nat.reduceMul, Nat.reduceSub, Nat.reduceLT, Nat.reduceLeDiff, reduceIte, reduceCtorEq, Int.reduceToNat, Int.reduceLE, Int.reduceLT, Int.reduceEq, Int.reduceGT, Int.reduceGE, Int.reduceAdd, Int.reduceSub, Int.reduceNeg, Int.reduceMul, ↓bT, ↓bF, ↓backK_top, ↓backK_int, ↓backK_bool, ↓backK_sl, ↓backK_fn, ↓backK_agg, ↓backK_tup, ↓backK_pel, ↓backK_osl, ↓backK_may, ↓backK_box, ↓bothTT, ↓bothTF, ↓bothFT, ↓bothFF, bothTT, bothTF, bothFT, bothFF, ↓bothTT, ↓bothTF, ↓bothFT, ↓bothFF, ↓bothNT, ↓bothNF, ↓bothCT, ↓bothCF, Try.f22, rows_length]
  repeat refine And.intro (by first | omega | (simp; done) | (simp; omega) | assumption) ?_
  refine semL_for tab_ok (fun i : Nat => ⟨23, [(0, .sl n1 (rows encE xs)), (3, .row 7 xs.length), (4, .int .i64 i)], [(7, .row true true 2 (rows encE (xs.take i ++ List.replicate (xs.length - i) (⟨0, 0⟩ : Entry))))]⟩) (fun i => xs.length - i)
    (fun i => i ≤ xs.length) 0 [(7, 7)] (Weak.of (by rfl) ?_ ?_ (by rfl)) (by omega) ?_
  · simp (config := { maxSteps := 4000000 }) only [go_sem, Nat.reduceEqDiff, Nat.reduceAdd, Nat.reduceMul, Nat.reduceSub, Nat.reduceLT, Nat.reduceLeDiff, reduceIte, reduceCtorEq, Int.reduceToNat, Int.reduceLE, Int.reduceLT, Int.reduceEq, Int.reduceGT, Int.reduceGE, Int.reduceAdd, Int.reduceSub, Int.reduceNeg, Int.reduceMul, ↓bT, ↓bF, ↓backK_top, ↓backK_int, ↓backK_bool, ↓backK_sl, ↓backK_fn, ↓backK_agg, ↓backK_tup, ↓backK_pel, ↓backK_osl, ↓backK_may, ↓backK_box, ↓bothTT, ↓bothTF, ↓bothFT, ↓bothFF, bothTT, bothTF, bothFT, bothFF, ↓bothTT, ↓bothTF, ↓bothFT, ↓bothFF, ↓bothNT, ↓bothNF, ↓bothCT, ↓bothCF, Try.f22, frW, wk2, wk1, wkL, wkB, hpW, List.mem_cons, Prod.mk.injEq, exists_eq_left, exists_eq_right, exists_eq]
    simp [rows, encE, encBk]
  · simp (config := { maxSteps := 4000000 }) only [go_sem, Nat.reduceEqDiff, Nat.reduceAdd, Nat.reduceMul, Nat.reduceSub, Nat.reduceLT, Nat.reduceLeDiff, reduceIte, reduceCtorEq, Int.reduceToNat, Int.reduceLE, Int.reduceLT, Int.reduceEq, Int.reduceGT, Int.reduceGE, Int.reduceAdd, Int.reduceSub, Int.reduceNeg, Int.reduceMul, ↓bT, ↓bF, ↓backK_top, ↓backK_int, ↓backK_bool, ↓backK_sl, ↓backK_fn, ↓backK_agg, ↓backK_tup, ↓backK_pel, ↓backK_osl, ↓backK_may, ↓backK_box, ↓bothTT, ↓bothTF, ↓bothFT, ↓bothFF, bothTT, bothTF, bothFT, bothFF, ↓bothTT, ↓bothTF, ↓bothFT, ↓bothFF, ↓bothNT, ↓bothNF, ↓bothCT, ↓bothCF, Try.f22, frW, wk2, wk1, wkL, wkB, hpW, List.mem_cons, Prod.mk.injEq, exists_eq_left, exists_eq_right, exists_eq]
  · rintro i hi
    by_cases h : i < xs.length
    · have hm : i < (xs.take i ++ List.replicate (xs.length - i) (⟨0, 0⟩ : Entry)).length := by simp; omega
      simp (config := { maxSteps := 4000000 }) only [go_sem, Nat.reduceEqDiff, Nat.reduceAdd, Nat.reduceMul, Nat.reduceSub, Nat.reduceLT, Nat.reduceLeDiff, reduceIte, reduceCtorEq, Int.reduceToNat, Int.reduceLE, Int.reduceLT, Int.reduceEq, Int.reduceGT, Int.reduceGE, Int.reduceAdd, Int.reduceSub, Int.reduceNeg, Int.reduceMul, ↓bT, ↓bF, ↓backK_top, ↓backK_int, ↓backK_bool, ↓backK_sl, ↓backK_fn, ↓backK_agg, ↓backK_tup, ↓backK_pel, ↓backK_osl, ↓backK_may, ↓backK_box, ↓bothTT, ↓bothTF, ↓bothFT, ↓bothFF, bothTT, bothTF, bothFT, bothFF, ↓bothTT, ↓bothTF, ↓bothFT, ↓bothFF, ↓bothNT, ↓bothNF, ↓bothCT, ↓bothCF, Try.f22, rows_length, rows_get _ _ _ h, encE, encBk, nlt h, nn0]
      refine CallTo.det (c_laws_toEntry xs[i]) fun _ => ?_
      simp (config := { maxSteps := 4000000 }) only [go_sem, Nat.reduceEqDiff, Nat.reduceAdd, Nat.reduceMul, Nat.reduceSub, Nat.reduceLT, Nat.reduceLeDiff, reduceIte, reduceCtorEq, Int.reduceToNat, Int.reduceLE, Int.reduceLT, Int.reduceEq, Int.reduceGT, Int.reduceGE, Int.reduceAdd, Int.reduceSub, Int.reduceNeg, Int.reduceMul, ↓bT, ↓bF, ↓backK_top, ↓backK_int, ↓backK_bool, ↓backK_sl, ↓backK_fn, ↓backK_agg, ↓backK_tup, ↓backK_pel, ↓backK_osl, ↓backK_may, ↓backK_box, ↓bothTT, ↓bothTF, ↓bothFT, ↓bothFF, bothTT, bothTF, bothFT, bothFF, ↓bothTT, ↓bothTF, ↓bothFT, ↓bothFF, ↓bothNT, ↓bothNF, ↓bothCT, ↓bothCF, Try.f22, rows_length, rows_get _ _ _ h, rows_get _ _ _ hm, hm, encE, encBk, encBkO, nlt h, nn0, wsucc h hx62]
      repeat refine And.intro (by first | omega | (simp; done) | (simp; omega) | assumption) ?_
      refine ⟨i + 1, [(7, 7)], by omega, by dsimp only; omega, Weak.of (by rfl) ?_ ?_ (by rfl)⟩
      · simp (config := { maxSteps := 4000000 }) only [go_sem, Nat.reduceEqDiff, Nat.reduceAdd, Nat.reduceMul, Nat.reduceSub, Nat.reduceLT, Nat.reduceLeDiff, reduceIte, reduceCtorEq, Int.reduceToNat, Int.reduceLE, Int.reduceLT, Int.reduceEq, Int.reduceGT, Int.reduceGE, Int.reduceAdd, Int.reduceSub, Int.reduceNeg, Int.reduceMul, ↓bT, ↓bF, ↓backK_top, ↓backK_int, ↓backK_bool, ↓backK_sl, ↓backK_fn, ↓backK_agg, ↓backK_tup, ↓backK_pel, ↓backK_osl, ↓backK_may, ↓backK_box, ↓bothTT, ↓bothTF, ↓bothFT, ↓bothFF, bothTT, bothTF, bothFT, bothFF, ↓bothTT, ↓bothTF, ↓bothFT, ↓bothFF, ↓bothNT, ↓bothNF, ↓bothCT, ↓bothCF, Try.f22, frW, wk2, wk1, wkL, wkB, hpW, List.mem_cons, Prod.mk.injEq, exists_eq_left, exists_eq_right, exists_eq]
        first
          | done
          | (refine (congrArg (rows encE) (fill_step xs (⟨0, 0⟩ : Entry) (⟨0, 0⟩ : Entry) i h)).symm.trans ?_; rw [← rows_set, getD_at _ _ _ h]; rfl)
      · simp (config := { maxSteps := 4000000 }) only [go_sem, Nat.reduceEqDiff, Nat.reduceAdd, Nat.reduceMul, Nat.reduceSub, Nat.reduceLT, Nat.reduceLeDiff, reduceIte, reduceCtorEq, Int.reduceToNat, Int.reduceLE, Int.reduceLT, Int.reduceEq, Int.reduceGT, Int.reduceGE, Int.reduceAdd, Int.reduceSub, Int.reduceNeg, Int.reduceMul, ↓bT, ↓bF, ↓backK_top, ↓backK_int, ↓backK_bool, ↓backK_sl, ↓backK_fn, ↓backK_agg, ↓backK_tup, ↓backK_pel, ↓backK_osl, ↓backK_may, ↓backK_box, ↓bothTT, ↓bothTF, ↓bothFT, ↓bothFF, bothTT, bothTF, bothFT, bothFF, ↓bothTT, ↓bothTF, ↓bothFT, ↓bothFF, ↓bothNT, ↓bothNF, ↓bothCT, ↓bothCF, Try.f22, wsucc h hx62, frW, wk2, wk1, wkL, wkB, hpW, List.mem_cons, Prod.mk.injEq, exists_eq_left, exists_eq_right, exists_eq]
    · have : i = xs.length := by omega
      subst this
      simp (config := { maxSteps := 4000000 }) only [go_sem, Nat.reduceEqDiff, Nat.reduceAdd, Nat.reduceMul, Nat.reduceSub, Nat.reduceLT, Nat.reduceLeDiff, reduceIte, reduceCtorEq, Int.reduceToNat, Int.reduceLE, Int.reduceLT, Int.reduceEq, Int.reduceGT, Int.reduceGE, Int.reduceAdd, Int.reduceSub, Int.reduceNeg, Int.reduceMul, ↓bT, ↓bF, ↓backK_top, ↓backK_int, ↓backK_bool, ↓backK_sl, ↓backK_fn, ↓backK_agg, ↓backK_tup, ↓backK_pel, ↓backK_osl, ↓backK_may, ↓backK_box, ↓bothTT, ↓bothTF, ↓bothFT, ↓bothFF, bothTT, bothTF, bothFT, bothFF, ↓bothTT, ↓bothTF, ↓bothFT, ↓bothFF, ↓bothNT, ↓bothNF, ↓bothCT, ↓bothCF, Try.f22, rows_length, nlf h]
      simp


theorem c_laws_toActionS (n1 : Option Bool) (xs : List Action) (hx : xs.length < 2 ^ 32) :
    Det Try.prog 23 [.sl n1 (rows encA xs)] (.osl true 4 (rows encA xs)) := by
  refine fspec_det tab_ok Try.call23 Try.func23 rfl 23 Try.ntmps23 (of_decide_eq_true rfl) fun B => codeK_sound tab_ok _ _ _ ?_
  have hx62 : xs.length < 2 ^ 62 := by omega
  simp (config := { maxSteps := 4000000 }) only [go_sem, Nat.reduceEqDiff, Nat.reduceAdd, Nat.reduceMul, Nat.reduceSub, Nat.reduceLT, Nat.reduceLeDiff, reduceIte, reduceCtorEq, Int.reduceToNat, Int.reduceLE, Int.reduceLT, Int.reduceEq, Int.reduceGT, Int.reduceGE, Int.reduceAdd, Int.reduceSub, Int.reduceNeg, Int.reduceMul, ↓bT, ↓bF, ↓backK_top, ↓backK_int, ↓backK_bool, ↓backK_sl, ↓backK_fn, ↓backK_agg, ↓backK_tup, ↓backK_pel, ↓backK_osl, ↓backK_may, ↓backK_box, ↓bothTT, ↓bothTF, ↓bothFT, ↓bothFF, bothTT, bothTF, bothFT, bothFF, ↓bothTT, ↓bothTF, ↓bothFT, ↓bothFF, ↓bothNT, ↓bothNF, ↓bothCT, ↓bothCF, Try.f23, rows_length]
  repeat refine And.intro (by first | omega | (simp; done) | (simp; omega) | assumption) ?_
  refine semL_for tab_ok (fun i : Nat => ⟨23, [(0, .sl n1 (rows encA xs)), (3, .row 7 xs.length), (4, .int .i64 i)], [(7, .row true true 4 (rows encA (xs.take i ++ List.replicate (xs.length - i) (⟨0, 0, 0, 0⟩ : Action))))]⟩) (fun i => xs.length - i)
    (fun i => i ≤ xs.length) 0 [(7, 7)] (Weak.of (by rfl) ?_ ?_ (by rfl)) (by omega) ?_
  · simp (config := { maxSteps := 4000000 }) only [go_sem, Nat.reduceEqDiff, Nat.reduceAdd, Nat.reduceMul, Nat.reduceSub, Nat.reduceLT, Nat.reduceLeDiff, reduceIte, reduceCtorEq, Int.reduceToNat, Int.reduceLE, Int.reduceLT, Int.reduceEq, Int.reduceGT, Int.reduceGE, Int.reduceAdd, Int.reduceSub, Int.reduceNeg, Int.reduceMul, ↓bT, ↓bF, ↓backK_top, ↓backK_int, ↓backK_bool, ↓backK_sl, ↓backK_fn, ↓backK_agg, ↓backK_tup, ↓backK_pel, ↓backK_osl, ↓backK_may, ↓backK_box, ↓bothTT, ↓bothTF, ↓bothFT, ↓bothFF, bothTT, bothTF, bothFT, bothFF, ↓bothTT, ↓bothTF, ↓bothFT, ↓bothFF, ↓bothNT, ↓bothNF, ↓bothCT, ↓bothCF, Try.f23, frW, wk2, wk1, wkL, wkB, hpW, List.mem_cons, Prod.mk.injEq, exists_eq_left, exists_eq_right, exists_eq]
    simp [rows, encA, encBk]
  · simp (config := { maxSteps := 4000000 }) only [go_sem, Nat.reduceEqDiff, Nat.reduceAdd, Nat.reduceMul, Nat.reduceSub, Nat.reduceLT, Nat.reduceLeDiff, reduceIte, reduceCtorEq, Int.reduceToNat, Int.reduceLE, Int.reduceLT, Int.reduceEq, Int.reduceGT, Int.reduceGE, Int.reduceAdd, Int.reduceSub, Int.reduceNeg, Int.reduceMul, ↓bT, ↓bF, ↓backK_top, ↓backK_int, ↓backK_bool, ↓backK_sl, ↓backK_fn, ↓backK_agg, ↓backK_tup, ↓backK_pel, ↓backK_osl, ↓backK_may, ↓backK_box, ↓bothTT, ↓bothTF, ↓bothFT, ↓bothFF, bothTT, bothTF, bothFT, bothFF, ↓bothTT, ↓bothTF, ↓bothFT, ↓bothFF, ↓bothNT, ↓bothNF, ↓bothCT, ↓bothCF, Try.f23, frW, wk2, wk1, wkL, wkB, hpW, List.mem_cons, Prod.mk.injEq, exists_eq_left, exists_eq_right, exists_eq]
  · rintro i hi
    by_cases h : i < xs.length
    · have hm : i < (xs.take i ++ List.replicate (xs.length - i) (⟨0, 0, 0, 0⟩ : Action)).length := by simp; omega
      simp (config := { maxSteps := 4000000 }) only [go_sem, Nat.reduceEqDiff, Nat.reduceAdd, Nat.reduceMul, Nat.reduceSub, Nat.reduceLT, Nat.reduceLeDiff, reduceIte, reduceCtorEq, Int.reduceToNat, Int.reduceLE, Int.reduceLT, Int.reduceEq, Int.reduceGT, Int.reduceGE, Int.reduceAdd, Int.reduceSub, Int.reduceNeg, Int.reduceMul, ↓bT, ↓bF, ↓backK_top, ↓backK_int, ↓backK_bool, ↓backK_sl, ↓backK_fn, ↓backK_agg, ↓backK_tup, ↓backK_pel, ↓backK_osl, ↓backK_may, ↓backK_box, ↓bothTT, ↓bothTF, ↓bothFT, ↓bothFF, bothTT, bothTF, bothFT, bothFF, ↓bothTT, ↓bothTF, ↓bothFT, ↓bothFF, ↓bothNT, ↓bothNF, ↓bothCT, ↓bothCF, Try.f23, rows_length, rows_get _ _ _ h, encA, encBk, nlt h, nn0]
      refine CallTo.det (c_laws_toAction xs[i]) fun _ => ?_
      simp (config := { maxSteps := 4000000 }) only [go_sem, Nat.reduceEqDiff, Nat.reduceAdd, Nat.reduceMul, Nat.reduceSub, Nat.reduceLT, Nat.reduceLeDiff, reduceIte, reduceCtorEq, Int.reduceToNat, Int.reduceLE, Int.reduceLT, Int.reduceEq, Int.reduceGT, Int.reduceGE, Int.reduceAdd, Int.reduceSub, Int.reduceNeg, Int.reduceMul, ↓bT, ↓bF, ↓backK_top, ↓backK_int, ↓backK_bool, ↓backK_sl, ↓backK_fn, ↓backK_agg, ↓backK_tup, ↓backK_pel, ↓backK_osl, ↓backK_may, ↓backK_box, ↓bothTT, ↓bothTF, ↓bothFT, ↓bothFF, bothTT, bothTF, bothFT, bothFF, ↓bothTT, ↓bothTF, ↓bothFT, ↓bothFF, ↓bothNT, ↓bothNF, ↓bothCT, ↓bothCF, Try.f23, rows_length, rows_get _ _ _ h, rows_get _ _ _ hm, hm, encA, encBk, encBkO, nlt h, nn0, wsucc h hx62]
      repeat refine And.intro (by first | omega | (simp; done) | (simp; omega) | assumption) ?_
      refine ⟨i + 1, [(7, 7)], by omega, by dsimp only; omega, Weak.of (by rfl) ?_ ?_ (by rfl)⟩
      · simp (config := { maxSteps := 4000000 }) only [go_sem, Nat.reduceEqDiff, Nat.reduceAdd, Nat.reduceMul, Nat.reduceSub, Nat.reduceLT, Nat.reduceLeDiff, reduceIte, reduceCtorEq, Int.reduceToNat, Int.reduceLE, Int.reduceLT, Int.reduceEq, Int.reduceGT, Int.reduceGE, Int.reduceAdd, Int.reduceSub, Int.reduceNeg, Int.reduceMul, ↓bT, ↓bF, ↓backK_top, ↓backK_int, ↓backK_bool, ↓backK_sl, ↓backK_fn, ↓backK_agg, ↓backK_tup, ↓backK_pel, ↓backK_osl, ↓backK_may, ↓backK_box, ↓bothTT, ↓bothTF, ↓bothFT, ↓bothFF, bothTT, bothTF, bothFT, bothFF, ↓bothTT, ↓bothTF, ↓bothFT, ↓bothFF, ↓bothNT, ↓bothNF, ↓bothCT, ↓bothCF, Try.f23, frW, wk2, wk1, wkL, wkB, hpW, List.mem_cons, Prod.mk.injEq, exists_eq_left, exists_eq_right, exists_eq]
        first
          | done
          | (refine (congrArg (rows encA) (fill_step xs (⟨0, 0, 0, 0⟩ : Action) (⟨0, 0, 0, 0⟩ : Action) i h)).symm.trans ?_; rw [← rows_set, getD_at _ _ _ h]; rfl)
      · simp (config := { maxSteps := 4000000 }) only [go_sem, Nat.reduceEqDiff, Nat.reduceAdd, Nat.reduceMul, Nat.reduceSub, Nat.reduceLT, Nat.reduceLeDiff, reduceIte, reduceCtorEq, Int.reduceToNat, Int.reduceLE, Int.reduceLT, Int.reduceEq, Int.reduceGT, Int.reduceGE, Int.reduceAdd, Int.reduceSub, Int.reduceNeg, Int.reduceMul, ↓bT, ↓bF, ↓backK_top, ↓backK_int, ↓backK_bool, ↓backK_sl, ↓backK_fn, ↓backK_agg, ↓backK_tup, ↓backK_pel, ↓backK_osl, ↓backK_may, ↓backK_box, ↓bothTT, ↓bothTF, ↓bothFT, ↓bothFF, bothTT, bothTF, bothFT, bothFF, ↓bothTT, ↓bothTF, ↓bothFT, ↓bothFF, ↓bothNT, ↓bothNF, ↓bothCT, ↓bothCF, Try.f23, wsucc h hx62, frW, wk2, wk1, wkL, wkB, hpW, List.mem_cons, Prod.mk.injEq, exists_eq_left, exists_eq_right, exists_eq]
    · have : i = xs.length := by omega
      subst this
      simp (config := { maxSteps := 4000000 }) only [go_sem, Nat.reduceEqDiff, Nat.reduceAdd, Nat.reduceMul, Nat.reduceSub, Nat.reduceLT, Nat.reduceLeDiff, reduceIte, reduceCtorEq, Int.reduceToNat, Int.reduceLE, Int.reduceLT, Int.reduceEq, Int.reduceGT, Int.reduceGE, Int.reduceAdd, Int.reduceSub, Int.reduceNeg, Int.reduceMul, ↓bT, ↓bF, ↓backK_top, ↓backK_int, ↓backK_bool, ↓backK_sl, ↓backK_fn, ↓backK_agg, ↓backK_tup, ↓backK_pel, ↓backK_osl, ↓backK_may, ↓backK_box, ↓bothTT, ↓bothTF, ↓bothFT, ↓bothFF, bothTT, bothTF, bothFT, bothFF, ↓bothTT, ↓bothTF, ↓bothFT, ↓bothFF, ↓bothNT, ↓bothNF, ↓bothCT, ↓bothCF, Try.f23, rows_length, nlf h]
      simp


theorem c_laws_toBlock (n : Option Bool) (b : Block) (hx : b.list.length < 2 ^ 32) : Det Try.prog 53 [.agg (encBk n b)] (.agg (encBkO b)) := by
  refine fspec_det tab_ok Try.call53 Try.func53 rfl 24 Try.ntmps53 (of_decide_eq_true rfl) fun B => codeK_sound tab_ok _ _ _ ?_
  unfold encBk encBkO
  simp (config := { maxSteps := 4000000 }) only [go_sem, Nat.reduceEqDiff, Nat.reduceAdd, Nat.reduceMul, Nat.reduceSub, Nat.reduceLT, Nat.reduceLeDiff, reduceIte, reduceCtorEq, Int.reduceToNat, Int.reduceLE, Int.reduceLT, Int.reduceEq, Int.reduceGT, Int.reduceGE, Int.reduceAdd, Int.reduceSub, Int.reduceNeg, Int.reduceMul, ↓bT, ↓bF, ↓backK_top, ↓backK_int, ↓backK_bool, ↓backK_sl, ↓backK_fn, ↓backK_agg, ↓backK_tup, ↓backK_pel, ↓backK_osl, ↓backK_may, ↓backK_box, ↓bothTT, ↓bothTF, ↓bothFT, ↓bothFF, bothTT, bothTF, bothFT, bothFF, ↓bothTT, ↓bothTF, ↓bothFT, ↓bothFF, ↓bothNT, ↓bothNF, ↓bothCT, ↓bothCF, Try.f53]
  refine CallTo.det (c_laws_toActionS n b.list hx) fun _ => ?_
  simp (config := { maxSteps := 4000000 }) only [go_sem, Nat.reduceEqDiff, Nat.reduceAdd, Nat.reduceMul, Nat.reduceSub, Nat.reduceLT, Nat.reduceLeDiff, reduceIte, reduceCtorEq, Int.reduceToNat, Int.reduceLE, Int.reduceLT, Int.reduceEq, Int.reduceGT, Int.reduceGE, Int.reduceAdd, Int.reduceSub, Int.reduceNeg, Int.reduceMul, ↓bT, ↓bF, ↓backK_top, ↓backK_int, ↓backK_bool, ↓backK_sl, ↓backK_fn, ↓backK_agg, ↓backK_tup, ↓backK_pel, ↓backK_osl, ↓backK_may, ↓backK_box, ↓bothTT, ↓bothTF, ↓bothFT, ↓bothFF, bothTT, bothTF, bothFT, bothFF, ↓bothTT, ↓bothTF, ↓bothFT, ↓bothFF, ↓bothNT, ↓bothNF, ↓bothCT, ↓bothCF, Try.f53, rows_length]
  simp

theorem c_laws_toBlockS (n1 : Option Bool) (xs : List Block) (hx : xs.length < 2 ^ 32) (hl : ∀ b, b ∈ xs → b.list.length < 2 ^ 32) :
    Det Try.prog 97 [.sl n1 (rows encB1 xs)] (.osl true 6 (rows encB1 xs)) := by
  refine fspec_det tab_ok Try.call97 Try.func97 rfl 23 Try.ntmps97 (of_decide_eq_true rfl) fun B => codeK_sound tab_ok _ _ _ ?_
  have hx62 : xs.length < 2 ^ 62 := by omega
  simp (config := { maxSteps := 4000000 }) only [go_sem, Nat.reduceEqDiff, Nat.reduceAdd, Nat.reduceMul, Nat.reduceSub, Nat.reduceLT, Nat.reduceLeDiff, reduceIte, reduceCtorEq, Int.reduceToNat, Int.reduceLE, Int.reduceLT, Int.reduceEq, Int.reduceGT, Int.reduceGE, Int.reduceAdd, Int.reduceSub, Int.reduceNeg, Int.reduceMul, ↓bT, ↓bF, ↓backK_top, ↓backK_int, ↓backK_bool, ↓backK_sl, ↓backK_fn, ↓backK_agg, ↓backK_tup, ↓backK_pel, ↓backK_osl, ↓backK_may, ↓backK_box, ↓bothTT, ↓bothTF, ↓bothFT, ↓bothFF, bothTT, bothTF, bothFT, bothFF, ↓bothTT, ↓bothTF, ↓bothFT, ↓bothFF, ↓bothNT, ↓bothNF, ↓bothCT, ↓bothCF, Try.f97, rows_length]
  repeat refine And.intro (by first | omega | (simp; done) | (simp; omega) | assumption) ?_
  refine semL_for tab_ok (fun i : Nat => ⟨23, [(0, .sl n1 (rows encB1 xs)), (3, .row 7 xs.length), (4, .int .i64 i)], [(7, .row true true 6 (rows encB1 (xs.take i ++ List.replicate (xs.length - i) (⟨0, 0, 0, [], 0, 0⟩ : Block))))]⟩) (fun i => xs.length - i)
    (fun i => i ≤ xs.length) 0 [(7, 7)] (Weak.of (by rfl) ?_ ?_ (by rfl)) (by omega) ?_
  · simp (config := { maxSteps := 4000000 }) only [go_sem, Nat.reduceEqDiff, Nat.reduceAdd, Nat.reduceMul, Nat.reduceSub, Nat.reduceLT, Nat.reduceLeDiff, reduceIte, reduceCtorEq, Int.reduceToNat, Int.reduceLE, Int.reduceLT, Int.reduceEq, Int.reduceGT, Int.reduceGE, Int.reduceAdd, Int.reduceSub, Int.reduceNeg, Int.reduceMul, ↓bT, ↓bF, ↓backK_top, ↓backK_int, ↓backK_bool, ↓backK_sl, ↓backK_fn, ↓backK_agg, ↓backK_tup, ↓backK_pel, ↓backK_osl, ↓backK_may, ↓backK_box, ↓bothTT, ↓bothTF, ↓bothFT, ↓bothFF, bothTT, bothTF, bothFT, bothFF, ↓bothTT, ↓bothTF, ↓bothFT, ↓bothFF, ↓bothNT, ↓bothNF, ↓bothCT, ↓bothCF, Try.f97, frW, wk2, wk1, wkL, wkB, hpW, List.mem_cons, Prod.mk.injEq, exists_eq_left, exists_eq_right, exists_eq]
    simp [rows, encB1, encBk]
  · simp (config := { maxSteps := 4000000 }) only [go_sem, Nat.reduceEqDiff, Nat.reduceAdd, Nat.reduceMul, Nat.reduceSub, Nat.reduceLT, Nat.reduceLeDiff, reduceIte, reduceCtorEq, Int.reduceToNat, Int.reduceLE, Int.reduceLT, Int.reduceEq, Int.reduceGT, Int.reduceGE, Int.reduceAdd, Int.reduceSub, Int.reduceNeg, Int.reduceMul, ↓bT, ↓bF, ↓backK_top, ↓backK_int, ↓backK_bool, ↓backK_sl, ↓backK_fn, ↓backK_agg, ↓backK_tup, ↓backK_pel, ↓backK_osl, ↓backK_may, ↓backK_box, ↓bothTT, ↓bothTF, ↓bothFT, ↓bothFF, bothTT, bothTF, bothFT, bothFF, ↓bothTT, ↓bothTF, ↓bothFT, ↓bothFF, ↓bothNT, ↓bothNF, ↓bothCT, ↓bothCF, Try.f97, frW, wk2, wk1, wkL, wkB, hpW, List.mem_cons, Prod.mk.injEq, exists_eq_left, exists_eq_right, exists_eq]
  · rintro i hi
    by_cases h : i < xs.length
    · have hm : i < (xs.take i ++ List.replicate (xs.length - i) (⟨0, 0, 0, [], 0, 0⟩ : Block)).length := by simp; omega
      simp (config := { maxSteps := 4000000 }) only [go_sem, Nat.reduceEqDiff, Nat.reduceAdd, Nat.reduceMul, Nat.reduceSub, Nat.reduceLT, Nat.reduceLeDiff, reduceIte, reduceCtorEq, Int.reduceToNat, Int.reduceLE, Int.reduceLT, Int.reduceEq, Int.reduceGT, Int.reduceGE, Int.reduceAdd, Int.reduceSub, Int.reduceNeg, Int.reduceMul, ↓bT, ↓bF, ↓backK_top, ↓backK_int, ↓backK_bool, ↓backK_sl, ↓backK_fn, ↓backK_agg, ↓backK_tup, ↓backK_pel, ↓backK_osl, ↓backK_may, ↓backK_box, ↓bothTT, ↓bothTF, ↓bothFT, ↓bothFF, bothTT, bothTF, bothFT, bothFF, ↓bothTT, ↓bothTF, ↓bothFT, ↓bothFF, ↓bothNT, ↓bothNF, ↓bothCT, ↓bothCF, Try.f97, rows_length, rows_get _ _ _ h, encB1, encBk, nlt h, nn0]
      refine CallTo.det (c_laws_toBlock none xs[i] (hl _ (List.getElem_mem h))) fun _ => ?_
      simp (config := { maxSteps := 4000000 }) only [go_sem, Nat.reduceEqDiff, Nat.reduceAdd, Nat.reduceMul, Nat.reduceSub, Nat.reduceLT, Nat.reduceLeDiff, reduceIte, reduceCtorEq, Int.reduceToNat, Int.reduceLE, Int.reduceLT, Int.reduceEq, Int.reduceGT, Int.reduceGE, Int.reduceAdd, Int.reduceSub, Int.reduceNeg, Int.reduceMul, ↓bT, ↓bF, ↓backK_top, ↓backK_int, ↓backK_bool, ↓backK_sl, ↓backK_fn, ↓backK_agg, ↓backK_tup, ↓backK_pel, ↓backK_osl, ↓backK_may, ↓backK_box, ↓bothTT, ↓bothTF, ↓bothFT, ↓bothFF, bothTT, bothTF, bothFT, bothFF, ↓bothTT, ↓bothTF, ↓bothFT, ↓bothFF, ↓bothNT, ↓bothNF, ↓bothCT, ↓bothCF, Try.f97, rows_length, rows_get _ _ _ h, rows_get _ _ _ hm, hm, encB1, encBk, encBkO, nlt h, nn0, wsucc h hx62]
      repeat refine And.intro (by first | omega | (simp; done) | (simp; omega) | assumption) ?_
      refine ⟨i + 1, [(7, 7)], by omega, by dsimp only; omega, Weak.of (by rfl) ?_ ?_ (by rfl)⟩
      · simp (config := { maxSteps := 4000000 }) only [go_sem, Nat.reduceEqDiff, Nat.reduceAdd, Nat.reduceMul, Nat.reduceSub, Nat.reduceLT, Nat.reduceLeDiff, reduceIte, reduceCtorEq, Int.reduceToNat, Int.reduceLE, Int.reduceLT, Int.reduceEq, Int.reduceGT, Int.reduceGE, Int.reduceAdd, Int.reduceSub, Int.reduceNeg, Int.reduceMul, ↓bT, ↓bF, ↓backK_top, ↓backK_int, ↓backK_bool, ↓backK_sl, ↓backK_fn, ↓backK_agg, ↓backK_tup, ↓backK_pel, ↓backK_osl, ↓backK_may, ↓backK_box, ↓bothTT, ↓bothTF, ↓bothFT, ↓bothFF, bothTT, bothTF, bothFT, bothFF, ↓bothTT, ↓bothTF, ↓bothFT, ↓bothFF, ↓bothNT, ↓bothNF, ↓bothCT, ↓bothCF, Try.f97, frW, wk2, wk1, wkL, wkB, hpW, List.mem_cons, Prod.mk.injEq, exists_eq_left, exists_eq_right, exists_eq]
        first
          | done
          | (refine (congrArg (rows encB1) (fill_step xs (⟨0, 0, 0, [], 0, 0⟩ : Block) (⟨0, 0, 0, [], 0, 0⟩ : Block) i h)).symm.trans ?_; rw [← rows_set, getD_at _ _ _ h]; rfl)
      · simp (config := { maxSteps := 4000000 }) only [go_sem, Nat.reduceEqDiff, Nat.reduceAdd, Nat.reduceMul, Nat.reduceSub, Nat.reduceLT, Nat.reduceLeDiff, reduceIte, reduceCtorEq, Int.reduceToNat, Int.reduceLE, Int.reduceLT, Int.reduceEq, Int.reduceGT, Int.reduceGE, Int.reduceAdd, Int.reduceSub, Int.reduceNeg, Int.reduceMul, ↓bT, ↓bF, ↓backK_top, ↓backK_int, ↓backK_bool, ↓backK_sl, ↓backK_fn, ↓backK_agg, ↓backK_tup, ↓backK_pel, ↓backK_osl, ↓backK_may, ↓backK_box, ↓bothTT, ↓bothTF, ↓bothFT, ↓bothFF, bothTT, bothTF, bothFT, bothFF, ↓bothTT, ↓bothTF, ↓bothFT, ↓bothFF, ↓bothNT, ↓bothNF, ↓bothCT, ↓bothCF, Try.f97, wsucc h hx62, frW, wk2, wk1, wkL, wkB, hpW, List.mem_cons, Prod.mk.injEq, exists_eq_left, exists_eq_right, exists_eq]
    · have : i = xs.length := by omega
      subst this
      simp (config := { maxSteps := 4000000 }) only [go_sem, Nat.reduceEqDiff, Nat.reduceAdd, Nat.reduceMul, Nat.reduceSub, Nat.reduceLT, Nat.reduceLeDiff, reduceIte, reduceCtorEq, Int.reduceToNat, Int.reduceLE, Int.reduceLT, Int.reduceEq, Int.reduceGT, Int.reduceGE, Int.reduceAdd, Int.reduceSub, Int.reduceNeg, Int.reduceMul, ↓bT, ↓bF, ↓backK_top, ↓backK_int, ↓backK_bool, ↓backK_sl, ↓backK_fn, ↓backK_agg, ↓backK_tup, ↓backK_pel, ↓backK_osl, ↓backK_may, ↓backK_box, ↓bothTT, ↓bothTF, ↓bothFT, ↓bothFF, bothTT, bothTF, bothFT, bothFF, ↓bothTT, ↓bothTF, ↓bothFT, ↓bothFF, ↓bothNT, ↓bothNF, ↓bothCT, ↓bothCF, Try.f97, rows_length, nlf h]
      simp


theorem c_laws_toIntS (n1 : Option Bool) (xs : List Int) (hx : xs.length < 2 ^ 32) :
    Det Try.prog 98 [.sl n1 (rows encI xs)] (.osl true 1 (rows encI xs)) := by
  refine fspec_det tab_ok Try.call98 Try.func98 rfl 22 Try.ntmps98 (of_decide_eq_true rfl) fun B => codeK_sound tab_ok _ _ _ ?_
  have hx62 : xs.length < 2 ^ 62 := by omega
  simp (config := { maxSteps := 4000000 }) only [go_sem, Nat.reduceEqDiff, Nat.reduceAdd, Nat.reduceMul, Nat.reduceSub, Nat.reduceLT, Nat.reduceLeDiff, reduceIte, reduceCtorEq, Int.reduceToNat, Int.reduceLE, Int.reduceLT, Int.reduceEq, Int.reduceGT, Int.reduceGE, Int.reduceAdd, Int.reduceSub, Int.reduceNeg, Int.reduceMul, ↓bT, ↓bF, ↓backK_top, ↓backK_int, ↓backK_bool, ↓backK_sl, ↓backK_fn, ↓backK_agg, ↓backK_tup, ↓backK_pel, ↓backK_osl, ↓backK_may, ↓backK_box, ↓bothTT, ↓bothTF, ↓bothFT, ↓bothFF, bothTT, bothTF, bothFT, bothFF, ↓bothTT, ↓bothTF, ↓bothFT, ↓bothFF, ↓bothNT, ↓bothNF, ↓bothCT, ↓bothCF, Try.f98, rows_length]
  repeat refine And.intro (by first | omega | (simp; done) | (simp; omega) | assumption) ?_
  refine semL_for tab_ok (fun i : Nat => ⟨22, [(0, .sl n1 (rows encI xs)), (3, .row 7 xs.length), (4, .int .i64 i)], [(7, .row true true 1 (rows encI (xs.take i ++ List.replicate (xs.length - i) 0)))]⟩) (fun i => xs.length - i)
    (fun i => i ≤ xs.length) 0 [(7, 7)] (Weak.of (by rfl) ?_ ?_ (by rfl)) (by omega) ?_
  · simp (config := { maxSteps := 4000000 }) only [go_sem, Nat.reduceEqDiff, Nat.reduceAdd, Nat.reduceMul, Nat.reduceSub, Nat.reduceLT, Nat.reduceLeDiff, reduceIte, reduceCtorEq, Int.reduceToNat, Int.reduceLE, Int.reduceLT, Int.reduceEq, Int.reduceGT, Int.reduceGE, Int.reduceAdd, Int.reduceSub, Int.reduceNeg, Int.reduceMul, ↓bT, ↓bF, ↓backK_top, ↓backK_int, ↓backK_bool, ↓backK_sl, ↓backK_fn, ↓backK_agg, ↓backK_tup, ↓backK_pel, ↓backK_osl, ↓backK_may, ↓backK_box, ↓bothTT, ↓bothTF, ↓bothFT, ↓bothFF, bothTT, bothTF, bothFT, bothFF, ↓bothTT, ↓bothTF, ↓bothFT, ↓bothFF, ↓bothNT, ↓bothNF, ↓bothCT, ↓bothCF, Try.f98, frW, wk2, wk1, wkL, wkB, hpW, List.mem_cons, Prod.mk.injEq, exists_eq_left, exists_eq_right, exists_eq]
    simp [rows, encI]
  · simp (config := { maxSteps := 4000000 }) only [go_sem, Nat.reduceEqDiff, Nat.reduceAdd, Nat.reduceMul, Nat.reduceSub, Nat.reduceLT, Nat.reduceLeDiff, reduceIte, reduceCtorEq, Int.reduceToNat, Int.reduceLE, Int.reduceLT, Int.reduceEq, Int.reduceGT, Int.reduceGE, Int.reduceAdd, Int.reduceSub, Int.reduceNeg, Int.reduceMul, ↓bT, ↓bF, ↓backK_top, ↓backK_int, ↓backK_bool, ↓backK_sl, ↓backK_fn, ↓backK_agg, ↓backK_tup, ↓backK_pel, ↓backK_osl, ↓backK_may, ↓backK_box, ↓bothTT, ↓bothTF, ↓bothFT, ↓bothFF, bothTT, bothTF, bothFT, bothFF, ↓bothTT, ↓bothTF, ↓bothFT, ↓bothFF, ↓bothNT, ↓bothNF, ↓bothCT, ↓bothCF, Try.f98, frW, wk2, wk1, wkL, wkB, hpW, List.mem_cons, Prod.mk.injEq, exists_eq_left, exists_eq_right, exists_eq]
  · rintro i hi
    by_cases h : i < xs.length
    · have hm : i < (xs.take i ++ List.replicate (xs.length - i) 0).length := by simp; omega
      simp (config := { maxSteps := 4000000 }) only [go_sem, Nat.reduceEqDiff, Nat.reduceAdd, Nat.reduceMul, Nat.reduceSub, Nat.reduceLT, Nat.reduceLeDiff, reduceIte, reduceCtorEq, Int.reduceToNat, Int.reduceLE, Int.reduceLT, Int.reduceEq, Int.reduceGT, Int.reduceGE, Int.reduceAdd, Int.reduceSub, Int.reduceNeg, Int.reduceMul, ↓bT, ↓bF, ↓backK_top, ↓backK_int, ↓backK_bool, ↓backK_sl, ↓backK_fn, ↓backK_agg, ↓backK_tup, ↓backK_pel, ↓backK_osl, ↓backK_may, ↓backK_box, ↓bothTT, ↓bothTF, ↓bothFT, ↓bothFF, bothTT, bothTF, bothFT, bothFF, ↓bothTT, ↓bothTF, ↓bothFT, ↓bothFF, ↓bothNT, ↓bothNF, ↓bothCT, ↓bothCF, Try.f98, rows_length, rows_get _ _ _ h, rows_get _ _ _ hm, hm, encI, nlt h, nn0, wsucc h hx62]
      repeat refine And.intro (by first | omega | (simp; done) | (simp; omega) | assumption) ?_
      refine ⟨i + 1, [(7, 7)], by omega, by dsimp only; omega, Weak.of (by rfl) ?_ ?_ (by rfl)⟩
      · simp (config := { maxSteps := 4000000 }) only [go_sem, Nat.reduceEqDiff, Nat.reduceAdd, Nat.reduceMul, Nat.reduceSub, Nat.reduceLT, Nat.reduceLeDiff, reduceIte, reduceCtorEq, Int.reduceToNat, Int.reduceLE, Int.reduceLT, Int.reduceEq, Int.reduceGT, Int.reduceGE, Int.reduceAdd, Int.reduceSub, Int.reduceNeg, Int.reduceMul, ↓bT, ↓bF, ↓backK_top, ↓backK_int, ↓backK_bool, ↓backK_sl, ↓backK_fn, ↓backK_agg, ↓backK_tup, ↓backK_pel, ↓backK_osl, ↓backK_may, ↓backK_box, ↓bothTT, ↓bothTF, ↓bothFT, ↓bothFF, bothTT, bothTF, bothFT, bothFF, ↓bothTT, ↓bothTF, ↓bothFT, ↓bothFF, ↓bothNT, ↓bothNF, ↓bothCT, ↓bothCF, Try.f98, frW, wk2, wk1, wkL, wkB, hpW, List.mem_cons, Prod.mk.injEq, exists_eq_left, exists_eq_right, exists_eq]
        first
          | done
          | (refine (congrArg (rows encI) (fill_step xs 0 0 i h)).symm.trans ?_; rw [← rows_set, getD_at _ _ _ h]; rfl)
      · simp (config := { maxSteps := 4000000 }) only [go_sem, Nat.reduceEqDiff, Nat.reduceAdd, Nat.reduceMul, Nat.reduceSub, Nat.reduceLT, Nat.reduceLeDiff, reduceIte, reduceCtorEq, Int.reduceToNat, Int.reduceLE, Int.reduceLT, Int.reduceEq, Int.reduceGT, Int.reduceGE, Int.reduceAdd, Int.reduceSub, Int.reduceNeg, Int.reduceMul, ↓bT, ↓bF, ↓backK_top, ↓backK_int, ↓backK_bool, ↓backK_sl, ↓backK_fn, ↓backK_agg, ↓backK_tup, ↓backK_pel, ↓backK_osl, ↓backK_may, ↓backK_box, ↓bothTT, ↓bothTF, ↓bothFT, ↓bothFF, bothTT, bothTF, bothFT, bothFF, ↓bothTT, ↓bothTF, ↓bothFT, ↓bothFF, ↓bothNT, ↓bothNF, ↓bothCT, ↓bothCF, Try.f98, wsucc h hx62, frW, wk2, wk1, wkL, wkB, hpW, List.mem_cons, Prod.mk.injEq, exists_eq_left, exists_eq_right, exists_eq]
    · have : i = xs.length := by omega
      subst this
      simp (config := { maxSteps := 4000000 }) only [go_sem, Nat.reduceEqDiff, Nat.reduceAdd, Nat.reduceMul, Nat.reduceSub, Nat.reduceLT, Nat.reduceLeDiff, reduceIte, reduceCtorEq, Int.reduceToNat, Int.reduceLE, Int.reduceLT, Int.reduceEq, Int.reduceGT, Int.reduceGE, Int.reduceAdd, Int.reduceSub, Int.reduceNeg, Int.reduceMul, ↓bT, ↓bF, ↓backK_top, ↓backK_int, ↓backK_bool, ↓backK_sl, ↓backK_fn, ↓backK_agg, ↓backK_tup, ↓backK_pel, ↓backK_osl, ↓backK_may, ↓backK_box, ↓bothTT, ↓bothTF, ↓bothFT, ↓bothFF, bothTT, bothTF, bothFT, bothFF, ↓bothTT, ↓bothTF, ↓bothFT, ↓bothFF, ↓bothNT, ↓bothNF, ↓bothCT, ↓bothCF, Try.f98, rows_length, nlf h]
      simp

/-- Sizes of a law's tree. -/
structure TreeS32 (t : Tree) : Prop where
  base : t.base.length < 2 ^ 32
  blocks : t.blocks.length < 2 ^ 32
  before : t.before.length < 2 ^ 32
  list : ∀ b, b ∈ t.blocks → b.list.length < 2 ^ 32

theorem TreeS32.sz {t : Tree} (h : TreeS32 t) : TreeSz t := ⟨by have := h.base; omega, by have := h.blocks; omega, by have := h.before; omega, fun b hb => by have := h.list b hb; omega⟩

def encTO (t : Tree) : List AV := [.osl true 2 (rows encE t.base), .osl true 6 (rows encB1 t.blocks), .osl true 1 (rows encI t.before)]

theorem c_laws_toBlockTree (n1 n2 n3 : Option Bool) (t : Tree) (hx : TreeS32 t) : Det Try.prog 34 [.agg (encT n1 n2 n3 t)] (.agg (encTO t)) := by
  refine fspec_det tab_ok Try.call34 Try.func34 rfl 17 Try.ntmps34 (of_decide_eq_true rfl) fun B => codeK_sound tab_ok _ _ _ ?_
  unfold encT encTO
  simp (config := { maxSteps := 4000000 }) only [go_sem, Nat.reduceEqDiff, Nat.reduceAdd, Nat.reduceMul, Nat.reduceSub, Nat.reduceLT, Nat.reduceLeDiff, reduceIte, reduceCtorEq, Int.reduceToNat, Int.reduceLE, Int.reduceLT, Int.reduceEq, Int.reduceGT, Int.reduceGE, Int.reduceAdd, Int.reduceSub, Int.reduceNeg, Int.reduceMul, ↓bT, ↓bF, ↓backK_top, ↓backK_int, ↓backK_bool, ↓backK_sl, ↓backK_fn, ↓backK_agg, ↓backK_tup, ↓backK_pel, ↓backK_osl, ↓backK_may, ↓backK_box, ↓bothTT, ↓bothTF, ↓bothFT, ↓bothFF, bothTT, bothTF, bothFT, bothFF, ↓bothTT, ↓bothTF, ↓bothFT, ↓bothFF, ↓bothNT, ↓bothNF, ↓bothCT, ↓bothCF, Try.f34]
  refine CallTo.det (c_laws_toEntryS _ _ hx.base) fun _ => ?_
  simp (config := { maxSteps := 4000000 }) only [go_sem, Nat.reduceEqDiff, Nat.reduceAdd, Nat.reduceMul, Nat.reduceSub, Nat.reduceLT, Nat.reduceLeDiff, reduceIte, reduceCtorEq, Int.reduceToNat, Int.reduceLE, Int.reduceLT, Int.reduceEq, Int.reduceGT, Int.reduceGE, Int.reduceAdd, Int.reduceSub, Int.reduceNeg, Int.reduceMul, ↓bT, ↓bF, ↓backK_top, ↓backK_int, ↓backK_bool, ↓backK_sl, ↓backK_fn, ↓backK_agg, ↓backK_tup, ↓backK_pel, ↓backK_osl, ↓backK_may, ↓backK_box, ↓bothTT, ↓bothTF, ↓bothFT, ↓bothFF, bothTT, bothTF, bothFT, bothFF, ↓bothTT, ↓bothTF, ↓bothFT, ↓bothFF, ↓bothNT, ↓bothNF, ↓bothCT, ↓bothCF, Try.f34, rows_length]
  refine CallTo.det (c_laws_toBlockS _ _ hx.blocks hx.list) fun _ => ?_
  simp (config := { maxSteps := 4000000 }) only [go_sem, Nat.reduceEqDiff, Nat.reduceAdd, Nat.reduceMul, Nat.reduceSub, Nat.reduceLT, Nat.reduceLeDiff, reduceIte, reduceCtorEq, Int.reduceToNat, Int.reduceLE, Int.reduceLT, Int.reduceEq, Int.reduceGT, Int.reduceGE, Int.reduceAdd, Int.reduceSub, Int.reduceNeg, Int.reduceMul, ↓bT, ↓bF, ↓backK_top, ↓backK_int, ↓backK_bool, ↓backK_sl, ↓backK_fn, ↓backK_agg, ↓backK_tup, ↓backK_pel, ↓backK_osl, ↓backK_may, ↓backK_box, ↓bothTT, ↓bothTF, ↓bothFT, ↓bothFF, bothTT, bothTF, bothFT, bothFF, ↓bothTT, ↓bothTF, ↓bothFT, ↓bothFF, ↓bothNT, ↓bothNF, ↓bothCT, ↓bothCF, Try.f34, rows_length]
  refine CallTo.det (c_laws_toIntS _ _ hx.before) fun _ => ?_
  simp (config := { maxSteps := 4000000 }) only [go_sem, Nat.reduceEqDiff, Nat.reduceAdd, Nat.reduceMul, Nat.reduceSub, Nat.reduceLT, Nat.reduceLeDiff, reduceIte, reduceCtorEq, Int.reduceToNat, Int.reduceLE, Int.reduceLT, Int.reduceEq, Int.reduceGT, Int.reduceGE, Int.reduceAdd, Int.reduceSub, Int.reduceNeg, Int.reduceMul, ↓bT, ↓bF, ↓backK_top, ↓backK_int, ↓backK_bool, ↓backK_sl, ↓backK_fn, ↓backK_agg, ↓backK_tup, ↓backK_pel, ↓backK_osl, ↓backK_may, ↓backK_box, ↓bothTT, ↓bothTF, ↓bothFT, ↓bothFF, bothTT, bothTF, bothFT, bothFF, ↓bothTT, ↓bothTF, ↓bothFT, ↓bothFF, ↓bothNT, ↓bothNF, ↓bothCT, ↓bothCF, Try.f34, rows_length]
  simp

end Go.Proofs.Ytdaemhaecjldaaa

/- Contracts: the laws' sizes and tests. -/
set_option linter.unusedSimpArgs false
set_option linter.unusedVariables false
set_option maxRecDepth 20000
set_option maxHeartbeats 4000000
namespace Go.Proofs.Ytdaemhaecjldaaa
open Go Go.RowKit

/-- What is left of a size. -/
def szI (left : Int) (n : Nat) : Int := if left - n < 0 then -1 else left - n

theorem szI_bd {left : Int} {n : Nat} (h : left ≤ 1048576) : szI left n ≤ 1048576 ∧ (0 ≤ szI left n → n ≤ 1048576) := by
  unfold szI; split <;> omega

theorem c_laws_szEntryS (n1 : Option Bool) (xs : List Entry) (left : Int) (hx : xs.length ≤ 9223372036854775807) (hl : 0 ≤ left ∧ left ≤ 1048576) : Det Try.prog 19 [.sl n1 (rows encE xs), .int .i64 left] (.int .i64 (szI left xs.length)) := by
  refine fspec_det tab_ok Try.call19 Try.func19 rfl 12 Try.ntmps19 (of_decide_eq_true rfl) fun B => codeK_sound tab_ok _ _ _ ?_
  have hw : IntKind.i64.wrap (left - (xs.length : Int)) = left - xs.length := wrap_small _ (by omega) (by omega)
  cases h : decide (left - (xs.length : Int) < 0) with
  | true => simp (config := { maxSteps := 4000000 }) only [go_sem, Nat.reduceEqDiff, Nat.reduceAdd, Nat.reduceMul, Nat.reduceSub, Nat.reduceLT, Nat.reduceLeDiff, reduceIte, reduceCtorEq, Int.reduceToNat, Int.reduceLE, Int.reduceLT, Int.reduceEq, Int.reduceGT, Int.reduceGE, Int.reduceAdd, Int.reduceSub, Int.reduceNeg, Int.reduceMul, ↓bT, ↓bF, ↓backK_top, ↓backK_int, ↓backK_bool, ↓backK_sl, ↓backK_fn, ↓backK_agg, ↓backK_tup, ↓backK_pel, ↓backK_osl, ↓backK_may, ↓backK_box, ↓bothTT, ↓bothTF, ↓bothFT, ↓bothFF, bothTT, bothTF, bothFT, bothFF, ↓bothTT, ↓bothTF, ↓bothFT, ↓bothFF, ↓bothNT, ↓bothNF, ↓bothCT, ↓bothCF, Try.f19, rows_length, hw, h, szI, of_decide_eq_true h]
  | false => simp (config := { maxSteps := 4000000 }) only [go_sem, Nat.reduceEqDiff, Nat.reduceAdd, Nat.reduceMul, Nat.reduceSub, Nat.reduceLT, Nat.reduceLeDiff, reduceIte, reduceCtorEq, Int.reduceToNat, Int.reduceLE, Int.reduceLT, Int.reduceEq, Int.reduceGT, Int.reduceGE, Int.reduceAdd, Int.reduceSub, Int.reduceNeg, Int.reduceMul, ↓bT, ↓bF, ↓backK_top, ↓backK_int, ↓backK_bool, ↓backK_sl, ↓backK_fn, ↓backK_agg, ↓backK_tup, ↓backK_pel, ↓backK_osl, ↓backK_may, ↓backK_box, ↓bothTT, ↓bothTF, ↓bothFT, ↓bothFF, bothTT, bothTF, bothFT, bothFF, ↓bothTT, ↓bothTF, ↓bothFT, ↓bothFF, ↓bothNT, ↓bothNF, ↓bothCT, ↓bothCF, Try.f19, rows_length, hw, h, szI, of_decide_eq_false h]

theorem c_laws_szActionS (n1 : Option Bool) (xs : List Action) (left : Int) (hx : xs.length ≤ 9223372036854775807) (hl : 0 ≤ left ∧ left ≤ 1048576) : Det Try.prog 20 [.sl n1 (rows encA xs), .int .i64 left] (.int .i64 (szI left xs.length)) := by
  refine fspec_det tab_ok Try.call20 Try.func20 rfl 12 Try.ntmps20 (of_decide_eq_true rfl) fun B => codeK_sound tab_ok _ _ _ ?_
  have hw : IntKind.i64.wrap (left - (xs.length : Int)) = left - xs.length := wrap_small _ (by omega) (by omega)
  cases h : decide (left - (xs.length : Int) < 0) with
  | true => simp (config := { maxSteps := 4000000 }) only [go_sem, Nat.reduceEqDiff, Nat.reduceAdd, Nat.reduceMul, Nat.reduceSub, Nat.reduceLT, Nat.reduceLeDiff, reduceIte, reduceCtorEq, Int.reduceToNat, Int.reduceLE, Int.reduceLT, Int.reduceEq, Int.reduceGT, Int.reduceGE, Int.reduceAdd, Int.reduceSub, Int.reduceNeg, Int.reduceMul, ↓bT, ↓bF, ↓backK_top, ↓backK_int, ↓backK_bool, ↓backK_sl, ↓backK_fn, ↓backK_agg, ↓backK_tup, ↓backK_pel, ↓backK_osl, ↓backK_may, ↓backK_box, ↓bothTT, ↓bothTF, ↓bothFT, ↓bothFF, bothTT, bothTF, bothFT, bothFF, ↓bothTT, ↓bothTF, ↓bothFT, ↓bothFF, ↓bothNT, ↓bothNF, ↓bothCT, ↓bothCF, Try.f20, rows_length, hw, h, szI, of_decide_eq_true h]
  | false => simp (config := { maxSteps := 4000000 }) only [go_sem, Nat.reduceEqDiff, Nat.reduceAdd, Nat.reduceMul, Nat.reduceSub, Nat.reduceLT, Nat.reduceLeDiff, reduceIte, reduceCtorEq, Int.reduceToNat, Int.reduceLE, Int.reduceLT, Int.reduceEq, Int.reduceGT, Int.reduceGE, Int.reduceAdd, Int.reduceSub, Int.reduceNeg, Int.reduceMul, ↓bT, ↓bF, ↓backK_top, ↓backK_int, ↓backK_bool, ↓backK_sl, ↓backK_fn, ↓backK_agg, ↓backK_tup, ↓backK_pel, ↓backK_osl, ↓backK_may, ↓backK_box, ↓bothTT, ↓bothTF, ↓bothFT, ↓bothFF, bothTT, bothTF, bothFT, bothFF, ↓bothTT, ↓bothTF, ↓bothFT, ↓bothFF, ↓bothNT, ↓bothNF, ↓bothCT, ↓bothCF, Try.f20, rows_length, hw, h, szI, of_decide_eq_false h]

theorem c_laws_szIntS (n1 : Option Bool) (xs : List Int) (left : Int) (hx : xs.length ≤ 9223372036854775807) (hl : 0 ≤ left ∧ left ≤ 1048576) : Det Try.prog 95 [.sl n1 (rows encI xs), .int .i64 left] (.int .i64 (szI left xs.length)) := by
  refine fspec_det tab_ok Try.call95 Try.func95 rfl 12 Try.ntmps95 (of_decide_eq_true rfl) fun B => codeK_sound tab_ok _ _ _ ?_
  have hw : IntKind.i64.wrap (left - (xs.length : Int)) = left - xs.length := wrap_small _ (by omega) (by omega)
  cases h : decide (left - (xs.length : Int) < 0) with
  | true => simp (config := { maxSteps := 4000000 }) only [go_sem, Nat.reduceEqDiff, Nat.reduceAdd, Nat.reduceMul, Nat.reduceSub, Nat.reduceLT, Nat.reduceLeDiff, reduceIte, reduceCtorEq, Int.reduceToNat, Int.reduceLE, Int.reduceLT, Int.reduceEq, Int.reduceGT, Int.reduceGE, Int.reduceAdd, Int.reduceSub, Int.reduceNeg, Int.reduceMul, ↓bT, ↓bF, ↓backK_top, ↓backK_int, ↓backK_bool, ↓backK_sl, ↓backK_fn, ↓backK_agg, ↓backK_tup, ↓backK_pel, ↓backK_osl, ↓backK_may, ↓backK_box, ↓bothTT, ↓bothTF, ↓bothFT, ↓bothFF, bothTT, bothTF, bothFT, bothFF, ↓bothTT, ↓bothTF, ↓bothFT, ↓bothFF, ↓bothNT, ↓bothNF, ↓bothCT, ↓bothCF, Try.f95, rows_length, hw, h, szI, of_decide_eq_true h]
  | false => simp (config := { maxSteps := 4000000 }) only [go_sem, Nat.reduceEqDiff, Nat.reduceAdd, Nat.reduceMul, Nat.reduceSub, Nat.reduceLT, Nat.reduceLeDiff, reduceIte, reduceCtorEq, Int.reduceToNat, Int.reduceLE, Int.reduceLT, Int.reduceEq, Int.reduceGT, Int.reduceGE, Int.reduceAdd, Int.reduceSub, Int.reduceNeg, Int.reduceMul, ↓bT, ↓bF, ↓backK_top, ↓backK_int, ↓backK_bool, ↓backK_sl, ↓backK_fn, ↓backK_agg, ↓backK_tup, ↓backK_pel, ↓backK_osl, ↓backK_may, ↓backK_box, ↓bothTT, ↓bothTF, ↓bothFT, ↓bothFF, bothTT, bothTF, bothFT, bothFF, ↓bothTT, ↓bothTF, ↓bothFT, ↓bothFF, ↓bothNT, ↓bothNF, ↓bothCT, ↓bothCF, Try.f95, rows_length, hw, h, szI, of_decide_eq_false h]

theorem c_laws_szBlock (n : Option Bool) (b : Block) (left : Int) (hx : b.list.length ≤ 9223372036854775807) (hl : 0 ≤ left ∧ left ≤ 1048576) : Det Try.prog 51 [.agg (encBk n b), .int .i64 left] (.int .i64 (szI left b.list.length)) := by
  refine fspec_det tab_ok Try.call51 Try.func51 rfl 12 Try.ntmps51 (of_decide_eq_true rfl) fun B => codeK_sound tab_ok _ _ _ ?_
  unfold encBk
  simp (config := { maxSteps := 4000000 }) only [go_sem, Nat.reduceEqDiff, Nat.reduceAdd, Nat.reduceMul, Nat.reduceSub, Nat.reduceLT, Nat.reduceLeDiff, reduceIte, reduceCtorEq, Int.reduceToNat, Int.reduceLE, Int.reduceLT, Int.reduceEq, Int.reduceGT, Int.reduceGE, Int.reduceAdd, Int.reduceSub, Int.reduceNeg, Int.reduceMul, ↓bT, ↓bF, ↓backK_top, ↓backK_int, ↓backK_bool, ↓backK_sl, ↓backK_fn, ↓backK_agg, ↓backK_tup, ↓backK_pel, ↓backK_osl, ↓backK_may, ↓backK_box, ↓bothTT, ↓bothTF, ↓bothFT, ↓bothFF, bothTT, bothTF, bothFT, bothFF, ↓bothTT, ↓bothTF, ↓bothFT, ↓bothFF, ↓bothNT, ↓bothNF, ↓bothCT, ↓bothCF, Try.f51]
  refine CallTo.det (c_laws_szActionS _ _ left hx hl) fun _ => ?_
  cases h : decide (szI left b.list.length < 0) with
  | true =>
    have : szI left b.list.length = -1 := by have := of_decide_eq_true h; unfold szI at *; split <;> simp_all
    simp (config := { maxSteps := 4000000 }) only [go_sem, Nat.reduceEqDiff, Nat.reduceAdd, Nat.reduceMul, Nat.reduceSub, Nat.reduceLT, Nat.reduceLeDiff, reduceIte, reduceCtorEq, Int.reduceToNat, Int.reduceLE, Int.reduceLT, Int.reduceEq, Int.reduceGT, Int.reduceGE, Int.reduceAdd, Int.reduceSub, Int.reduceNeg, Int.reduceMul, ↓bT, ↓bF, ↓backK_top, ↓backK_int, ↓backK_bool, ↓backK_sl, ↓backK_fn, ↓backK_agg, ↓backK_tup, ↓backK_pel, ↓backK_osl, ↓backK_may, ↓backK_box, ↓bothTT, ↓bothTF, ↓bothFT, ↓bothFF, bothTT, bothTF, bothFT, bothFF, ↓bothTT, ↓bothTF, ↓bothFT, ↓bothFF, ↓bothNT, ↓bothNF, ↓bothCT, ↓bothCF, Try.f51, h, this]
  | false => simp (config := { maxSteps := 4000000 }) only [go_sem, Nat.reduceEqDiff, Nat.reduceAdd, Nat.reduceMul, Nat.reduceSub, Nat.reduceLT, Nat.reduceLeDiff, reduceIte, reduceCtorEq, Int.reduceToNat, Int.reduceLE, Int.reduceLT, Int.reduceEq, Int.reduceGT, Int.reduceGE, Int.reduceAdd, Int.reduceSub, Int.reduceNeg, Int.reduceMul, ↓bT, ↓bF, ↓backK_top, ↓backK_int, ↓backK_bool, ↓backK_sl, ↓backK_fn, ↓backK_agg, ↓backK_tup, ↓backK_pel, ↓backK_osl, ↓backK_may, ↓backK_box, ↓bothTT, ↓bothTF, ↓bothFT, ↓bothFF, bothTT, bothTF, bothFT, bothFF, ↓bothTT, ↓bothTF, ↓bothFT, ↓bothFF, ↓bothNT, ↓bothNF, ↓bothCT, ↓bothCF, Try.f51, h]

def szBl : Int → List Block → Int
  | left, [] => left
  | left, b :: r => if szI left b.list.length < 0 then -1 else szBl (szI left b.list.length) r

def szBS (left : Int) (bs : List Block) : Int := if szI left bs.length < 0 then -1 else szBl (szI left bs.length) bs

theorem c_laws_szBlockS (n1 : Option Bool) (xs : List Block) (left : Int) (hx : xs.length ≤ 9223372036854775807) (hb : ∀ b, b ∈ xs → b.list.length ≤ 9223372036854775807) (hl : 0 ≤ left ∧ left ≤ 1048576) : Det Try.prog 94 [.sl n1 (rows encB1 xs), .int .i64 left] (.int .i64 (szBS left xs)) := by
  refine fspec_det tab_ok Try.call94 Try.func94 rfl 27 Try.ntmps94 (of_decide_eq_true rfl) fun B => codeK_sound tab_ok _ _ _ ?_
  have hw : IntKind.i64.wrap (left - (xs.length : Int)) = left - xs.length := wrap_small _ (by omega) (by omega)
  cases h : decide (left - (xs.length : Int) < 0) with
  | true =>
    have hz : szBS left xs = -1 := by unfold szBS szI; simp [of_decide_eq_true h]
    simp (config := { maxSteps := 4000000 }) only [go_sem, Nat.reduceEqDiff, Nat.reduceAdd, Nat.reduceMul, Nat.reduceSub, Nat.reduceLT, Nat.reduceLeDiff, reduceIte, reduceCtorEq, Int.reduceToNat, Int.reduceLE, Int.reduceLT, Int.reduceEq, Int.reduceGT, Int.reduceGE, Int.reduceAdd, Int.reduceSub, Int.reduceNeg, Int.reduceMul, ↓bT, ↓bF, ↓backK_top, ↓backK_int, ↓backK_bool, ↓backK_sl, ↓backK_fn, ↓backK_agg, ↓backK_tup, ↓backK_pel, ↓backK_osl, ↓backK_may, ↓backK_box, ↓bothTT, ↓bothTF, ↓bothFT, ↓bothFF, bothTT, bothTF, bothFT, bothFF, ↓bothTT, ↓bothTF, ↓bothFT, ↓bothFF, ↓bothNT, ↓bothNF, ↓bothCT, ↓bothCF, Try.f94, rows_length, hw, h, hz]
  | false =>
    have h' := of_decide_eq_false h
    have hz : szBS left xs = szBl (left - xs.length) xs := by unfold szBS szI; simp [h']
    simp (config := { maxSteps := 4000000 }) only [go_sem, Nat.reduceEqDiff, Nat.reduceAdd, Nat.reduceMul, Nat.reduceSub, Nat.reduceLT, Nat.reduceLeDiff, reduceIte, reduceCtorEq, Int.reduceToNat, Int.reduceLE, Int.reduceLT, Int.reduceEq, Int.reduceGT, Int.reduceGE, Int.reduceAdd, Int.reduceSub, Int.reduceNeg, Int.reduceMul, ↓bT, ↓bF, ↓backK_top, ↓backK_int, ↓backK_bool, ↓backK_sl, ↓backK_fn, ↓backK_agg, ↓backK_tup, ↓backK_pel, ↓backK_osl, ↓backK_may, ↓backK_box, ↓bothTT, ↓bothTF, ↓bothFT, ↓bothFF, bothTT, bothTF, bothFT, bothFF, ↓bothTT, ↓bothTF, ↓bothFT, ↓bothFF, ↓bothNT, ↓bothNF, ↓bothCT, ↓bothCF, Try.f94, rows_length, hw, h]
    refine semL_for tab_ok (fun p : Nat × Int => ⟨27, [(0, .sl n1 (rows encB1 xs)), (1, .int .i64 p.2), (5, .int .i64 p.1)], []⟩) (fun p => xs.length - p.1)
      (fun p => p.1 ≤ xs.length ∧ (0 ≤ p.2 ∧ p.2 ≤ 1048576) ∧ szBl p.2 (xs.drop p.1) = szBS left xs) (0, left - xs.length) [] (Weak.of (by rfl) trivial ?_ (by rfl)) ⟨by omega, by dsimp only; omega, hz.symm⟩ ?_
    · simp (config := { maxSteps := 4000000 }) only [go_sem, Nat.reduceEqDiff, Nat.reduceAdd, Nat.reduceMul, Nat.reduceSub, Nat.reduceLT, Nat.reduceLeDiff, reduceIte, reduceCtorEq, Int.reduceToNat, Int.reduceLE, Int.reduceLT, Int.reduceEq, Int.reduceGT, Int.reduceGE, Int.reduceAdd, Int.reduceSub, Int.reduceNeg, Int.reduceMul, ↓bT, ↓bF, ↓backK_top, ↓backK_int, ↓backK_bool, ↓backK_sl, ↓backK_fn, ↓backK_agg, ↓backK_tup, ↓backK_pel, ↓backK_osl, ↓backK_may, ↓backK_box, ↓bothTT, ↓bothTF, ↓bothFT, ↓bothFF, bothTT, bothTF, bothFT, bothFF, ↓bothTT, ↓bothTF, ↓bothFT, ↓bothFF, ↓bothNT, ↓bothNF, ↓bothCT, ↓bothCF, Try.f94, frW, wk2, wk1, wkL, wkB, hpW, List.mem_cons, Prod.mk.injEq, exists_eq_left, exists_eq_right, exists_eq]
    · rintro ⟨i, l⟩ ⟨hi, hlb, hp⟩
      dsimp only at hi hlb hp
      by_cases h : i < xs.length
      · rw [drop_cons xs i h] at hp
        simp only [szBl] at hp
        simp (config := { maxSteps := 4000000 }) only [go_sem, Nat.reduceEqDiff, Nat.reduceAdd, Nat.reduceMul, Nat.reduceSub, Nat.reduceLT, Nat.reduceLeDiff, reduceIte, reduceCtorEq, Int.reduceToNat, Int.reduceLE, Int.reduceLT, Int.reduceEq, Int.reduceGT, Int.reduceGE, Int.reduceAdd, Int.reduceSub, Int.reduceNeg, Int.reduceMul, ↓bT, ↓bF, ↓backK_top, ↓backK_int, ↓backK_bool, ↓backK_sl, ↓backK_fn, ↓backK_agg, ↓backK_tup, ↓backK_pel, ↓backK_osl, ↓backK_may, ↓backK_box, ↓bothTT, ↓bothTF, ↓bothFT, ↓bothFF, bothTT, bothTF, bothFT, bothFF, ↓bothTT, ↓bothTF, ↓bothFT, ↓bothFF, ↓bothNT, ↓bothNF, ↓bothCT, ↓bothCF, Try.f94, rows_length, rows_get _ _ _ h, encB1, encBk, nlt h, nn0]
        refine CallTo.det (c_laws_szBlock none xs[i] l (hb _ (List.getElem_mem h)) hlb) fun _ => ?_
        cases h2 : decide (szI l xs[i].list.length < 0) with
        | true =>
          rw [if_pos (of_decide_eq_true h2)] at hp
          simp (config := { maxSteps := 4000000 }) only [go_sem, Nat.reduceEqDiff, Nat.reduceAdd, Nat.reduceMul, Nat.reduceSub, Nat.reduceLT, Nat.reduceLeDiff, reduceIte, reduceCtorEq, Int.reduceToNat, Int.reduceLE, Int.reduceLT, Int.reduceEq, Int.reduceGT, Int.reduceGE, Int.reduceAdd, Int.reduceSub, Int.reduceNeg, Int.reduceMul, ↓bT, ↓bF, ↓backK_top, ↓backK_int, ↓backK_bool, ↓backK_sl, ↓backK_fn, ↓backK_agg, ↓backK_tup, ↓backK_pel, ↓backK_osl, ↓backK_may, ↓backK_box, ↓bothTT, ↓bothTF, ↓bothFT, ↓bothFF, bothTT, bothTF, bothFT, bothFF, ↓bothTT, ↓bothTF, ↓bothFT, ↓bothFF, ↓bothNT, ↓bothNF, ↓bothCT, ↓bothCF, Try.f94, h2, ← hp]
        | false =>
          have h2' := of_decide_eq_false h2
          rw [if_neg h2'] at hp
          have hb2 := szI_bd (left := l) (n := xs[i].list.length) hlb.2
          simp (config := { maxSteps := 4000000 }) only [go_sem, Nat.reduceEqDiff, Nat.reduceAdd, Nat.reduceMul, Nat.reduceSub, Nat.reduceLT, Nat.reduceLeDiff, reduceIte, reduceCtorEq, Int.reduceToNat, Int.reduceLE, Int.reduceLT, Int.reduceEq, Int.reduceGT, Int.reduceGE, Int.reduceAdd, Int.reduceSub, Int.reduceNeg, Int.reduceMul, ↓bT, ↓bF, ↓backK_top, ↓backK_int, ↓backK_bool, ↓backK_sl, ↓backK_fn, ↓backK_agg, ↓backK_tup, ↓backK_pel, ↓backK_osl, ↓backK_may, ↓backK_box, ↓bothTT, ↓bothTF, ↓bothFT, ↓bothFF, bothTT, bothTF, bothFT, bothFF, ↓bothTT, ↓bothTF, ↓bothFT, ↓bothFF, ↓bothNT, ↓bothNF, ↓bothCT, ↓bothCF, Try.f94, h2, wsucc h (by omega : xs.length < 2 ^ 62)]
          refine ⟨(i + 1, szI l xs[i].list.length), [], ⟨by dsimp only; omega, by dsimp only; omega, hp⟩, by dsimp only; omega, Weak.of (by rfl) trivial ?_ (by rfl)⟩
          simp (config := { maxSteps := 4000000 }) only [go_sem, Nat.reduceEqDiff, Nat.reduceAdd, Nat.reduceMul, Nat.reduceSub, Nat.reduceLT, Nat.reduceLeDiff, reduceIte, reduceCtorEq, Int.reduceToNat, Int.reduceLE, Int.reduceLT, Int.reduceEq, Int.reduceGT, Int.reduceGE, Int.reduceAdd, Int.reduceSub, Int.reduceNeg, Int.reduceMul, ↓bT, ↓bF, ↓backK_top, ↓backK_int, ↓backK_bool, ↓backK_sl, ↓backK_fn, ↓backK_agg, ↓backK_tup, ↓backK_pel, ↓backK_osl, ↓backK_may, ↓backK_box, ↓bothTT, ↓bothTF, ↓bothFT, ↓bothFF, bothTT, bothTF, bothFT, bothFF, ↓bothTT, ↓bothTF, ↓bothFT, ↓bothFF, ↓bothNT, ↓bothNF, ↓bothCT, ↓bothCF, Try.f94, frW, wk2, wk1, wkL, wkB, hpW, List.mem_cons, Prod.mk.injEq, exists_eq_left, exists_eq_right, exists_eq]
      · have : i = xs.length := by omega
        subst this
        rw [List.drop_length] at hp
        have hp : l = szBS left xs := hp
        simp (config := { maxSteps := 4000000 }) only [go_sem, Nat.reduceEqDiff, Nat.reduceAdd, Nat.reduceMul, Nat.reduceSub, Nat.reduceLT, Nat.reduceLeDiff, reduceIte, reduceCtorEq, Int.reduceToNat, Int.reduceLE, Int.reduceLT, Int.reduceEq, Int.reduceGT, Int.reduceGE, Int.reduceAdd, Int.reduceSub, Int.reduceNeg, Int.reduceMul, ↓bT, ↓bF, ↓backK_top, ↓backK_int, ↓backK_bool, ↓backK_sl, ↓backK_fn, ↓backK_agg, ↓backK_tup, ↓backK_pel, ↓backK_osl, ↓backK_may, ↓backK_box, ↓bothTT, ↓bothTF, ↓bothFT, ↓bothFF, bothTT, bothTF, bothFT, bothFF, ↓bothTT, ↓bothTF, ↓bothFT, ↓bothFF, ↓bothNT, ↓bothNF, ↓bothCT, ↓bothCF, Try.f94, rows_length, nlf h, ← hp]

theorem szBl_spec : ∀ (bs : List Block) (left : Int), left ≤ 1048576 → 0 ≤ szBl left bs → szBl left bs ≤ 1048576 ∧ ∀ b, b ∈ bs → b.list.length ≤ 1048576
  | [], left, h, _ => ⟨h, fun b hb => by cases hb⟩
  | b :: r, left, h, h0 => by
    simp only [szBl] at h0 ⊢
    have hb := szI_bd (n := b.list.length) h
    by_cases hc : szI left b.list.length < 0
    · rw [if_pos hc] at h0; omega
    · rw [if_neg hc] at h0 ⊢
      obtain ⟨h1, h2⟩ := szBl_spec r _ hb.1 h0
      refine ⟨h1, fun x hx => ?_⟩
      rcases List.mem_cons.1 hx with rfl | hx
      · exact hb.2 (by omega)
      · exact h2 x hx

theorem szBS_spec {bs : List Block} {left : Int} (h : left ≤ 1048576) (h0 : 0 ≤ szBS left bs) : szBS left bs ≤ 1048576 ∧ bs.length ≤ 1048576 ∧ ∀ b, b ∈ bs → b.list.length ≤ 1048576 := by
  unfold szBS at *
  have hb := szI_bd (n := bs.length) h
  by_cases hc : szI left bs.length < 0
  · rw [if_pos hc] at h0; omega
  · rw [if_neg hc] at h0 ⊢
    obtain ⟨h1, h2⟩ := szBl_spec bs _ hb.1 h0
    exact ⟨h1, hb.2 (by omega), h2⟩

/-- Lengths that a machine may hold. -/
structure TreeLen (t : Tree) : Prop where
  base : t.base.length ≤ 9223372036854775807
  blocks : t.blocks.length ≤ 9223372036854775807
  before : t.before.length ≤ 9223372036854775807
  list : ∀ b, b ∈ t.blocks → b.list.length ≤ 9223372036854775807

/-- Whether a tree fits, and what is left. -/
theorem c_laws_szBlockTree (n1 n2 n3 : Option Bool) (t : Tree) (left : Int) (hx : TreeLen t) (hl : 0 ≤ left ∧ left ≤ 1048576) :
    ∃ r : Int, Det Try.prog 32 [.agg (encT n1 n2 n3 t), .int .i64 left] (.int .i64 r) ∧ r ≤ 1048576 ∧ (0 ≤ r → TreeS32 t) := by
  have hb1 := szI_bd (n := t.base.length) hl.2
  by_cases g1 : szI left t.base.length < 0
  · refine ⟨-1, ?_, by omega, by omega⟩
    refine fspec_det tab_ok Try.call32 Try.func32 rfl 24 Try.ntmps32 (of_decide_eq_true rfl) fun B => codeK_sound tab_ok _ _ _ ?_
    unfold encT
    simp (config := { maxSteps := 4000000 }) only [go_sem, Nat.reduceEqDiff, Nat.reduceAdd, Nat.reduceMul, Nat.reduceSub, Nat.reduceLT, Nat.reduceLeDiff, reduceIte, reduceCtorEq, Int.reduceToNat, Int.reduceLE, Int.reduceLT, Int.reduceEq, Int.reduceGT, Int.reduceGE, Int.reduceAdd, Int.reduceSub, Int.reduceNeg, Int.reduceMul, ↓bT, ↓bF, ↓backK_top, ↓backK_int, ↓backK_bool, ↓backK_sl, ↓backK_fn, ↓backK_agg, ↓backK_tup, ↓backK_pel, ↓backK_osl, ↓backK_may, ↓backK_box, ↓bothTT, ↓bothTF, ↓bothFT, ↓bothFF, bothTT, bothTF, bothFT, bothFF, ↓bothTT, ↓bothTF, ↓bothFT, ↓bothFF, ↓bothNT, ↓bothNF, ↓bothCT, ↓bothCF, Try.f32]
    refine CallTo.det (c_laws_szEntryS _ _ left hx.base hl) fun _ => ?_
    simp (config := { maxSteps := 4000000 }) only [go_sem, Nat.reduceEqDiff, Nat.reduceAdd, Nat.reduceMul, Nat.reduceSub, Nat.reduceLT, Nat.reduceLeDiff, reduceIte, reduceCtorEq, Int.reduceToNat, Int.reduceLE, Int.reduceLT, Int.reduceEq, Int.reduceGT, Int.reduceGE, Int.reduceAdd, Int.reduceSub, Int.reduceNeg, Int.reduceMul, ↓bT, ↓bF, ↓backK_top, ↓backK_int, ↓backK_bool, ↓backK_sl, ↓backK_fn, ↓backK_agg, ↓backK_tup, ↓backK_pel, ↓backK_osl, ↓backK_may, ↓backK_box, ↓bothTT, ↓bothTF, ↓bothFT, ↓bothFF, bothTT, bothTF, bothFT, bothFF, ↓bothTT, ↓bothTF, ↓bothFT, ↓bothFF, ↓bothNT, ↓bothNF, ↓bothCT, ↓bothCF, Try.f32, decide_eq_true g1]
  · by_cases g2 : szBS (szI left t.base.length) t.blocks < 0
    · refine ⟨-1, ?_, by omega, by omega⟩
      refine fspec_det tab_ok Try.call32 Try.func32 rfl 24 Try.ntmps32 (of_decide_eq_true rfl) fun B => codeK_sound tab_ok _ _ _ ?_
      unfold encT
      simp (config := { maxSteps := 4000000 }) only [go_sem, Nat.reduceEqDiff, Nat.reduceAdd, Nat.reduceMul, Nat.reduceSub, Nat.reduceLT, Nat.reduceLeDiff, reduceIte, reduceCtorEq, Int.reduceToNat, Int.reduceLE, Int.reduceLT, Int.reduceEq, Int.reduceGT, Int.reduceGE, Int.reduceAdd, Int.reduceSub, Int.reduceNeg, Int.reduceMul, ↓bT, ↓bF, ↓backK_top, ↓backK_int, ↓backK_bool, ↓backK_sl, ↓backK_fn, ↓backK_agg, ↓backK_tup, ↓backK_pel, ↓backK_osl, ↓backK_may, ↓backK_box, ↓bothTT, ↓bothTF, ↓bothFT, ↓bothFF, bothTT, bothTF, bothFT, bothFF, ↓bothTT, ↓bothTF, ↓bothFT, ↓bothFF, ↓bothNT, ↓bothNF, ↓bothCT, ↓bothCF, Try.f32]
      refine CallTo.det (c_laws_szEntryS _ _ left hx.base hl) fun _ => ?_
      simp (config := { maxSteps := 4000000 }) only [go_sem, Nat.reduceEqDiff, Nat.reduceAdd, Nat.reduceMul, Nat.reduceSub, Nat.reduceLT, Nat.reduceLeDiff, reduceIte, reduceCtorEq, Int.reduceToNat, Int.reduceLE, Int.reduceLT, Int.reduceEq, Int.reduceGT, Int.reduceGE, Int.reduceAdd, Int.reduceSub, Int.reduceNeg, Int.reduceMul, ↓bT, ↓bF, ↓backK_top, ↓backK_int, ↓backK_bool, ↓backK_sl, ↓backK_fn, ↓backK_agg, ↓backK_tup, ↓backK_pel, ↓backK_osl, ↓backK_may, ↓backK_box, ↓bothTT, ↓bothTF, ↓bothFT, ↓bothFF, bothTT, bothTF, bothFT, bothFF, ↓bothTT, ↓bothTF, ↓bothFT, ↓bothFF, ↓bothNT, ↓bothNF, ↓bothCT, ↓bothCF, Try.f32, decide_eq_false g1]
      refine CallTo.det (c_laws_szBlockS _ _ _ hx.blocks hx.list ⟨by omega, hb1.1⟩) fun _ => ?_
      simp (config := { maxSteps := 4000000 }) only [go_sem, Nat.reduceEqDiff, Nat.reduceAdd, Nat.reduceMul, Nat.reduceSub, Nat.reduceLT, Nat.reduceLeDiff, reduceIte, reduceCtorEq, Int.reduceToNat, Int.reduceLE, Int.reduceLT, Int.reduceEq, Int.reduceGT, Int.reduceGE, Int.reduceAdd, Int.reduceSub, Int.reduceNeg, Int.reduceMul, ↓bT, ↓bF, ↓backK_top, ↓backK_int, ↓backK_bool, ↓backK_sl, ↓backK_fn, ↓backK_agg, ↓backK_tup, ↓backK_pel, ↓backK_osl, ↓backK_may, ↓backK_box, ↓bothTT, ↓bothTF, ↓bothFT, ↓bothFF, bothTT, bothTF, bothFT, bothFF, ↓bothTT, ↓bothTF, ↓bothFT, ↓bothFF, ↓bothNT, ↓bothNF, ↓bothCT, ↓bothCF, Try.f32, decide_eq_true g2]
    · obtain ⟨k1, k2, k3⟩ := szBS_spec (bs := t.blocks) hb1.1 (by omega)
      have hb3 := szI_bd (n := t.before.length) k1
      by_cases g3 : szI (szBS (szI left t.base.length) t.blocks) t.before.length < 0
      · refine ⟨-1, ?_, by omega, by omega⟩
        refine fspec_det tab_ok Try.call32 Try.func32 rfl 24 Try.ntmps32 (of_decide_eq_true rfl) fun B => codeK_sound tab_ok _ _ _ ?_
        unfold encT
        simp (config := { maxSteps := 4000000 }) only [go_sem, Nat.reduceEqDiff, Nat.reduceAdd, Nat.reduceMul, Nat.reduceSub, Nat.reduceLT, Nat.reduceLeDiff, reduceIte, reduceCtorEq, Int.reduceToNat, Int.reduceLE, Int.reduceLT, Int.reduceEq, Int.reduceGT, Int.reduceGE, Int.reduceAdd, Int.reduceSub, Int.reduceNeg, Int.reduceMul, ↓bT, ↓bF, ↓backK_top, ↓backK_int, ↓backK_bool, ↓backK_sl, ↓backK_fn, ↓backK_agg, ↓backK_tup, ↓backK_pel, ↓backK_osl, ↓backK_may, ↓backK_box, ↓bothTT, ↓bothTF, ↓bothFT, ↓bothFF, bothTT, bothTF, bothFT, bothFF, ↓bothTT, ↓bothTF, ↓bothFT, ↓bothFF, ↓bothNT, ↓bothNF, ↓bothCT, ↓bothCF, Try.f32]
        refine CallTo.det (c_laws_szEntryS _ _ left hx.base hl) fun _ => ?_
        simp (config := { maxSteps := 4000000 }) only [go_sem, Nat.reduceEqDiff, Nat.reduceAdd, Nat.reduceMul, Nat.reduceSub, Nat.reduceLT, Nat.reduceLeDiff, reduceIte, reduceCtorEq, Int.reduceToNat, Int.reduceLE, Int.reduceLT, Int.reduceEq, Int.reduceGT, Int.reduceGE, Int.reduceAdd, Int.reduceSub, Int.reduceNeg, Int.reduceMul, ↓bT, ↓bF, ↓backK_top, ↓backK_int, ↓backK_bool, ↓backK_sl, ↓backK_fn, ↓backK_agg, ↓backK_tup, ↓backK_pel, ↓backK_osl, ↓backK_may, ↓backK_box, ↓bothTT, ↓bothTF, ↓bothFT, ↓bothFF, bothTT, bothTF, bothFT, bothFF, ↓bothTT, ↓bothTF, ↓bothFT, ↓bothFF, ↓bothNT, ↓bothNF, ↓bothCT, ↓bothCF, Try.f32, decide_eq_false g1]
        refine CallTo.det (c_laws_szBlockS _ _ _ hx.blocks hx.list ⟨by omega, hb1.1⟩) fun _ => ?_
        simp (config := { maxSteps := 4000000 }) only [go_sem, Nat.reduceEqDiff, Nat.reduceAdd, Nat.reduceMul, Nat.reduceSub, Nat.reduceLT, Nat.reduceLeDiff, reduceIte, reduceCtorEq, Int.reduceToNat, Int.reduceLE, Int.reduceLT, Int.reduceEq, Int.reduceGT, Int.reduceGE, Int.reduceAdd, Int.reduceSub, Int.reduceNeg, Int.reduceMul, ↓bT, ↓bF, ↓backK_top, ↓backK_int, ↓backK_bool, ↓backK_sl, ↓backK_fn, ↓backK_agg, ↓backK_tup, ↓backK_pel, ↓backK_osl, ↓backK_may, ↓backK_box, ↓bothTT, ↓bothTF, ↓bothFT, ↓bothFF, bothTT, bothTF, bothFT, bothFF, ↓bothTT, ↓bothTF, ↓bothFT, ↓bothFF, ↓bothNT, ↓bothNF, ↓bothCT, ↓bothCF, Try.f32, decide_eq_false g2]
        refine CallTo.det (c_laws_szIntS _ _ _ hx.before ⟨by omega, k1⟩) fun _ => ?_
        simp (config := { maxSteps := 4000000 }) only [go_sem, Nat.reduceEqDiff, Nat.reduceAdd, Nat.reduceMul, Nat.reduceSub, Nat.reduceLT, Nat.reduceLeDiff, reduceIte, reduceCtorEq, Int.reduceToNat, Int.reduceLE, Int.reduceLT, Int.reduceEq, Int.reduceGT, Int.reduceGE, Int.reduceAdd, Int.reduceSub, Int.reduceNeg, Int.reduceMul, ↓bT, ↓bF, ↓backK_top, ↓backK_int, ↓backK_bool, ↓backK_sl, ↓backK_fn, ↓backK_agg, ↓backK_tup, ↓backK_pel, ↓backK_osl, ↓backK_may, ↓backK_box, ↓bothTT, ↓bothTF, ↓bothFT, ↓bothFF, bothTT, bothTF, bothFT, bothFF, ↓bothTT, ↓bothTF, ↓bothFT, ↓bothFF, ↓bothNT, ↓bothNF, ↓bothCT, ↓bothCF, Try.f32, decide_eq_true g3]
      · refine ⟨szI (szBS (szI left t.base.length) t.blocks) t.before.length, ?_, hb3.1, fun _ => ⟨by have := hb1.2 (by omega); omega, by omega, by have := hb3.2 (by omega); omega, fun b hb => by have := k3 b hb; omega⟩⟩
        refine fspec_det tab_ok Try.call32 Try.func32 rfl 24 Try.ntmps32 (of_decide_eq_true rfl) fun B => codeK_sound tab_ok _ _ _ ?_
        unfold encT
        simp (config := { maxSteps := 4000000 }) only [go_sem, Nat.reduceEqDiff, Nat.reduceAdd, Nat.reduceMul, Nat.reduceSub, Nat.reduceLT, Nat.reduceLeDiff, reduceIte, reduceCtorEq, Int.reduceToNat, Int.reduceLE, Int.reduceLT, Int.reduceEq, Int.reduceGT, Int.reduceGE, Int.reduceAdd, Int.reduceSub, Int.reduceNeg, Int.reduceMul, ↓bT, ↓bF, ↓backK_top, ↓backK_int, ↓backK_bool, ↓backK_sl, ↓backK_fn, ↓backK_agg, ↓backK_tup, ↓backK_pel, ↓backK_osl, ↓backK_may, ↓backK_box, ↓bothTT, ↓bothTF, ↓bothFT, ↓bothFF, bothTT, bothTF, bothFT, bothFF, ↓bothTT, ↓bothTF, ↓bothFT, ↓bothFF, ↓bothNT, ↓bothNF, ↓bothCT, ↓bothCF, Try.f32]
        refine CallTo.det (c_laws_szEntryS _ _ left hx.base hl) fun _ => ?_
        simp (config := { maxSteps := 4000000 }) only [go_sem, Nat.reduceEqDiff, Nat.reduceAdd, Nat.reduceMul, Nat.reduceSub, Nat.reduceLT, Nat.reduceLeDiff, reduceIte, reduceCtorEq, Int.reduceToNat, Int.reduceLE, Int.reduceLT, Int.reduceEq, Int.reduceGT, Int.reduceGE, Int.reduceAdd, Int.reduceSub, Int.reduceNeg, Int.reduceMul, ↓bT, ↓bF, ↓backK_top, ↓backK_int, ↓backK_bool, ↓backK_sl, ↓backK_fn, ↓backK_agg, ↓backK_tup, ↓backK_pel, ↓backK_osl, ↓backK_may, ↓backK_box, ↓bothTT, ↓bothTF, ↓bothFT, ↓bothFF, bothTT, bothTF, bothFT, bothFF, ↓bothTT, ↓bothTF, ↓bothFT, ↓bothFF, ↓bothNT, ↓bothNF, ↓bothCT, ↓bothCF, Try.f32, decide_eq_false g1]
        refine CallTo.det (c_laws_szBlockS _ _ _ hx.blocks hx.list ⟨by omega, hb1.1⟩) fun _ => ?_
        simp (config := { maxSteps := 4000000 }) only [go_sem, Nat.reduceEqDiff, Nat.reduceAdd, Nat.reduceMul, Nat.reduceSub, Nat.reduceLT, Nat.reduceLeDiff, reduceIte, reduceCtorEq, Int.reduceToNat, Int.reduceLE, Int.reduceLT, Int.reduceEq, Int.reduceGT, Int.reduceGE, Int.reduceAdd, Int.reduceSub, Int.reduceNeg, Int.reduceMul, ↓bT, ↓bF, ↓backK_top, ↓backK_int, ↓backK_bool, ↓backK_sl, ↓backK_fn, ↓backK_agg, ↓backK_tup, ↓backK_pel, ↓backK_osl, ↓backK_may, ↓backK_box, ↓bothTT, ↓bothTF, ↓bothFT, ↓bothFF, bothTT, bothTF, bothFT, bothFF, ↓bothTT, ↓bothTF, ↓bothFT, ↓bothFF, ↓bothNT, ↓bothNF, ↓bothCT, ↓bothCF, Try.f32, decide_eq_false g2]
        refine CallTo.det (c_laws_szIntS _ _ _ hx.before ⟨by omega, k1⟩) fun _ => ?_
        simp (config := { maxSteps := 4000000 }) only [go_sem, Nat.reduceEqDiff, Nat.reduceAdd, Nat.reduceMul, Nat.reduceSub, Nat.reduceLT, Nat.reduceLeDiff, reduceIte, reduceCtorEq, Int.reduceToNat, Int.reduceLE, Int.reduceLT, Int.reduceEq, Int.reduceGT, Int.reduceGE, Int.reduceAdd, Int.reduceSub, Int.reduceNeg, Int.reduceMul, ↓bT, ↓bF, ↓backK_top, ↓backK_int, ↓backK_bool, ↓backK_sl, ↓backK_fn, ↓backK_agg, ↓backK_tup, ↓backK_pel, ↓backK_osl, ↓backK_may, ↓backK_box, ↓bothTT, ↓bothTF, ↓bothFT, ↓bothFF, bothTT, bothTF, bothFT, bothFF, ↓bothTT, ↓bothTF, ↓bothFT, ↓bothFF, ↓bothNT, ↓bothNF, ↓bothCT, ↓bothCF, Try.f32, decide_eq_false g3]

end Go.Proofs.Ytdaemhaecjldaaa

