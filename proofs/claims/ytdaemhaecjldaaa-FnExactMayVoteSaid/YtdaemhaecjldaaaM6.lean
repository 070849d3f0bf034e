/- An abstract run of Go code, and contracts of functions (part 6): W25, W26, Ty1, C3 -/
import Derived.Test.YtdaemhaecjldaaaRows
import Derived.ProofKit
import Derived.Test.YtdaemhaecjldaaaM5

/- Contracts: the laws' tests. -/
set_option linter.unusedSimpArgs false
set_option linter.unusedVariables false
set_option maxRecDepth 20000
set_option maxHeartbeats 4000000
namespace Go.Proofs.Ytdaemhaecjldaaa
open Go Go.RowKit

theorem entB (a b : Entry) : ((a.key == b.key) && (a.value == b.value)) = decide (a = b) := by
  obtain ⟨a1, a2⟩ := a
  obtain ⟨b1, b2⟩ := b
  rw [Bool.eq_iff_iff]
  simp only [Bool.and_eq_true, beq_iff_eq, decide_eq_true_eq, Entry.mk.injEq]

theorem actB (a b : Action) : ((a.kind == b.kind) && ((a.fr == b.fr) && ((a.to == b.to) && (a.amount == b.amount)))) = decide (a = b) := by
  obtain ⟨a1, a2, a3, a4⟩ := a
  obtain ⟨b1, b2, b3, b4⟩ := b
  rw [Bool.eq_iff_iff]
  simp only [Bool.and_eq_true, beq_iff_eq, decide_eq_true_eq, Action.mk.injEq]

theorem blkB (b c : Block) : sameB b c = decide (b = c) := by
  rw [Bool.eq_iff_iff, sameB_iff, decide_eq_true_eq]

theorem c_laws_eqEntry (a b : Entry) : Det Try.prog 86 [.agg (encE a), .agg (encE b)] (.bool (decide (a = b))) := by
  refine fspec_det tab_ok Try.call86 Try.func86 rfl 15 Try.ntmps86 (of_decide_eq_true rfl) fun B => codeK_sound tab_ok _ _ _ ?_
  unfold encE
  rw [← entB]
  cases h1 : (a.key == b.key) with
  | false => simp (config := { maxSteps := 4000000 }) only [go_sem, Nat.reduceEqDiff, Nat.reduceAdd, Nat.reduceMul, Nat.reduceSub, Nat.reduceLT, Nat.reduceLeDiff, reduceIte, reduceCtorEq, Int.reduceToNat, Int.reduceLE, Int.reduceLT, Int.reduceEq, Int.reduceGT, Int.reduceGE, Int.reduceAdd, Int.reduceSub, Int.reduceNeg, Int.reduceMul, ↓bT, ↓bF, ↓backK_top, ↓backK_int, ↓backK_bool, ↓backK_sl, ↓backK_fn, ↓backK_agg, ↓backK_tup, ↓backK_pel, ↓backK_osl, ↓backK_may, ↓backK_box, ↓bothTT, ↓bothTF, ↓bothFT, ↓bothFF, bothTT, bothTF, bothFT, bothFF, ↓bothTT, ↓bothTF, ↓bothFT, ↓bothFF, ↓bothNT, ↓bothNF, ↓bothCT, ↓bothCF, Try.f86, bne, h1]
  | true =>
    cases h2 : (a.value == b.value) with
    | false => simp (config := { maxSteps := 4000000 }) only [go_sem, Nat.reduceEqDiff, Nat.reduceAdd, Nat.reduceMul, Nat.reduceSub, Nat.reduceLT, Nat.reduceLeDiff, reduceIte, reduceCtorEq, Int.reduceToNat, Int.reduceLE, Int.reduceLT, Int.reduceEq, Int.reduceGT, Int.reduceGE, Int.reduceAdd, Int.reduceSub, Int.reduceNeg, Int.reduceMul, ↓bT, ↓bF, ↓backK_top, ↓backK_int, ↓backK_bool, ↓backK_sl, ↓backK_fn, ↓backK_agg, ↓backK_tup, ↓backK_pel, ↓backK_osl, ↓backK_may, ↓backK_box, ↓bothTT, ↓bothTF, ↓bothFT, ↓bothFF, bothTT, bothTF, bothFT, bothFF, ↓bothTT, ↓bothTF, ↓bothFT, ↓bothFF, ↓bothNT, ↓bothNF, ↓bothCT, ↓bothCF, Try.f86, bne, h1, h2]
    | true => simp (config := { maxSteps := 4000000 }) only [go_sem, Nat.reduceEqDiff, Nat.reduceAdd, Nat.reduceMul, Nat.reduceSub, Nat.reduceLT, Nat.reduceLeDiff, reduceIte, reduceCtorEq, Int.reduceToNat, Int.reduceLE, Int.reduceLT, Int.reduceEq, Int.reduceGT, Int.reduceGE, Int.reduceAdd, Int.reduceSub, Int.reduceNeg, Int.reduceMul, ↓bT, ↓bF, ↓backK_top, ↓backK_int, ↓backK_bool, ↓backK_sl, ↓backK_fn, ↓backK_agg, ↓backK_tup, ↓backK_pel, ↓backK_osl, ↓backK_may, ↓backK_box, ↓bothTT, ↓bothTF, ↓bothFT, ↓bothFF, bothTT, bothTF, bothFT, bothFF, ↓bothTT, ↓bothTF, ↓bothFT, ↓bothFF, ↓bothNT, ↓bothNF, ↓bothCT, ↓bothCF, Try.f86, bne, h1, h2]

theorem c_laws_eqAction (a b : Action) : Det Try.prog 87 [.agg (encA a), .agg (encA b)] (.bool (decide (a = b))) := by
  refine fspec_det tab_ok Try.call87 Try.func87 rfl 25 Try.ntmps87 (of_decide_eq_true rfl) fun B => codeK_sound tab_ok _ _ _ ?_
  unfold encA
  rw [← actB]
  cases h1 : (a.kind == b.kind) with
  | false => simp (config := { maxSteps := 4000000 }) only [go_sem, Nat.reduceEqDiff, Nat.reduceAdd, Nat.reduceMul, Nat.reduceSub, Nat.reduceLT, Nat.reduceLeDiff, reduceIte, reduceCtorEq, Int.reduceToNat, Int.reduceLE, Int.reduceLT, Int.reduceEq, Int.reduceGT, Int.reduceGE, Int.reduceAdd, Int.reduceSub, Int.reduceNeg, Int.reduceMul, ↓bT, ↓bF, ↓backK_top, ↓backK_int, ↓backK_bool, ↓backK_sl, ↓backK_fn, ↓backK_agg, ↓backK_tup, ↓backK_pel, ↓backK_osl, ↓backK_may, ↓backK_box, ↓bothTT, ↓bothTF, ↓bothFT, ↓bothFF, bothTT, bothTF, bothFT, bothFF, ↓bothTT, ↓bothTF, ↓bothFT, ↓bothFF, ↓bothNT, ↓bothNF, ↓bothCT, ↓bothCF, Try.f87, bne, h1]
  | true =>
    cases h2 : (a.fr == b.fr) with
    | false => simp (config := { maxSteps := 4000000 }) only [go_sem, Nat.reduceEqDiff, Nat.reduceAdd, Nat.reduceMul, Nat.reduceSub, Nat.reduceLT, Nat.reduceLeDiff, reduceIte, reduceCtorEq, Int.reduceToNat, Int.reduceLE, Int.reduceLT, Int.reduceEq, Int.reduceGT, Int.reduceGE, Int.reduceAdd, Int.reduceSub, Int.reduceNeg, Int.reduceMul, ↓bT, ↓bF, ↓backK_top, ↓backK_int, ↓backK_bool, ↓backK_sl, ↓backK_fn, ↓backK_agg, ↓backK_tup, ↓backK_pel, ↓backK_osl, ↓backK_may, ↓backK_box, ↓bothTT, ↓bothTF, ↓bothFT, ↓bothFF, bothTT, bothTF, bothFT, bothFF, ↓bothTT, ↓bothTF, ↓bothFT, ↓bothFF, ↓bothNT, ↓bothNF, ↓bothCT, ↓bothCF, Try.f87, bne, h1, h2]
    | true =>
      cases h3 : (a.to == b.to) with
      | false => simp (config := { maxSteps := 4000000 }) only [go_sem, Nat.reduceEqDiff, Nat.reduceAdd, Nat.reduceMul, Nat.reduceSub, Nat.reduceLT, Nat.reduceLeDiff, reduceIte, reduceCtorEq, Int.reduceToNat, Int.reduceLE, Int.reduceLT, Int.reduceEq, Int.reduceGT, Int.reduceGE, Int.reduceAdd, Int.reduceSub, Int.reduceNeg, Int.reduceMul, ↓bT, ↓bF, ↓backK_top, ↓backK_int, ↓backK_bool, ↓backK_sl, ↓backK_fn, ↓backK_agg, ↓backK_tup, ↓backK_pel, ↓backK_osl, ↓backK_may, ↓backK_box, ↓bothTT, ↓bothTF, ↓bothFT, ↓bothFF, bothTT, bothTF, bothFT, bothFF, ↓bothTT, ↓bothTF, ↓bothFT, ↓bothFF, ↓bothNT, ↓bothNF, ↓bothCT, ↓bothCF, Try.f87, bne, h1, h2, h3]
      | true =>
        cases h4 : (a.amount == b.amount) with
        | false => simp (config := { maxSteps := 4000000 }) only [go_sem, Nat.reduceEqDiff, Nat.reduceAdd, Nat.reduceMul, Nat.reduceSub, Nat.reduceLT, Nat.reduceLeDiff, reduceIte, reduceCtorEq, Int.reduceToNat, Int.reduceLE, Int.reduceLT, Int.reduceEq, Int.reduceGT, Int.reduceGE, Int.reduceAdd, Int.reduceSub, Int.reduceNeg, Int.reduceMul, ↓bT, ↓bF, ↓backK_top, ↓backK_int, ↓backK_bool, ↓backK_sl, ↓backK_fn, ↓backK_agg, ↓backK_tup, ↓backK_pel, ↓backK_osl, ↓backK_may, ↓backK_box, ↓bothTT, ↓bothTF, ↓bothFT, ↓bothFF, bothTT, bothTF, bothFT, bothFF, ↓bothTT, ↓bothTF, ↓bothFT, ↓bothFF, ↓bothNT, ↓bothNF, ↓bothCT, ↓bothCF, Try.f87, bne, h1, h2, h3, h4]
        | true => simp (config := { maxSteps := 4000000 }) only [go_sem, Nat.reduceEqDiff, Nat.reduceAdd, Nat.reduceMul, Nat.reduceSub, Nat.reduceLT, Nat.reduceLeDiff, reduceIte, reduceCtorEq, Int.reduceToNat, Int.reduceLE, Int.reduceLT, Int.reduceEq, Int.reduceGT, Int.reduceGE, Int.reduceAdd, Int.reduceSub, Int.reduceNeg, Int.reduceMul, ↓bT, ↓bF, ↓backK_top, ↓backK_int, ↓backK_bool, ↓backK_sl, ↓backK_fn, ↓backK_agg, ↓backK_tup, ↓backK_pel, ↓backK_osl, ↓backK_may, ↓backK_box, ↓bothTT, ↓bothTF, ↓bothFT, ↓bothFF, bothTT, bothTF, bothFT, bothFF, ↓bothTT, ↓bothTF, ↓bothFT, ↓bothFF, ↓bothNT, ↓bothNF, ↓bothCT, ↓bothCF, Try.f87, bne, h1, h2, h3, h4]

theorem c_laws_eqEntryS (n1 n2 : Option Bool) (xs ys : List Entry) (hx : xs.length < 2 ^ 62) (hy : ys.length < 2 ^ 62)  :
    Det Try.prog 26 [.sl n1 (rows encE xs), .sl n2 (rows encE ys)] (.bool (decide (xs = ys))) := by
  refine fspec_det tab_ok Try.call26 Try.func26 rfl 27 Try.ntmps26 (of_decide_eq_true rfl) fun B => codeK_sound tab_ok _ _ _ ?_
  by_cases hl : xs.length = ys.length
  · have hd : (((xs.length : Int) != (ys.length : Int))) = false := by simp [hl]
    simp (config := { maxSteps := 4000000 }) only [go_sem, Nat.reduceEqDiff, Nat.reduceAdd, Nat.reduceMul, Nat.reduceSub, Nat.reduceLT, Nat.reduceLeDiff, reduceIte, reduceCtorEq, Int.reduceToNat, Int.reduceLE, Int.reduceLT, Int.reduceEq, Int.reduceGT, Int.reduceGE, Int.reduceAdd, Int.reduceSub, Int.reduceNeg, Int.reduceMul, ↓bT, ↓bF, ↓backK_top, ↓backK_int, ↓backK_bool, ↓backK_sl, ↓backK_fn, ↓backK_agg, ↓backK_tup, ↓backK_pel, ↓backK_osl, ↓backK_may, ↓backK_box, ↓bothTT, ↓bothTF, ↓bothFT, ↓bothFF, bothTT, bothTF, bothFT, bothFF, ↓bothTT, ↓bothTF, ↓bothFT, ↓bothFF, ↓bothNT, ↓bothNF, ↓bothCT, ↓bothCF, Try.f26, rows_length, hd]
    refine semL_for tab_ok (fun i : Nat => ⟨27, [(0, .sl n1 (rows encE xs)), (1, .sl n2 (rows encE ys)), (5, .int .i64 i)], []⟩) (fun i => xs.length - i)
      (fun i => i ≤ xs.length ∧ decide (xs.drop i = ys.drop i) = decide (xs = ys)) 0 [] (Weak.of (by rfl) trivial ?_ (by rfl)) ⟨by omega, rfl⟩ ?_
    · simp (config := { maxSteps := 4000000 }) only [go_sem, Nat.reduceEqDiff, Nat.reduceAdd, Nat.reduceMul, Nat.reduceSub, Nat.reduceLT, Nat.reduceLeDiff, reduceIte, reduceCtorEq, Int.reduceToNat, Int.reduceLE, Int.reduceLT, Int.reduceEq, Int.reduceGT, Int.reduceGE, Int.reduceAdd, Int.reduceSub, Int.reduceNeg, Int.reduceMul, ↓bT, ↓bF, ↓backK_top, ↓backK_int, ↓backK_bool, ↓backK_sl, ↓backK_fn, ↓backK_agg, ↓backK_tup, ↓backK_pel, ↓backK_osl, ↓backK_may, ↓backK_box, ↓bothTT, ↓bothTF, ↓bothFT, ↓bothFF, bothTT, bothTF, bothFT, bothFF, ↓bothTT, ↓bothTF, ↓bothFT, ↓bothFF, ↓bothNT, ↓bothNF, ↓bothCT, ↓bothCF, Try.f26, rows_length, frW, wk2, wk1, wkL, wkB, hpW, List.mem_cons, Prod.mk.injEq, exists_eq_left, exists_eq_right, exists_eq]
    · rintro i ⟨hi, hp⟩
      by_cases h : i < xs.length
      · have h2 : i < ys.length := by omega
        rw [eq_drop xs ys i hl h] at hp
        simp (config := { maxSteps := 4000000 }) only [go_sem, Nat.reduceEqDiff, Nat.reduceAdd, Nat.reduceMul, Nat.reduceSub, Nat.reduceLT, Nat.reduceLeDiff, reduceIte, reduceCtorEq, Int.reduceToNat, Int.reduceLE, Int.reduceLT, Int.reduceEq, Int.reduceGT, Int.reduceGE, Int.reduceAdd, Int.reduceSub, Int.reduceNeg, Int.reduceMul, ↓bT, ↓bF, ↓backK_top, ↓backK_int, ↓backK_bool, ↓backK_sl, ↓backK_fn, ↓backK_agg, ↓backK_tup, ↓backK_pel, ↓backK_osl, ↓backK_may, ↓backK_box, ↓bothTT, ↓bothTF, ↓bothFT, ↓bothFF, bothTT, bothTF, bothFT, bothFF, ↓bothTT, ↓bothTF, ↓bothFT, ↓bothFF, ↓bothNT, ↓bothNF, ↓bothCT, ↓bothCF, Try.f26, rows_length, nlt h]
        refine semL_draw tab_ok mixed_ rfl (ord := [(0, []), (1, []), (2, []), (3, []), (4, []), (5, []), (6, []), (7, []), (8, []), (9, [])]) (by dsimp only; decide +kernel) ?_
        simp (config := { maxSteps := 4000000 }) only [go_sem, Nat.reduceEqDiff, Nat.reduceAdd, Nat.reduceMul, Nat.reduceSub, Nat.reduceLT, Nat.reduceLeDiff, reduceIte, reduceCtorEq, Int.reduceToNat, Int.reduceLE, Int.reduceLT, Int.reduceEq, Int.reduceGT, Int.reduceGE, Int.reduceAdd, Int.reduceSub, Int.reduceNeg, Int.reduceMul, ↓bT, ↓bF, ↓backK_top, ↓backK_int, ↓backK_bool, ↓backK_sl, ↓backK_fn, ↓backK_agg, ↓backK_tup, ↓backK_pel, ↓backK_osl, ↓backK_may, ↓backK_box, ↓bothTT, ↓bothTF, ↓bothFT, ↓bothFF, bothTT, bothTF, bothFT, bothFF, ↓bothTT, ↓bothTF, ↓bothFT, ↓bothFF, ↓bothNT, ↓bothNF, ↓bothCT, ↓bothCF, Try.f26, rows_length, rows_get _ _ _ h, rows_get _ _ _ h2, encE, encBk, nn0, nlt h, nlt h2]
        refine CallTo.det (c_laws_eqEntry xs[i] ys[i]) fun _ => ?_
        cases he : decide (xs[i] = ys[i]) with
        | false =>
          have he' : decide (xs[i] = ys[i]) = false := he
          rw [he', Bool.false_and] at hp
          simp (config := { maxSteps := 4000000 }) only [go_sem, Nat.reduceEqDiff, Nat.reduceAdd, Nat.reduceMul, Nat.reduceSub, Nat.reduceLT, Nat.reduceLeDiff, reduceIte, reduceCtorEq, Int.reduceToNat, Int.reduceLE, Int.reduceLT, Int.reduceEq, Int.reduceGT, Int.reduceGE, Int.reduceAdd, Int.reduceSub, Int.reduceNeg, Int.reduceMul, ↓bT, ↓bF, ↓backK_top, ↓backK_int, ↓backK_bool, ↓backK_sl, ↓backK_fn, ↓backK_agg, ↓backK_tup, ↓backK_pel, ↓backK_osl, ↓backK_may, ↓backK_box, ↓bothTT, ↓bothTF, ↓bothFT, ↓bothFF, bothTT, bothTF, bothFT, bothFF, ↓bothTT, ↓bothTF, ↓bothFT, ↓bothFF, ↓bothNT, ↓bothNF, ↓bothCT, ↓bothCF, Try.f26, rows_length, rows_get _ _ _ h, rows_get _ _ _ h2, encE, encBk, nn0, nlt h, nlt h2, he, ← hp]
        | true =>
          have he' : decide (xs[i] = ys[i]) = true := he
          rw [he', Bool.true_and] at hp
          simp (config := { maxSteps := 4000000 }) only [go_sem, Nat.reduceEqDiff, Nat.reduceAdd, Nat.reduceMul, Nat.reduceSub, Nat.reduceLT, Nat.reduceLeDiff, reduceIte, reduceCtorEq, Int.reduceToNat, Int.reduceLE, Int.reduceLT, Int.reduceEq, Int.reduceGT, Int.reduceGE, Int.reduceAdd, Int.reduceSub, Int.reduceNeg, Int.reduceMul, ↓bT, ↓bF, ↓backK_top, ↓backK_int, ↓backK_bool, ↓backK_sl, ↓backK_fn, ↓backK_agg, ↓backK_tup, ↓backK_pel, ↓backK_osl, ↓backK_may, ↓backK_box, ↓bothTT, ↓bothTF, ↓bothFT, ↓bothFF, bothTT, bothTF, bothFT, bothFF, ↓bothTT, ↓bothTF, ↓bothFT, ↓bothFF, ↓bothNT, ↓bothNF, ↓bothCT, ↓bothCF, Try.f26, rows_length, rows_get _ _ _ h, rows_get _ _ _ h2, encE, encBk, nn0, nlt h, nlt h2, he]
          refine ⟨i + 1, [], ⟨by omega, hp⟩, by dsimp only; omega, Weak.of (by rfl) trivial ?_ (by rfl)⟩
          simp (config := { maxSteps := 4000000 }) only [go_sem, Nat.reduceEqDiff, Nat.reduceAdd, Nat.reduceMul, Nat.reduceSub, Nat.reduceLT, Nat.reduceLeDiff, reduceIte, reduceCtorEq, Int.reduceToNat, Int.reduceLE, Int.reduceLT, Int.reduceEq, Int.reduceGT, Int.reduceGE, Int.reduceAdd, Int.reduceSub, Int.reduceNeg, Int.reduceMul, ↓bT, ↓bF, ↓backK_top, ↓backK_int, ↓backK_bool, ↓backK_sl, ↓backK_fn, ↓backK_agg, ↓backK_tup, ↓backK_pel, ↓backK_osl, ↓backK_may, ↓backK_box, ↓bothTT, ↓bothTF, ↓bothFT, ↓bothFF, bothTT, bothTF, bothFT, bothFF, ↓bothTT, ↓bothTF, ↓bothFT, ↓bothFF, ↓bothNT, ↓bothNF, ↓bothCT, ↓bothCF, Try.f26, wsucc h hx, frW, wk2, wk1, wkL, wkB, hpW, List.mem_cons, Prod.mk.injEq, exists_eq_left, exists_eq_right, exists_eq]
      · have : i = xs.length := by omega
        subst this
        rw [List.drop_length, List.drop_of_length_le (by omega)] at hp
        simp (config := { maxSteps := 4000000 }) only [go_sem, Nat.reduceEqDiff, Nat.reduceAdd, Nat.reduceMul, Nat.reduceSub, Nat.reduceLT, Nat.reduceLeDiff, reduceIte, reduceCtorEq, Int.reduceToNat, Int.reduceLE, Int.reduceLT, Int.reduceEq, Int.reduceGT, Int.reduceGE, Int.reduceAdd, Int.reduceSub, Int.reduceNeg, Int.reduceMul, ↓bT, ↓bF, ↓backK_top, ↓backK_int, ↓backK_bool, ↓backK_sl, ↓backK_fn, ↓backK_agg, ↓backK_tup, ↓backK_pel, ↓backK_osl, ↓backK_may, ↓backK_box, ↓bothTT, ↓bothTF, ↓bothFT, ↓bothFF, bothTT, bothTF, bothFT, bothFF, ↓bothTT, ↓bothTF, ↓bothFT, ↓bothFF, ↓bothNT, ↓bothNF, ↓bothCT, ↓bothCF, Try.f26, rows_length, nlf h, ← hp]
  · have hd : (((xs.length : Int) != (ys.length : Int))) = true := by simp; omega
    have hne : xs ≠ ys := fun e => hl (by rw [e])
    simp (config := { maxSteps := 4000000 }) only [go_sem, Nat.reduceEqDiff, Nat.reduceAdd, Nat.reduceMul, Nat.reduceSub, Nat.reduceLT, Nat.reduceLeDiff, reduceIte, reduceCtorEq, Int.reduceToNat, Int.reduceLE, Int.reduceLT, Int.reduceEq, Int.reduceGT, Int.reduceGE, Int.reduceAdd, Int.reduceSub, Int.reduceNeg, Int.reduceMul, ↓bT, ↓bF, ↓backK_top, ↓backK_int, ↓backK_bool, ↓backK_sl, ↓backK_fn, ↓backK_agg, ↓backK_tup, ↓backK_pel, ↓backK_osl, ↓backK_may, ↓backK_box, ↓bothTT, ↓bothTF, ↓bothFT, ↓bothFF, bothTT, bothTF, bothFT, bothFF, ↓bothTT, ↓bothTF, ↓bothFT, ↓bothFF, ↓bothNT, ↓bothNF, ↓bothCT, ↓bothCF, Try.f26, rows_length, hd, decide_eq_false hne]


theorem c_laws_eqActionS (n1 n2 : Option Bool) (xs ys : List Action) (hx : xs.length < 2 ^ 62) (hy : ys.length < 2 ^ 62)  :
    Det Try.prog 27 [.sl n1 (rows encA xs), .sl n2 (rows encA ys)] (.bool (decide (xs = ys))) := by
  refine fspec_det tab_ok Try.call27 Try.func27 rfl 27 Try.ntmps27 (of_decide_eq_true rfl) fun B => codeK_sound tab_ok _ _ _ ?_
  by_cases hl : xs.length = ys.length
  · have hd : (((xs.length : Int) != (ys.length : Int))) = false := by simp [hl]
    simp (config := { maxSteps := 4000000 }) only [go_sem, Nat.reduceEqDiff, Nat.reduceAdd, Nat.reduceMul, Nat.reduceSub, Nat.reduceLT, Nat.reduceLeDiff, reduceIte, reduceCtorEq, Int.reduceToNat, Int.reduceLE, Int.reduceLT, Int.reduceEq, Int.reduceGT, Int.reduceGE, Int.reduceAdd, Int.reduceSub, Int.reduceNeg, Int.reduceMul, ↓bT, ↓bF, ↓backK_top, ↓backK_int, ↓backK_bool, ↓backK_sl, ↓backK_fn, ↓backK_agg, ↓backK_tup, ↓backK_pel, ↓backK_osl, ↓backK_may, ↓backK_box, ↓bothTT, ↓bothTF, ↓bothFT, ↓bothFF, bothTT, bothTF, bothFT, bothFF, ↓bothTT, ↓bothTF, ↓bothFT, ↓bothFF, ↓bothNT, ↓bothNF, ↓bothCT, ↓bothCF, Try.f27, rows_length, hd]
    refine semL_for tab_ok (fun i : Nat => ⟨27, [(0, .sl n1 (rows encA xs)), (1, .sl n2 (rows encA ys)), (5, .int .i64 i)], []⟩) (fun i => xs.length - i)
      (fun i => i ≤ xs.length ∧ decide (xs.drop i = ys.drop i) = decide (xs = ys)) 0 [] (Weak.of (by rfl) trivial ?_ (by rfl)) ⟨by omega, rfl⟩ ?_
    · simp (config := { maxSteps := 4000000 }) only [go_sem, Nat.reduceEqDiff, Nat.reduceAdd, Nat.reduceMul, Nat.reduceSub, Nat.reduceLT, Nat.reduceLeDiff, reduceIte, reduceCtorEq, Int.reduceToNat, Int.reduceLE, Int.reduceLT, Int.reduceEq, Int.reduceGT, Int.reduceGE, Int.reduceAdd, Int.reduceSub, Int.reduceNeg, Int.reduceMul, ↓bT, ↓bF, ↓backK_top, ↓backK_int, ↓backK_bool, ↓backK_sl, ↓backK_fn, ↓backK_agg, ↓backK_tup, ↓backK_pel, ↓backK_osl, ↓backK_may, ↓backK_box, ↓bothTT, ↓bothTF, ↓bothFT, ↓bothFF, bothTT, bothTF, bothFT, bothFF, ↓bothTT, ↓bothTF, ↓bothFT, ↓bothFF, ↓bothNT, ↓bothNF, ↓bothCT, ↓bothCF, Try.f27, rows_length, frW, wk2, wk1, wkL, wkB, hpW, List.mem_cons, Prod.mk.injEq, exists_eq_left, exists_eq_right, exists_eq]
    · rintro i ⟨hi, hp⟩
      by_cases h : i < xs.length
      · have h2 : i < ys.length := by omega
        rw [eq_drop xs ys i hl h] at hp
        simp (config := { maxSteps := 4000000 }) only [go_sem, Nat.reduceEqDiff, Nat.reduceAdd, Nat.reduceMul, Nat.reduceSub, Nat.reduceLT, Nat.reduceLeDiff, reduceIte, reduceCtorEq, Int.reduceToNat, Int.reduceLE, Int.reduceLT, Int.reduceEq, Int.reduceGT, Int.reduceGE, Int.reduceAdd, Int.reduceSub, Int.reduceNeg, Int.reduceMul, ↓bT, ↓bF, ↓backK_top, ↓backK_int, ↓backK_bool, ↓backK_sl, ↓backK_fn, ↓backK_agg, ↓backK_tup, ↓backK_pel, ↓backK_osl, ↓backK_may, ↓backK_box, ↓bothTT, ↓bothTF, ↓bothFT, ↓bothFF, bothTT, bothTF, bothFT, bothFF, ↓bothTT, ↓bothTF, ↓bothFT, ↓bothFF, ↓bothNT, ↓bothNF, ↓bothCT, ↓bothCF, Try.f27, rows_length, nlt h]
        refine semL_draw tab_ok mixed_ rfl (ord := [(0, []), (1, []), (2, []), (3, []), (4, []), (5, []), (6, []), (7, []), (8, []), (9, [])]) (by dsimp only; decide +kernel) ?_
        simp (config := { maxSteps := 4000000 }) only [go_sem, Nat.reduceEqDiff, Nat.reduceAdd, Nat.reduceMul, Nat.reduceSub, Nat.reduceLT, Nat.reduceLeDiff, reduceIte, reduceCtorEq, Int.reduceToNat, Int.reduceLE, Int.reduceLT, Int.reduceEq, Int.reduceGT, Int.reduceGE, Int.reduceAdd, Int.reduceSub, Int.reduceNeg, Int.reduceMul, ↓bT, ↓bF, ↓backK_top, ↓backK_int, ↓backK_bool, ↓backK_sl, ↓backK_fn, ↓backK_agg, ↓backK_tup, ↓backK_pel, ↓backK_osl, ↓backK_may, ↓backK_box, ↓bothTT, ↓bothTF, ↓bothFT, ↓bothFF, bothTT, bothTF, bothFT, bothFF, ↓bothTT, ↓bothTF, ↓bothFT, ↓bothFF, ↓bothNT, ↓bothNF, ↓bothCT, ↓bothCF, Try.f27, rows_length, rows_get _ _ _ h, rows_get _ _ _ h2, encA, encBk, nn0, nlt h, nlt h2]
        refine CallTo.det (c_laws_eqAction xs[i] ys[i]) fun _ => ?_
        cases he : decide (xs[i] = ys[i]) with
        | false =>
          have he' : decide (xs[i] = ys[i]) = false := he
          rw [he', Bool.false_and] at hp
          simp (config := { maxSteps := 4000000 }) only [go_sem, Nat.reduceEqDiff, Nat.reduceAdd, Nat.reduceMul, Nat.reduceSub, Nat.reduceLT, Nat.reduceLeDiff, reduceIte, reduceCtorEq, Int.reduceToNat, Int.reduceLE, Int.reduceLT, Int.reduceEq, Int.reduceGT, Int.reduceGE, Int.reduceAdd, Int.reduceSub, Int.reduceNeg, Int.reduceMul, ↓bT, ↓bF, ↓backK_top, ↓backK_int, ↓backK_bool, ↓backK_sl, ↓backK_fn, ↓backK_agg, ↓backK_tup, ↓backK_pel, ↓backK_osl, ↓backK_may, ↓backK_box, ↓bothTT, ↓bothTF, ↓bothFT, ↓bothFF, bothTT, bothTF, bothFT, bothFF, ↓bothTT, ↓bothTF, ↓bothFT, ↓bothFF, ↓bothNT, ↓bothNF, ↓bothCT, ↓bothCF, Try.f27, rows_length, rows_get _ _ _ h, rows_get _ _ _ h2, encA, encBk, nn0, nlt h, nlt h2, he, ← hp]
        | true =>
          have he' : decide (xs[i] = ys[i]) = true := he
          rw [he', Bool.true_and] at hp
          simp (config := { maxSteps := 4000000 }) only [go_sem, Nat.reduceEqDiff, Nat.reduceAdd, Nat.reduceMul, Nat.reduceSub, Nat.reduceLT, Nat.reduceLeDiff, reduceIte, reduceCtorEq, Int.reduceToNat, Int.reduceLE, Int.reduceLT, Int.reduceEq, Int.reduceGT, Int.reduceGE, Int.reduceAdd, Int.reduceSub, Int.reduceNeg, Int.reduceMul, ↓bT, ↓bF, ↓backK_top, ↓backK_int, ↓backK_bool, ↓backK_sl, ↓backK_fn, ↓backK_agg, ↓backK_tup, ↓backK_pel, ↓backK_osl, ↓backK_may, ↓backK_box, ↓bothTT, ↓bothTF, ↓bothFT, ↓bothFF, bothTT, bothTF, bothFT, bothFF, ↓bothTT, ↓bothTF, ↓bothFT, ↓bothFF, ↓bothNT, ↓bothNF, ↓bothCT, ↓bothCF, Try.f27, rows_length, rows_get _ _ _ h, rows_get _ _ _ h2, encA, encBk, nn0, nlt h, nlt h2, he]
          refine ⟨i + 1, [], ⟨by omega, hp⟩, by dsimp only; omega, Weak.of (by rfl) trivial ?_ (by rfl)⟩
          simp (config := { maxSteps := 4000000 }) only [go_sem, Nat.reduceEqDiff, Nat.reduceAdd, Nat.reduceMul, Nat.reduceSub, Nat.reduceLT, Nat.reduceLeDiff, reduceIte, reduceCtorEq, Int.reduceToNat, Int.reduceLE, Int.reduceLT, Int.reduceEq, Int.reduceGT, Int.reduceGE, Int.reduceAdd, Int.reduceSub, Int.reduceNeg, Int.reduceMul, ↓bT, ↓bF, ↓backK_top, ↓backK_int, ↓backK_bool, ↓backK_sl, ↓backK_fn, ↓backK_agg, ↓backK_tup, ↓backK_pel, ↓backK_osl, ↓backK_may, ↓backK_box, ↓bothTT, ↓bothTF, ↓bothFT, ↓bothFF, bothTT, bothTF, bothFT, bothFF, ↓bothTT, ↓bothTF, ↓bothFT, ↓bothFF, ↓bothNT, ↓bothNF, ↓bothCT, ↓bothCF, Try.f27, wsucc h hx, frW, wk2, wk1, wkL, wkB, hpW, List.mem_cons, Prod.mk.injEq, exists_eq_left, exists_eq_right, exists_eq]
      · have : i = xs.length := by omega
        subst this
        rw [List.drop_length, List.drop_of_length_le (by omega)] at hp
        simp (config := { maxSteps := 4000000 }) only [go_sem, Nat.reduceEqDiff, Nat.reduceAdd, Nat.reduceMul, Nat.reduceSub, Nat.reduceLT, Nat.reduceLeDiff, reduceIte, reduceCtorEq, Int.reduceToNat, Int.reduceLE, Int.reduceLT, Int.reduceEq, Int.reduceGT, Int.reduceGE, Int.reduceAdd, Int.reduceSub, Int.reduceNeg, Int.reduceMul, ↓bT, ↓bF, ↓backK_top, ↓backK_int, ↓backK_bool, ↓backK_sl, ↓backK_fn, ↓backK_agg, ↓backK_tup, ↓backK_pel, ↓backK_osl, ↓backK_may, ↓backK_box, ↓bothTT, ↓bothTF, ↓bothFT, ↓bothFF, bothTT, bothTF, bothFT, bothFF, ↓bothTT, ↓bothTF, ↓bothFT, ↓bothFF, ↓bothNT, ↓bothNF, ↓bothCT, ↓bothCF, Try.f27, rows_length, nlf h, ← hp]
  · have hd : (((xs.length : Int) != (ys.length : Int))) = true := by simp; omega
    have hne : xs ≠ ys := fun e => hl (by rw [e])
    simp (config := { maxSteps := 4000000 }) only [go_sem, Nat.reduceEqDiff, Nat.reduceAdd, Nat.reduceMul, Nat.reduceSub, Nat.reduceLT, Nat.reduceLeDiff, reduceIte, reduceCtorEq, Int.reduceToNat, Int.reduceLE, Int.reduceLT, Int.reduceEq, Int.reduceGT, Int.reduceGE, Int.reduceAdd, Int.reduceSub, Int.reduceNeg, Int.reduceMul, ↓bT, ↓bF, ↓backK_top, ↓backK_int, ↓backK_bool, ↓backK_sl, ↓backK_fn, ↓backK_agg, ↓backK_tup, ↓backK_pel, ↓backK_osl, ↓backK_may, ↓backK_box, ↓bothTT, ↓bothTF, ↓bothFT, ↓bothFF, bothTT, bothTF, bothFT, bothFF, ↓bothTT, ↓bothTF, ↓bothFT, ↓bothFF, ↓bothNT, ↓bothNF, ↓bothCT, ↓bothCF, Try.f27, rows_length, hd, decide_eq_false hne]


theorem c_laws_eqBlock (n1 n2 : Option Bool) (b c : Block) (hx : b.list.length < 2 ^ 62) (hy : c.list.length < 2 ^ 62) : Det Try.prog 55 [.agg (encBk n1 b), .agg (encBk n2 c)] (.bool (decide (b = c))) := by
  refine fspec_det tab_ok Try.call55 Try.func55 rfl 36 Try.ntmps55 (of_decide_eq_true rfl) fun B => codeK_sound tab_ok _ _ _ ?_
  unfold encBk
  rw [← blkB]
  cases h1 : (b.before == c.before) with
  | false => simp (config := { maxSteps := 4000000 }) only [go_sem, Nat.reduceEqDiff, Nat.reduceAdd, Nat.reduceMul, Nat.reduceSub, Nat.reduceLT, Nat.reduceLeDiff, reduceIte, reduceCtorEq, Int.reduceToNat, Int.reduceLE, Int.reduceLT, Int.reduceEq, Int.reduceGT, Int.reduceGE, Int.reduceAdd, Int.reduceSub, Int.reduceNeg, Int.reduceMul, ↓bT, ↓bF, ↓backK_top, ↓backK_int, ↓backK_bool, ↓backK_sl, ↓backK_fn, ↓backK_agg, ↓backK_tup, ↓backK_pel, ↓backK_osl, ↓backK_may, ↓backK_box, ↓bothTT, ↓bothTF, ↓bothFT, ↓bothFF, bothTT, bothTF, bothFT, bothFF, ↓bothTT, ↓bothTF, ↓bothFT, ↓bothFF, ↓bothNT, ↓bothNF, ↓bothCT, ↓bothCF, Try.f55, bne, h1, sameB]
  | true =>
    cases h2 : (b.height == c.height) with
    | false => simp (config := { maxSteps := 4000000 }) only [go_sem, Nat.reduceEqDiff, Nat.reduceAdd, Nat.reduceMul, Nat.reduceSub, Nat.reduceLT, Nat.reduceLeDiff, reduceIte, reduceCtorEq, Int.reduceToNat, Int.reduceLE, Int.reduceLT, Int.reduceEq, Int.reduceGT, Int.reduceGE, Int.reduceAdd, Int.reduceSub, Int.reduceNeg, Int.reduceMul, ↓bT, ↓bF, ↓backK_top, ↓backK_int, ↓backK_bool, ↓backK_sl, ↓backK_fn, ↓backK_agg, ↓backK_tup, ↓backK_pel, ↓backK_osl, ↓backK_may, ↓backK_box, ↓bothTT, ↓bothTF, ↓bothFT, ↓bothFF, bothTT, bothTF, bothFT, bothFF, ↓bothTT, ↓bothTF, ↓bothFT, ↓bothFF, ↓bothNT, ↓bothNF, ↓bothCT, ↓bothCF, Try.f55, bne, h1, h2, sameB]
    | true =>
      cases h3 : (b.view == c.view) with
      | false => simp (config := { maxSteps := 4000000 }) only [go_sem, Nat.reduceEqDiff, Nat.reduceAdd, Nat.reduceMul, Nat.reduceSub, Nat.reduceLT, Nat.reduceLeDiff, reduceIte, reduceCtorEq, Int.reduceToNat, Int.reduceLE, Int.reduceLT, Int.reduceEq, Int.reduceGT, Int.reduceGE, Int.reduceAdd, Int.reduceSub, Int.reduceNeg, Int.reduceMul, ↓bT, ↓bF, ↓backK_top, ↓backK_int, ↓backK_bool, ↓backK_sl, ↓backK_fn, ↓backK_agg, ↓backK_tup, ↓backK_pel, ↓backK_osl, ↓backK_may, ↓backK_box, ↓bothTT, ↓bothTF, ↓bothFT, ↓bothFF, bothTT, bothTF, bothFT, bothFF, ↓bothTT, ↓bothTF, ↓bothFT, ↓bothFF, ↓bothNT, ↓bothNF, ↓bothCT, ↓bothCF, Try.f55, bne, h1, h2, h3, sameB]
      | true =>
        simp (config := { maxSteps := 4000000 }) only [go_sem, Nat.reduceEqDiff, Nat.reduceAdd, Nat.reduceMul, Nat.reduceSub, Nat.reduceLT, Nat.reduceLeDiff, reduceIte, reduceCtorEq, Int.reduceToNat, Int.reduceLE, Int.reduceLT, Int.reduceEq, Int.reduceGT, Int.reduceGE, Int.reduceAdd, Int.reduceSub, Int.reduceNeg, Int.reduceMul, ↓bT, ↓bF, ↓backK_top, ↓backK_int, ↓backK_bool, ↓backK_sl, ↓backK_fn, ↓backK_agg, ↓backK_tup, ↓backK_pel, ↓backK_osl, ↓backK_may, ↓backK_box, ↓bothTT, ↓bothTF, ↓bothFT, ↓bothFF, bothTT, bothTF, bothFT, bothFF, ↓bothTT, ↓bothTF, ↓bothFT, ↓bothFF, ↓bothNT, ↓bothNF, ↓bothCT, ↓bothCF, Try.f55, bne, h1, h2, h3]
        refine CallTo.det (c_laws_eqActionS _ _ _ _ hx hy) fun _ => ?_
        cases h6 : decide (b.list = c.list) with
        | false => simp (config := { maxSteps := 4000000 }) only [go_sem, Nat.reduceEqDiff, Nat.reduceAdd, Nat.reduceMul, Nat.reduceSub, Nat.reduceLT, Nat.reduceLeDiff, reduceIte, reduceCtorEq, Int.reduceToNat, Int.reduceLE, Int.reduceLT, Int.reduceEq, Int.reduceGT, Int.reduceGE, Int.reduceAdd, Int.reduceSub, Int.reduceNeg, Int.reduceMul, ↓bT, ↓bF, ↓backK_top, ↓backK_int, ↓backK_bool, ↓backK_sl, ↓backK_fn, ↓backK_agg, ↓backK_tup, ↓backK_pel, ↓backK_osl, ↓backK_may, ↓backK_box, ↓bothTT, ↓bothTF, ↓bothFT, ↓bothFF, bothTT, bothTF, bothFT, bothFF, ↓bothTT, ↓bothTF, ↓bothFT, ↓bothFF, ↓bothNT, ↓bothNF, ↓bothCT, ↓bothCF, Try.f55, bne, h1, h2, h3, h6, sameB]
        | true =>
          cases h4 : (b.root == c.root) with
          | false => simp (config := { maxSteps := 4000000 }) only [go_sem, Nat.reduceEqDiff, Nat.reduceAdd, Nat.reduceMul, Nat.reduceSub, Nat.reduceLT, Nat.reduceLeDiff, reduceIte, reduceCtorEq, Int.reduceToNat, Int.reduceLE, Int.reduceLT, Int.reduceEq, Int.reduceGT, Int.reduceGE, Int.reduceAdd, Int.reduceSub, Int.reduceNeg, Int.reduceMul, ↓bT, ↓bF, ↓backK_top, ↓backK_int, ↓backK_bool, ↓backK_sl, ↓backK_fn, ↓backK_agg, ↓backK_tup, ↓backK_pel, ↓backK_osl, ↓backK_may, ↓backK_box, ↓bothTT, ↓bothTF, ↓bothFT, ↓bothFF, bothTT, bothTF, bothFT, bothFF, ↓bothTT, ↓bothTF, ↓bothFT, ↓bothFF, ↓bothNT, ↓bothNF, ↓bothCT, ↓bothCF, Try.f55, bne, h1, h2, h3, h4, h6, sameB]
          | true =>
            cases h5 : (b.effects == c.effects) with
            | false => simp (config := { maxSteps := 4000000 }) only [go_sem, Nat.reduceEqDiff, Nat.reduceAdd, Nat.reduceMul, Nat.reduceSub, Nat.reduceLT, Nat.reduceLeDiff, reduceIte, reduceCtorEq, Int.reduceToNat, Int.reduceLE, Int.reduceLT, Int.reduceEq, Int.reduceGT, Int.reduceGE, Int.reduceAdd, Int.reduceSub, Int.reduceNeg, Int.reduceMul, ↓bT, ↓bF, ↓backK_top, ↓backK_int, ↓backK_bool, ↓backK_sl, ↓backK_fn, ↓backK_agg, ↓backK_tup, ↓backK_pel, ↓backK_osl, ↓backK_may, ↓backK_box, ↓bothTT, ↓bothTF, ↓bothFT, ↓bothFF, bothTT, bothTF, bothFT, bothFF, ↓bothTT, ↓bothTF, ↓bothFT, ↓bothFF, ↓bothNT, ↓bothNF, ↓bothCT, ↓bothCF, Try.f55, bne, h1, h2, h3, h4, h5, h6, sameB]
            | true => simp (config := { maxSteps := 4000000 }) only [go_sem, Nat.reduceEqDiff, Nat.reduceAdd, Nat.reduceMul, Nat.reduceSub, Nat.reduceLT, Nat.reduceLeDiff, reduceIte, reduceCtorEq, Int.reduceToNat, Int.reduceLE, Int.reduceLT, Int.reduceEq, Int.reduceGT, Int.reduceGE, Int.reduceAdd, Int.reduceSub, Int.reduceNeg, Int.reduceMul, ↓bT, ↓bF, ↓backK_top, ↓backK_int, ↓backK_bool, ↓backK_sl, ↓backK_fn, ↓backK_agg, ↓backK_tup, ↓backK_pel, ↓backK_osl, ↓backK_may, ↓backK_box, ↓bothTT, ↓bothTF, ↓bothFT, ↓bothFF, bothTT, bothTF, bothFT, bothFF, ↓bothTT, ↓bothTF, ↓bothFT, ↓bothFF, ↓bothNT, ↓bothNF, ↓bothCT, ↓bothCF, Try.f55, bne, h1, h2, h3, h4, h5, h6, sameB]

theorem c_laws_eqBlockS (n1 n2 : Option Bool) (xs ys : List Block) (hx : xs.length < 2 ^ 62) (hy : ys.length < 2 ^ 62) (hlx : ∀ b, b ∈ xs → b.list.length < 2 ^ 62) (hly : ∀ b, b ∈ ys → b.list.length < 2 ^ 62) :
    Det Try.prog 101 [.sl n1 (rows encB1 xs), .sl n2 (rows encB1 ys)] (.bool (decide (xs = ys))) := by
  refine fspec_det tab_ok Try.call101 Try.func101 rfl 27 Try.ntmps101 (of_decide_eq_true rfl) fun B => codeK_sound tab_ok _ _ _ ?_
  by_cases hl : xs.length = ys.length
  · have hd : (((xs.length : Int) != (ys.length : Int))) = false := by simp [hl]
    simp (config := { maxSteps := 4000000 }) only [go_sem, Nat.reduceEqDiff, Nat.reduceAdd, Nat.reduceMul, Nat.reduceSub, Nat.reduceLT, Nat.reduceLeDiff, reduceIte, reduceCtorEq, Int.reduceToNat, Int.reduceLE, Int.reduceLT, Int.reduceEq, Int.reduceGT, Int.reduceGE, Int.reduceAdd, Int.reduceSub, Int.reduceNeg, Int.reduceMul, ↓bT, ↓bF, ↓backK_top, ↓backK_int, ↓backK_bool, ↓backK_sl, ↓backK_fn, ↓backK_agg, ↓backK_tup, ↓backK_pel, ↓backK_osl, ↓backK_may, ↓backK_box, ↓bothTT, ↓bothTF, ↓bothFT, ↓bothFF, bothTT, bothTF, bothFT, bothFF, ↓bothTT, ↓bothTF, ↓bothFT, ↓bothFF, ↓bothNT, ↓bothNF, ↓bothCT, ↓bothCF, Try.f101, rows_length, hd]
    refine semL_for tab_ok (fun i : Nat => ⟨27, [(0, .sl n1 (rows encB1 xs)), (1, .sl n2 (rows encB1 ys)), (5, .int .i64 i)], []⟩) (fun i => xs.length - i)
      (fun i => i ≤ xs.length ∧ decide (xs.drop i = ys.drop i) = decide (xs = ys)) 0 [] (Weak.of (by rfl) trivial ?_ (by rfl)) ⟨by omega, rfl⟩ ?_
    · simp (config := { maxSteps := 4000000 }) only [go_sem, Nat.reduceEqDiff, Nat.reduceAdd, Nat.reduceMul, Nat.reduceSub, Nat.reduceLT, Nat.reduceLeDiff, reduceIte, reduceCtorEq, Int.reduceToNat, Int.reduceLE, Int.reduceLT, Int.reduceEq, Int.reduceGT, Int.reduceGE, Int.reduceAdd, Int.reduceSub, Int.reduceNeg, Int.reduceMul, ↓bT, ↓bF, ↓backK_top, ↓backK_int, ↓backK_bool, ↓backK_sl, ↓backK_fn, ↓backK_agg, ↓backK_tup, ↓backK_pel, ↓backK_osl, ↓backK_may, ↓backK_box, ↓bothTT, ↓bothTF, ↓bothFT, ↓bothFF, bothTT, bothTF, bothFT, bothFF, ↓bothTT, ↓bothTF, ↓bothFT, ↓bothFF, ↓bothNT, ↓bothNF, ↓bothCT, ↓bothCF, Try.f101, rows_length, frW, wk2, wk1, wkL, wkB, hpW, List.mem_cons, Prod.mk.injEq, exists_eq_left, exists_eq_right, exists_eq]
    · rintro i ⟨hi, hp⟩
      by_cases h : i < xs.length
      · have h2 : i < ys.length := by omega
        rw [eq_drop xs ys i hl h] at hp
        simp (config := { maxSteps := 4000000 }) only [go_sem, Nat.reduceEqDiff, Nat.reduceAdd, Nat.reduceMul, Nat.reduceSub, Nat.reduceLT, Nat.reduceLeDiff, reduceIte, reduceCtorEq, Int.reduceToNat, Int.reduceLE, Int.reduceLT, Int.reduceEq, Int.reduceGT, Int.reduceGE, Int.reduceAdd, Int.reduceSub, Int.reduceNeg, Int.reduceMul, ↓bT, ↓bF, ↓backK_top, ↓backK_int, ↓backK_bool, ↓backK_sl, ↓backK_fn, ↓backK_agg, ↓backK_tup, ↓backK_pel, ↓backK_osl, ↓backK_may, ↓backK_box, ↓bothTT, ↓bothTF, ↓bothFT, ↓bothFF, bothTT, bothTF, bothFT, bothFF, ↓bothTT, ↓bothTF, ↓bothFT, ↓bothFF, ↓bothNT, ↓bothNF, ↓bothCT, ↓bothCF, Try.f101, rows_length, nlt h]
        refine semL_draw tab_ok mixed_ rfl (ord := [(0, []), (1, []), (2, []), (3, []), (4, []), (5, []), (6, []), (7, []), (8, []), (9, [])]) (by dsimp only; decide +kernel) ?_
        simp (config := { maxSteps := 4000000 }) only [go_sem, Nat.reduceEqDiff, Nat.reduceAdd, Nat.reduceMul, Nat.reduceSub, Nat.reduceLT, Nat.reduceLeDiff, reduceIte, reduceCtorEq, Int.reduceToNat, Int.reduceLE, Int.reduceLT, Int.reduceEq, Int.reduceGT, Int.reduceGE, Int.reduceAdd, Int.reduceSub, Int.reduceNeg, Int.reduceMul, ↓bT, ↓bF, ↓backK_top, ↓backK_int, ↓backK_bool, ↓backK_sl, ↓backK_fn, ↓backK_agg, ↓backK_tup, ↓backK_pel, ↓backK_osl, ↓backK_may, ↓backK_box, ↓bothTT, ↓bothTF, ↓bothFT, ↓bothFF, bothTT, bothTF, bothFT, bothFF, ↓bothTT, ↓bothTF, ↓bothFT, ↓bothFF, ↓bothNT, ↓bothNF, ↓bothCT, ↓bothCF, Try.f101, rows_length, rows_get _ _ _ h, rows_get _ _ _ h2, encB1, encBk, nn0, nlt h, nlt h2]
        refine CallTo.det (c_laws_eqBlock none none xs[i] ys[i] (hlx _ (List.getElem_mem h)) (hly _ (List.getElem_mem h2))) fun _ => ?_
        cases he : decide (xs[i] = ys[i]) with
        | false =>
          have he' : decide (xs[i] = ys[i]) = false := he
          rw [he', Bool.false_and] at hp
          simp (config := { maxSteps := 4000000 }) only [go_sem, Nat.reduceEqDiff, Nat.reduceAdd, Nat.reduceMul, Nat.reduceSub, Nat.reduceLT, Nat.reduceLeDiff, reduceIte, reduceCtorEq, Int.reduceToNat, Int.reduceLE, Int.reduceLT, Int.reduceEq, Int.reduceGT, Int.reduceGE, Int.reduceAdd, Int.reduceSub, Int.reduceNeg, Int.reduceMul, ↓bT, ↓bF, ↓backK_top, ↓backK_int, ↓backK_bool, ↓backK_sl, ↓backK_fn, ↓backK_agg, ↓backK_tup, ↓backK_pel, ↓backK_osl, ↓backK_may, ↓backK_box, ↓bothTT, ↓bothTF, ↓bothFT, ↓bothFF, bothTT, bothTF, bothFT, bothFF, ↓bothTT, ↓bothTF, ↓bothFT, ↓bothFF, ↓bothNT, ↓bothNF, ↓bothCT, ↓bothCF, Try.f101, rows_length, rows_get _ _ _ h, rows_get _ _ _ h2, encB1, encBk, nn0, nlt h, nlt h2, he, ← hp]
        | true =>
          have he' : decide (xs[i] = ys[i]) = true := he
          rw [he', Bool.true_and] at hp
          simp (config := { maxSteps := 4000000 }) only [go_sem, Nat.reduceEqDiff, Nat.reduceAdd, Nat.reduceMul, Nat.reduceSub, Nat.reduceLT, Nat.reduceLeDiff, reduceIte, reduceCtorEq, Int.reduceToNat, Int.reduceLE, Int.reduceLT, Int.reduceEq, Int.reduceGT, Int.reduceGE, Int.reduceAdd, Int.reduceSub, Int.reduceNeg, Int.reduceMul, ↓bT, ↓bF, ↓backK_top, ↓backK_int, ↓backK_bool, ↓backK_sl, ↓backK_fn, ↓backK_agg, ↓backK_tup, ↓backK_pel, ↓backK_osl, ↓backK_may, ↓backK_box, ↓bothTT, ↓bothTF, ↓bothFT, ↓bothFF, bothTT, bothTF, bothFT, bothFF, ↓bothTT, ↓bothTF, ↓bothFT, ↓bothFF, ↓bothNT, ↓bothNF, ↓bothCT, ↓bothCF, Try.f101, rows_length, rows_get _ _ _ h, rows_get _ _ _ h2, encB1, encBk, nn0, nlt h, nlt h2, he]
          refine ⟨i + 1, [], ⟨by omega, hp⟩, by dsimp only; omega, Weak.of (by rfl) trivial ?_ (by rfl)⟩
          simp (config := { maxSteps := 4000000 }) only [go_sem, Nat.reduceEqDiff, Nat.reduceAdd, Nat.reduceMul, Nat.reduceSub, Nat.reduceLT, Nat.reduceLeDiff, reduceIte, reduceCtorEq, Int.reduceToNat, Int.reduceLE, Int.reduceLT, Int.reduceEq, Int.reduceGT, Int.reduceGE, Int.reduceAdd, Int.reduceSub, Int.reduceNeg, Int.reduceMul, ↓bT, ↓bF, ↓backK_top, ↓backK_int, ↓backK_bool, ↓backK_sl, ↓backK_fn, ↓backK_agg, ↓backK_tup, ↓backK_pel, ↓backK_osl, ↓backK_may, ↓backK_box, ↓bothTT, ↓bothTF, ↓bothFT, ↓bothFF, bothTT, bothTF, bothFT, bothFF, ↓bothTT, ↓bothTF, ↓bothFT, ↓bothFF, ↓bothNT, ↓bothNF, ↓bothCT, ↓bothCF, Try.f101, wsucc h hx, frW, wk2, wk1, wkL, wkB, hpW, List.mem_cons, Prod.mk.injEq, exists_eq_left, exists_eq_right, exists_eq]
      · have : i = xs.length := by omega
        subst this
        rw [List.drop_length, List.drop_of_length_le (by omega)] at hp
        simp (config := { maxSteps := 4000000 }) only [go_sem, Nat.reduceEqDiff, Nat.reduceAdd, Nat.reduceMul, Nat.reduceSub, Nat.reduceLT, Nat.reduceLeDiff, reduceIte, reduceCtorEq, Int.reduceToNat, Int.reduceLE, Int.reduceLT, Int.reduceEq, Int.reduceGT, Int.reduceGE, Int.reduceAdd, Int.reduceSub, Int.reduceNeg, Int.reduceMul, ↓bT, ↓bF, ↓backK_top, ↓backK_int, ↓backK_bool, ↓backK_sl, ↓backK_fn, ↓backK_agg, ↓backK_tup, ↓backK_pel, ↓backK_osl, ↓backK_may, ↓backK_box, ↓bothTT, ↓bothTF, ↓bothFT, ↓bothFF, bothTT, bothTF, bothFT, bothFF, ↓bothTT, ↓bothTF, ↓bothFT, ↓bothFF, ↓bothNT, ↓bothNF, ↓bothCT, ↓bothCF, Try.f101, rows_length, nlf h, ← hp]
  · have hd : (((xs.length : Int) != (ys.length : Int))) = true := by simp; omega
    have hne : xs ≠ ys := fun e => hl (by rw [e])
    simp (config := { maxSteps := 4000000 }) only [go_sem, Nat.reduceEqDiff, Nat.reduceAdd, Nat.reduceMul, Nat.reduceSub, Nat.reduceLT, Nat.reduceLeDiff, reduceIte, reduceCtorEq, Int.reduceToNat, Int.reduceLE, Int.reduceLT, Int.reduceEq, Int.reduceGT, Int.reduceGE, Int.reduceAdd, Int.reduceSub, Int.reduceNeg, Int.reduceMul, ↓bT, ↓bF, ↓backK_top, ↓backK_int, ↓backK_bool, ↓backK_sl, ↓backK_fn, ↓backK_agg, ↓backK_tup, ↓backK_pel, ↓backK_osl, ↓backK_may, ↓backK_box, ↓bothTT, ↓bothTF, ↓bothFT, ↓bothFF, bothTT, bothTF, bothFT, bothFF, ↓bothTT, ↓bothTF, ↓bothFT, ↓bothFF, ↓bothNT, ↓bothNF, ↓bothCT, ↓bothCF, Try.f101, rows_length, hd, decide_eq_false hne]


theorem c_laws_eqIntS (n1 n2 : Option Bool) (xs ys : List Int) (hx : xs.length < 2 ^ 62) (hy : ys.length < 2 ^ 62) :
    Det Try.prog 60 [.sl n1 (rows encI xs), .sl n2 (rows encI ys)] (.bool (decide (xs = ys))) := by
  refine fspec_det tab_ok Try.call60 Try.func60 rfl 26 Try.ntmps60 (of_decide_eq_true rfl) fun B => codeK_sound tab_ok _ _ _ ?_
  by_cases hl : xs.length = ys.length
  · have hd : (((xs.length : Int) != (ys.length : Int))) = false := by simp [hl]
    simp (config := { maxSteps := 4000000 }) only [go_sem, Nat.reduceEqDiff, Nat.reduceAdd, Nat.reduceMul, Nat.reduceSub, Nat.reduceLT, Nat.reduceLeDiff, reduceIte, reduceCtorEq, Int.reduceToNat, Int.reduceLE, Int.reduceLT, Int.reduceEq, Int.reduceGT, Int.reduceGE, Int.reduceAdd, Int.reduceSub, Int.reduceNeg, Int.reduceMul, ↓bT, ↓bF, ↓backK_top, ↓backK_int, ↓backK_bool, ↓backK_sl, ↓backK_fn, ↓backK_agg, ↓backK_tup, ↓backK_pel, ↓backK_osl, ↓backK_may, ↓backK_box, ↓bothTT, ↓bothTF, ↓bothFT, ↓bothFF, bothTT, bothTF, bothFT, bothFF, ↓bothTT, ↓bothTF, ↓bothFT, ↓bothFF, ↓bothNT, ↓bothNF, ↓bothCT, ↓bothCF, Try.f60, rows_length, hd]
    refine semL_for tab_ok (fun i : Nat => ⟨26, [(0, .sl n1 (rows encI xs)), (1, .sl n2 (rows encI ys)), (5, .int .i64 i)], []⟩) (fun i => xs.length - i)
      (fun i => i ≤ xs.length ∧ decide (xs.drop i = ys.drop i) = decide (xs = ys)) 0 [] (Weak.of (by rfl) trivial ?_ (by rfl)) ⟨by omega, rfl⟩ ?_
    · simp (config := { maxSteps := 4000000 }) only [go_sem, Nat.reduceEqDiff, Nat.reduceAdd, Nat.reduceMul, Nat.reduceSub, Nat.reduceLT, Nat.reduceLeDiff, reduceIte, reduceCtorEq, Int.reduceToNat, Int.reduceLE, Int.reduceLT, Int.reduceEq, Int.reduceGT, Int.reduceGE, Int.reduceAdd, Int.reduceSub, Int.reduceNeg, Int.reduceMul, ↓bT, ↓bF, ↓backK_top, ↓backK_int, ↓backK_bool, ↓backK_sl, ↓backK_fn, ↓backK_agg, ↓backK_tup, ↓backK_pel, ↓backK_osl, ↓backK_may, ↓backK_box, ↓bothTT, ↓bothTF, ↓bothFT, ↓bothFF, bothTT, bothTF, bothFT, bothFF, ↓bothTT, ↓bothTF, ↓bothFT, ↓bothFF, ↓bothNT, ↓bothNF, ↓bothCT, ↓bothCF, Try.f60, rows_length, frW, wk2, wk1, wkL, wkB, hpW, List.mem_cons, Prod.mk.injEq, exists_eq_left, exists_eq_right, exists_eq]
    · rintro i ⟨hi, hp⟩
      by_cases h : i < xs.length
      · have h2 : i < ys.length := by omega
        rw [eq_drop xs ys i hl h] at hp
        simp (config := { maxSteps := 4000000 }) only [go_sem, Nat.reduceEqDiff, Nat.reduceAdd, Nat.reduceMul, Nat.reduceSub, Nat.reduceLT, Nat.reduceLeDiff, reduceIte, reduceCtorEq, Int.reduceToNat, Int.reduceLE, Int.reduceLT, Int.reduceEq, Int.reduceGT, Int.reduceGE, Int.reduceAdd, Int.reduceSub, Int.reduceNeg, Int.reduceMul, ↓bT, ↓bF, ↓backK_top, ↓backK_int, ↓backK_bool, ↓backK_sl, ↓backK_fn, ↓backK_agg, ↓backK_tup, ↓backK_pel, ↓backK_osl, ↓backK_may, ↓backK_box, ↓bothTT, ↓bothTF, ↓bothFT, ↓bothFF, bothTT, bothTF, bothFT, bothFF, ↓bothTT, ↓bothTF, ↓bothFT, ↓bothFF, ↓bothNT, ↓bothNF, ↓bothCT, ↓bothCF, Try.f60, rows_length, nlt h]
        refine semL_still tab_ok mixed_ (by decide +kernel) ?_
        cases he : (xs[i] == ys[i]) with
        | false =>
          have he' : decide (xs[i] = ys[i]) = false := by simpa using he
          rw [he', Bool.false_and] at hp
          simp (config := { maxSteps := 4000000 }) only [go_sem, Nat.reduceEqDiff, Nat.reduceAdd, Nat.reduceMul, Nat.reduceSub, Nat.reduceLT, Nat.reduceLeDiff, reduceIte, reduceCtorEq, Int.reduceToNat, Int.reduceLE, Int.reduceLT, Int.reduceEq, Int.reduceGT, Int.reduceGE, Int.reduceAdd, Int.reduceSub, Int.reduceNeg, Int.reduceMul, ↓bT, ↓bF, ↓backK_top, ↓backK_int, ↓backK_bool, ↓backK_sl, ↓backK_fn, ↓backK_agg, ↓backK_tup, ↓backK_pel, ↓backK_osl, ↓backK_may, ↓backK_box, ↓bothTT, ↓bothTF, ↓bothFT, ↓bothFF, bothTT, bothTF, bothFT, bothFF, ↓bothTT, ↓bothTF, ↓bothFT, ↓bothFF, ↓bothNT, ↓bothNF, ↓bothCT, ↓bothCF, Try.f60, rows_length, rows_get _ _ _ h, rows_get _ _ _ h2, encI, nn0, nlt h, nlt h2, bne, he, ← hp]
        | true =>
          have he' : decide (xs[i] = ys[i]) = true := by simpa using he
          rw [he', Bool.true_and] at hp
          simp (config := { maxSteps := 4000000 }) only [go_sem, Nat.reduceEqDiff, Nat.reduceAdd, Nat.reduceMul, Nat.reduceSub, Nat.reduceLT, Nat.reduceLeDiff, reduceIte, reduceCtorEq, Int.reduceToNat, Int.reduceLE, Int.reduceLT, Int.reduceEq, Int.reduceGT, Int.reduceGE, Int.reduceAdd, Int.reduceSub, Int.reduceNeg, Int.reduceMul, ↓bT, ↓bF, ↓backK_top, ↓backK_int, ↓backK_bool, ↓backK_sl, ↓backK_fn, ↓backK_agg, ↓backK_tup, ↓backK_pel, ↓backK_osl, ↓backK_may, ↓backK_box, ↓bothTT, ↓bothTF, ↓bothFT, ↓bothFF, bothTT, bothTF, bothFT, bothFF, ↓bothTT, ↓bothTF, ↓bothFT, ↓bothFF, ↓bothNT, ↓bothNF, ↓bothCT, ↓bothCF, Try.f60, rows_length, rows_get _ _ _ h, rows_get _ _ _ h2, encI, nn0, nlt h, nlt h2, bne, he]
          refine ⟨i + 1, [], ⟨by omega, hp⟩, by dsimp only; omega, Weak.of (by rfl) trivial ?_ (by rfl)⟩
          simp (config := { maxSteps := 4000000 }) only [go_sem, Nat.reduceEqDiff, Nat.reduceAdd, Nat.reduceMul, Nat.reduceSub, Nat.reduceLT, Nat.reduceLeDiff, reduceIte, reduceCtorEq, Int.reduceToNat, Int.reduceLE, Int.reduceLT, Int.reduceEq, Int.reduceGT, Int.reduceGE, Int.reduceAdd, Int.reduceSub, Int.reduceNeg, Int.reduceMul, ↓bT, ↓bF, ↓backK_top, ↓backK_int, ↓backK_bool, ↓backK_sl, ↓backK_fn, ↓backK_agg, ↓backK_tup, ↓backK_pel, ↓backK_osl, ↓backK_may, ↓backK_box, ↓bothTT, ↓bothTF, ↓bothFT, ↓bothFF, bothTT, bothTF, bothFT, bothFF, ↓bothTT, ↓bothTF, ↓bothFT, ↓bothFF, ↓bothNT, ↓bothNF, ↓bothCT, ↓bothCF, Try.f60, wsucc h hx, frW, wk2, wk1, wkL, wkB, hpW, List.mem_cons, Prod.mk.injEq, exists_eq_left, exists_eq_right, exists_eq]
      · have : i = xs.length := by omega
        subst this
        rw [List.drop_length, List.drop_of_length_le (by omega)] at hp
        simp (config := { maxSteps := 4000000 }) only [go_sem, Nat.reduceEqDiff, Nat.reduceAdd, Nat.reduceMul, Nat.reduceSub, Nat.reduceLT, Nat.reduceLeDiff, reduceIte, reduceCtorEq, Int.reduceToNat, Int.reduceLE, Int.reduceLT, Int.reduceEq, Int.reduceGT, Int.reduceGE, Int.reduceAdd, Int.reduceSub, Int.reduceNeg, Int.reduceMul, ↓bT, ↓bF, ↓backK_top, ↓backK_int, ↓backK_bool, ↓backK_sl, ↓backK_fn, ↓backK_agg, ↓backK_tup, ↓backK_pel, ↓backK_osl, ↓backK_may, ↓backK_box, ↓bothTT, ↓bothTF, ↓bothFT, ↓bothFF, bothTT, bothTF, bothFT, bothFF, ↓bothTT, ↓bothTF, ↓bothFT, ↓bothFF, ↓bothNT, ↓bothNF, ↓bothCT, ↓bothCF, Try.f60, rows_length, nlf h, ← hp]
  · have hd : (((xs.length : Int) != (ys.length : Int))) = true := by simp; omega
    have hne : xs ≠ ys := fun e => hl (by rw [e])
    simp (config := { maxSteps := 4000000 }) only [go_sem, Nat.reduceEqDiff, Nat.reduceAdd, Nat.reduceMul, Nat.reduceSub, Nat.reduceLT, Nat.reduceLeDiff, reduceIte, reduceCtorEq, Int.reduceToNat, Int.reduceLE, Int.reduceLT, Int.reduceEq, Int.reduceGT, Int.reduceGE, Int.reduceAdd, Int.reduceSub, Int.reduceNeg, Int.reduceMul, ↓bT, ↓bF, ↓backK_top, ↓backK_int, ↓backK_bool, ↓backK_sl, ↓backK_fn, ↓backK_agg, ↓backK_tup, ↓backK_pel, ↓backK_osl, ↓backK_may, ↓backK_box, ↓bothTT, ↓bothTF, ↓bothFT, ↓bothFF, bothTT, bothTF, bothFT, bothFF, ↓bothTT, ↓bothTF, ↓bothFT, ↓bothFF, ↓bothNT, ↓bothNF, ↓bothCT, ↓bothCF, Try.f60, rows_length, hd, decide_eq_false hne]

theorem c_laws_eqBlockTree (n1 n2 n3 m1 m2 m3 : Option Bool) (t u : Tree) (hx : TreeSz t) (hy : TreeSz u) : Det Try.prog 37 [.agg (encT n1 n2 n3 t), .agg (encT m1 m2 m3 u)] (.bool (decide (t = u))) := by
  refine fspec_det tab_ok Try.call37 Try.func37 rfl 23 Try.ntmps37 (of_decide_eq_true rfl) fun B => codeK_sound tab_ok _ _ _ ?_
  unfold encT
  have he : decide (t = u) = (decide (t.base = u.base) && (decide (t.blocks = u.blocks) && decide (t.before = u.before))) := by
    obtain ⟨a, b, c⟩ := t
    obtain ⟨d, e, f⟩ := u
    rw [Bool.eq_iff_iff]
    simp only [Bool.and_eq_true, decide_eq_true_eq, Tree.mk.injEq]
  rw [he]
  simp (config := { maxSteps := 4000000 }) only [go_sem, Nat.reduceEqDiff, Nat.reduceAdd, Nat.reduceMul, Nat.reduceSub, Nat.reduceLT, Nat.reduceLeDiff, reduceIte, reduceCtorEq, Int.reduceToNat, Int.reduceLE, Int.reduceLT, Int.reduceEq, Int.reduceGT, Int.reduceGE, Int.reduceAdd, Int.reduceSub, Int.reduceNeg, Int.reduceMul, ↓bT, ↓bF, ↓backK_top, ↓backK_int, ↓backK_bool, ↓backK_sl, ↓backK_fn, ↓backK_agg, ↓backK_tup, ↓backK_pel, ↓backK_osl, ↓backK_may, ↓backK_box, ↓bothTT, ↓bothTF, ↓bothFT, ↓bothFF, bothTT, bothTF, bothFT, bothFF, ↓bothTT, ↓bothTF, ↓bothFT, ↓bothFF, ↓bothNT, ↓bothNF, ↓bothCT, ↓bothCF, Try.f37]
  refine CallTo.det (c_laws_eqEntryS _ _ _ _ hx.base hy.base) fun _ => ?_
  cases h1 : decide (t.base = u.base) with
  | false => simp (config := { maxSteps := 4000000 }) only [go_sem, Nat.reduceEqDiff, Nat.reduceAdd, Nat.reduceMul, Nat.reduceSub, Nat.reduceLT, Nat.reduceLeDiff, reduceIte, reduceCtorEq, Int.reduceToNat, Int.reduceLE, Int.reduceLT, Int.reduceEq, Int.reduceGT, Int.reduceGE, Int.reduceAdd, Int.reduceSub, Int.reduceNeg, Int.reduceMul, ↓bT, ↓bF, ↓backK_top, ↓backK_int, ↓backK_bool, ↓backK_sl, ↓backK_fn, ↓backK_agg, ↓backK_tup, ↓backK_pel, ↓backK_osl, ↓backK_may, ↓backK_box, ↓bothTT, ↓bothTF, ↓bothFT, ↓bothFF, bothTT, bothTF, bothFT, bothFF, ↓bothTT, ↓bothTF, ↓bothFT, ↓bothFF, ↓bothNT, ↓bothNF, ↓bothCT, ↓bothCF, Try.f37, h1]
  | true =>
    simp (config := { maxSteps := 4000000 }) only [go_sem, Nat.reduceEqDiff, Nat.reduceAdd, Nat.reduceMul, Nat.reduceSub, Nat.reduceLT, Nat.reduceLeDiff, reduceIte, reduceCtorEq, Int.reduceToNat, Int.reduceLE, Int.reduceLT, Int.reduceEq, Int.reduceGT, Int.reduceGE, Int.reduceAdd, Int.reduceSub, Int.reduceNeg, Int.reduceMul, ↓bT, ↓bF, ↓backK_top, ↓backK_int, ↓backK_bool, ↓backK_sl, ↓backK_fn, ↓backK_agg, ↓backK_tup, ↓backK_pel, ↓backK_osl, ↓backK_may, ↓backK_box, ↓bothTT, ↓bothTF, ↓bothFT, ↓bothFF, bothTT, bothTF, bothFT, bothFF, ↓bothTT, ↓bothTF, ↓bothFT, ↓bothFF, ↓bothNT, ↓bothNF, ↓bothCT, ↓bothCF, Try.f37, h1]
    refine CallTo.det (c_laws_eqBlockS _ _ _ _ hx.blocks hy.blocks hx.list hy.list) fun _ => ?_
    cases h2 : decide (t.blocks = u.blocks) with
    | false => simp (config := { maxSteps := 4000000 }) only [go_sem, Nat.reduceEqDiff, Nat.reduceAdd, Nat.reduceMul, Nat.reduceSub, Nat.reduceLT, Nat.reduceLeDiff, reduceIte, reduceCtorEq, Int.reduceToNat, Int.reduceLE, Int.reduceLT, Int.reduceEq, Int.reduceGT, Int.reduceGE, Int.reduceAdd, Int.reduceSub, Int.reduceNeg, Int.reduceMul, ↓bT, ↓bF, ↓backK_top, ↓backK_int, ↓backK_bool, ↓backK_sl, ↓backK_fn, ↓backK_agg, ↓backK_tup, ↓backK_pel, ↓backK_osl, ↓backK_may, ↓backK_box, ↓bothTT, ↓bothTF, ↓bothFT, ↓bothFF, bothTT, bothTF, bothFT, bothFF, ↓bothTT, ↓bothTF, ↓bothFT, ↓bothFF, ↓bothNT, ↓bothNF, ↓bothCT, ↓bothCF, Try.f37, h1, h2]
    | true =>
      simp (config := { maxSteps := 4000000 }) only [go_sem, Nat.reduceEqDiff, Nat.reduceAdd, Nat.reduceMul, Nat.reduceSub, Nat.reduceLT, Nat.reduceLeDiff, reduceIte, reduceCtorEq, Int.reduceToNat, Int.reduceLE, Int.reduceLT, Int.reduceEq, Int.reduceGT, Int.reduceGE, Int.reduceAdd, Int.reduceSub, Int.reduceNeg, Int.reduceMul, ↓bT, ↓bF, ↓backK_top, ↓backK_int, ↓backK_bool, ↓backK_sl, ↓backK_fn, ↓backK_agg, ↓backK_tup, ↓backK_pel, ↓backK_osl, ↓backK_may, ↓backK_box, ↓bothTT, ↓bothTF, ↓bothFT, ↓bothFF, bothTT, bothTF, bothFT, bothFF, ↓bothTT, ↓bothTF, ↓bothFT, ↓bothFF, ↓bothNT, ↓bothNF, ↓bothCT, ↓bothCF, Try.f37, h1, h2]
      refine CallTo.det (c_laws_eqIntS _ _ _ _ hx.before hy.before) fun _ => ?_
      cases h3 : decide (t.before = u.before) with
      | false => simp (config := { maxSteps := 4000000 }) only [go_sem, Nat.reduceEqDiff, Nat.reduceAdd, Nat.reduceMul, Nat.reduceSub, Nat.reduceLT, Nat.reduceLeDiff, reduceIte, reduceCtorEq, Int.reduceToNat, Int.reduceLE, Int.reduceLT, Int.reduceEq, Int.reduceGT, Int.reduceGE, Int.reduceAdd, Int.reduceSub, Int.reduceNeg, Int.reduceMul, ↓bT, ↓bF, ↓backK_top, ↓backK_int, ↓backK_bool, ↓backK_sl, ↓backK_fn, ↓backK_agg, ↓backK_tup, ↓backK_pel, ↓backK_osl, ↓backK_may, ↓backK_box, ↓bothTT, ↓bothTF, ↓bothFT, ↓bothFF, bothTT, bothTF, bothFT, bothFF, ↓bothTT, ↓bothTF, ↓bothFT, ↓bothFF, ↓bothNT, ↓bothNF, ↓bothCT, ↓bothCF, Try.f37, h1, h2, h3]
      | true => simp (config := { maxSteps := 4000000 }) only [go_sem, Nat.reduceEqDiff, Nat.reduceAdd, Nat.reduceMul, Nat.reduceSub, Nat.reduceLT, Nat.reduceLeDiff, reduceIte, reduceCtorEq, Int.reduceToNat, Int.reduceLE, Int.reduceLT, Int.reduceEq, Int.reduceGT, Int.reduceGE, Int.reduceAdd, Int.reduceSub, Int.reduceNeg, Int.reduceMul, ↓bT, ↓bF, ↓backK_top, ↓backK_int, ↓backK_bool, ↓backK_sl, ↓backK_fn, ↓backK_agg, ↓backK_tup, ↓backK_pel, ↓backK_osl, ↓backK_may, ↓backK_box, ↓bothTT, ↓bothTF, ↓bothFT, ↓bothFF, bothTT, bothTF, bothFT, bothFF, ↓bothTT, ↓bothTF, ↓bothFT, ↓bothFF, ↓bothNT, ↓bothNF, ↓bothCT, ↓bothCF, Try.f37, h1, h2, h3]

end Go.Proofs.Ytdaemhaecjldaaa

/- Contracts: FnExactMayVote. -/
set_option linter.unusedSimpArgs false
set_option linter.unusedVariables false
set_option maxRecDepth 20000
set_option maxHeartbeats 4000000
namespace Go.Proofs.Ytdaemhaecjldaaa
open Go Go.RowKit

theorem treeEq (t : Tree) : decide (t = t) = true := by simp
theorem boolsEq (c : List Bool) : (c == c) = true := by simp

theorem c_laws_FnExactMayVote (n1 n2 n3 n4 : Option Bool) (v : Voter) (t : Tree) (c : List Bool) (n : Int) (hx : TreeLen t) (hc : c.length ≤ 9223372036854775807) :
    Det Try.prog 6 [.agg (encV v), .agg (encT n1 n2 n3 t), .sl n4 (boolRows c), .int .i64 n] (.bool true) := by
  refine fspec_det tab_ok Try.call6 Try.func6 rfl 53 Try.ntmps6 (of_decide_eq_true rfl) fun B => codeK_sound tab_ok _ _ _ ?_
  unfold encT encV
  cases h1 : decide ((c.length : Int) > 1048576) with
  | true => simp (config := { maxSteps := 4000000 }) only [go_sem, Nat.reduceEqDiff, Nat.reduceAdd, Nat.reduceMul, Nat.reduceSub, Nat.reduceLT, Nat.reduceLeDiff, reduceIte, reduceCtorEq, Int.reduceToNat, Int.reduceLE, Int.reduceLT, Int.reduceEq, Int.reduceGT, Int.reduceGE, Int.reduceAdd, Int.reduceSub, Int.reduceNeg, Int.reduceMul, ↓bT, ↓bF, ↓backK_top, ↓backK_int, ↓backK_bool, ↓backK_sl, ↓backK_fn, ↓backK_agg, ↓backK_tup, ↓backK_pel, ↓backK_osl, ↓backK_may, ↓backK_box, ↓bothTT, ↓bothTF, ↓bothFT, ↓bothFF, bothTT, bothTF, bothFT, bothFF, ↓bothTT, ↓bothTF, ↓bothFT, ↓bothFF, ↓bothNT, ↓bothNF, ↓bothCT, ↓bothCF, Try.f6, boolRows_length, h1]
  | false =>
    have hc1 := of_decide_eq_false h1
    have hc2 : c.length < 2 ^ 32 := by omega
    have hc3 : c.length < 2 ^ 62 := by omega
    obtain ⟨r, hr, _, hT⟩ := c_laws_szBlockTree n1 n2 n3 t 1048576 hx (by omega)
    simp (config := { maxSteps := 4000000 }) only [go_sem, Nat.reduceEqDiff, Nat.reduceAdd, Nat.reduceMul, Nat.reduceSub, Nat.reduceLT, Nat.reduceLeDiff, reduceIte, reduceCtorEq, Int.reduceToNat, Int.reduceLE, Int.reduceLT, Int.reduceEq, Int.reduceGT, Int.reduceGE, Int.reduceAdd, Int.reduceSub, Int.reduceNeg, Int.reduceMul, ↓bT, ↓bF, ↓backK_top, ↓backK_int, ↓backK_bool, ↓backK_sl, ↓backK_fn, ↓backK_agg, ↓backK_tup, ↓backK_pel, ↓backK_osl, ↓backK_may, ↓backK_box, ↓bothTT, ↓bothTF, ↓bothFT, ↓bothFF, bothTT, bothTF, bothFT, bothFF, ↓bothTT, ↓bothTF, ↓bothFT, ↓bothFF, ↓bothNT, ↓bothNF, ↓bothCT, ↓bothCF, Try.f6, boolRows_length, h1]
    refine CallTo.det hr fun _ => ?_
    cases h2 : decide (r < 0) with
    | true => simp (config := { maxSteps := 4000000 }) only [go_sem, Nat.reduceEqDiff, Nat.reduceAdd, Nat.reduceMul, Nat.reduceSub, Nat.reduceLT, Nat.reduceLeDiff, reduceIte, reduceCtorEq, Int.reduceToNat, Int.reduceLE, Int.reduceLT, Int.reduceEq, Int.reduceGT, Int.reduceGE, Int.reduceAdd, Int.reduceSub, Int.reduceNeg, Int.reduceMul, ↓bT, ↓bF, ↓backK_top, ↓backK_int, ↓backK_bool, ↓backK_sl, ↓backK_fn, ↓backK_agg, ↓backK_tup, ↓backK_pel, ↓backK_osl, ↓backK_may, ↓backK_box, ↓bothTT, ↓bothTF, ↓bothFT, ↓bothFF, bothTT, bothTF, bothFT, bothFF, ↓bothTT, ↓bothTF, ↓bothFT, ↓bothFF, ↓bothNT, ↓bothNF, ↓bothCT, ↓bothCF, Try.f6, h2]
    | false =>
      have hs := hT (by have := of_decide_eq_false h2; omega)
      simp (config := { maxSteps := 4000000 }) only [go_sem, Nat.reduceEqDiff, Nat.reduceAdd, Nat.reduceMul, Nat.reduceSub, Nat.reduceLT, Nat.reduceLeDiff, reduceIte, reduceCtorEq, Int.reduceToNat, Int.reduceLE, Int.reduceLT, Int.reduceEq, Int.reduceGT, Int.reduceGE, Int.reduceAdd, Int.reduceSub, Int.reduceNeg, Int.reduceMul, ↓bT, ↓bF, ↓backK_top, ↓backK_int, ↓backK_bool, ↓backK_sl, ↓backK_fn, ↓backK_agg, ↓backK_tup, ↓backK_pel, ↓backK_osl, ↓backK_may, ↓backK_box, ↓bothTT, ↓bothTF, ↓bothFT, ↓bothFF, bothTT, bothTF, bothFT, bothFF, ↓bothTT, ↓bothTF, ↓bothFT, ↓bothFF, ↓bothNT, ↓bothNF, ↓bothCT, ↓bothCF, Try.f6, h2]
      refine semL_draw tab_ok mixed_ rfl (ord := [(0, []), (2, []), (4, []), (6, []), (1, [2, 4, 6]), (3, [4, 6]), (5, [6]), (7, []), (8, [])]) (by dsimp only; decide +kernel) ?_
      simp (config := { maxSteps := 4000000 }) only [go_sem, Nat.reduceEqDiff, Nat.reduceAdd, Nat.reduceMul, Nat.reduceSub, Nat.reduceLT, Nat.reduceLeDiff, reduceIte, reduceCtorEq, Int.reduceToNat, Int.reduceLE, Int.reduceLT, Int.reduceEq, Int.reduceGT, Int.reduceGE, Int.reduceAdd, Int.reduceSub, Int.reduceNeg, Int.reduceMul, ↓bT, ↓bF, ↓backK_top, ↓backK_int, ↓backK_bool, ↓backK_sl, ↓backK_fn, ↓backK_agg, ↓backK_tup, ↓backK_pel, ↓backK_osl, ↓backK_may, ↓backK_box, ↓bothTT, ↓bothTF, ↓bothFT, ↓bothFF, bothTT, bothTF, bothFT, bothFF, ↓bothTT, ↓bothTF, ↓bothFT, ↓bothFF, ↓bothNT, ↓bothNF, ↓bothCT, ↓bothCF, Try.f6, encTO]
      refine CallTo.det (c_laws_toVoter _ _) fun _ => ?_
      simp (config := { maxSteps := 4000000 }) only [go_sem, Nat.reduceEqDiff, Nat.reduceAdd, Nat.reduceMul, Nat.reduceSub, Nat.reduceLT, Nat.reduceLeDiff, reduceIte, reduceCtorEq, Int.reduceToNat, Int.reduceLE, Int.reduceLT, Int.reduceEq, Int.reduceGT, Int.reduceGE, Int.reduceAdd, Int.reduceSub, Int.reduceNeg, Int.reduceMul, ↓bT, ↓bF, ↓backK_top, ↓backK_int, ↓backK_bool, ↓backK_sl, ↓backK_fn, ↓backK_agg, ↓backK_tup, ↓backK_pel, ↓backK_osl, ↓backK_may, ↓backK_box, ↓bothTT, ↓bothTF, ↓bothFT, ↓bothFF, bothTT, bothTF, bothFT, bothFF, ↓bothTT, ↓bothTF, ↓bothFT, ↓bothFF, ↓bothNT, ↓bothNF, ↓bothCT, ↓bothCF, Try.f6, encTO]
      refine CallTo.det (c_laws_toBlockTree n1 n2 n3 t hs) fun _ => ?_
      simp (config := { maxSteps := 4000000 }) only [go_sem, Nat.reduceEqDiff, Nat.reduceAdd, Nat.reduceMul, Nat.reduceSub, Nat.reduceLT, Nat.reduceLeDiff, reduceIte, reduceCtorEq, Int.reduceToNat, Int.reduceLE, Int.reduceLT, Int.reduceEq, Int.reduceGT, Int.reduceGE, Int.reduceAdd, Int.reduceSub, Int.reduceNeg, Int.reduceMul, ↓bT, ↓bF, ↓backK_top, ↓backK_int, ↓backK_bool, ↓backK_sl, ↓backK_fn, ↓backK_agg, ↓backK_tup, ↓backK_pel, ↓backK_osl, ↓backK_may, ↓backK_box, ↓bothTT, ↓bothTF, ↓bothFT, ↓bothFF, bothTT, bothTF, bothFT, bothFF, ↓bothTT, ↓bothTF, ↓bothFT, ↓bothFF, ↓bothNT, ↓bothNF, ↓bothCT, ↓bothCF, Try.f6, encTO]
      refine CallTo.det (c_laws_toBoolS n4 c hc2) fun _ => ?_
      simp (config := { maxSteps := 4000000 }) only [go_sem, Nat.reduceEqDiff, Nat.reduceAdd, Nat.reduceMul, Nat.reduceSub, Nat.reduceLT, Nat.reduceLeDiff, reduceIte, reduceCtorEq, Int.reduceToNat, Int.reduceLE, Int.reduceLT, Int.reduceEq, Int.reduceGT, Int.reduceGE, Int.reduceAdd, Int.reduceSub, Int.reduceNeg, Int.reduceMul, ↓bT, ↓bF, ↓backK_top, ↓backK_int, ↓backK_bool, ↓backK_sl, ↓backK_fn, ↓backK_agg, ↓backK_tup, ↓backK_pel, ↓backK_osl, ↓backK_may, ↓backK_box, ↓bothTT, ↓bothTF, ↓bothFT, ↓bothFF, bothTT, bothTF, bothFT, bothFF, ↓bothTT, ↓bothTF, ↓bothFT, ↓bothFF, ↓bothNT, ↓bothNF, ↓bothCT, ↓bothCF, Try.f6, encTO, rows_length, boolRows_length]
      refine CallTo.det (c_spec_MayVote (some true) (some true) (some true) (some true) v t c n hs.sz hc3) fun _ => ?_
      simp (config := { maxSteps := 4000000 }) only [go_sem, Nat.reduceEqDiff, Nat.reduceAdd, Nat.reduceMul, Nat.reduceSub, Nat.reduceLT, Nat.reduceLeDiff, reduceIte, reduceCtorEq, Int.reduceToNat, Int.reduceLE, Int.reduceLT, Int.reduceEq, Int.reduceGT, Int.reduceGE, Int.reduceAdd, Int.reduceSub, Int.reduceNeg, Int.reduceMul, ↓bT, ↓bF, ↓backK_top, ↓backK_int, ↓backK_bool, ↓backK_sl, ↓backK_fn, ↓backK_agg, ↓backK_tup, ↓backK_pel, ↓backK_osl, ↓backK_may, ↓backK_box, ↓bothTT, ↓bothTF, ↓bothFT, ↓bothFF, bothTT, bothTF, bothFT, bothFF, ↓bothTT, ↓bothTF, ↓bothFT, ↓bothFF, ↓bothNT, ↓bothNF, ↓bothCT, ↓bothCF, Try.f6, encTO]
      refine CallTo.det (c_laws_toBlockTree n1 n2 n3 t hs) fun _ => ?_
      simp (config := { maxSteps := 4000000 }) only [go_sem, Nat.reduceEqDiff, Nat.reduceAdd, Nat.reduceMul, Nat.reduceSub, Nat.reduceLT, Nat.reduceLeDiff, reduceIte, reduceCtorEq, Int.reduceToNat, Int.reduceLE, Int.reduceLT, Int.reduceEq, Int.reduceGT, Int.reduceGE, Int.reduceAdd, Int.reduceSub, Int.reduceNeg, Int.reduceMul, ↓bT, ↓bF, ↓backK_top, ↓backK_int, ↓backK_bool, ↓backK_sl, ↓backK_fn, ↓backK_agg, ↓backK_tup, ↓backK_pel, ↓backK_osl, ↓backK_may, ↓backK_box, ↓bothTT, ↓bothTF, ↓bothFT, ↓bothFF, bothTT, bothTF, bothFT, bothFF, ↓bothTT, ↓bothTF, ↓bothFT, ↓bothFF, ↓bothNT, ↓bothNF, ↓bothCT, ↓bothCF, Try.f6, encTO]
      refine CallTo.det (c_laws_toBoolS n4 c hc2) fun _ => ?_
      simp (config := { maxSteps := 4000000 }) only [go_sem, Nat.reduceEqDiff, Nat.reduceAdd, Nat.reduceMul, Nat.reduceSub, Nat.reduceLT, Nat.reduceLeDiff, reduceIte, reduceCtorEq, Int.reduceToNat, Int.reduceLE, Int.reduceLT, Int.reduceEq, Int.reduceGT, Int.reduceGE, Int.reduceAdd, Int.reduceSub, Int.reduceNeg, Int.reduceMul, ↓bT, ↓bF, ↓backK_top, ↓backK_int, ↓backK_bool, ↓backK_sl, ↓backK_fn, ↓backK_agg, ↓backK_tup, ↓backK_pel, ↓backK_osl, ↓backK_may, ↓backK_box, ↓bothTT, ↓bothTF, ↓bothFT, ↓bothFF, bothTT, bothTF, bothFT, bothFF, ↓bothTT, ↓bothTF, ↓bothFT, ↓bothFF, ↓bothNT, ↓bothNF, ↓bothCT, ↓bothCF, Try.f6, encTO]
      refine semL_draw tab_ok mixed_ rfl (ord := [(0, []), (2, []), (3, []), (4, []), (1, [2, 3, 4]), (5, []), (6, [])]) (by dsimp only; decide +kernel) ?_
      simp (config := { maxSteps := 4000000 }) only [go_sem, Nat.reduceEqDiff, Nat.reduceAdd, Nat.reduceMul, Nat.reduceSub, Nat.reduceLT, Nat.reduceLeDiff, reduceIte, reduceCtorEq, Int.reduceToNat, Int.reduceLE, Int.reduceLT, Int.reduceEq, Int.reduceGT, Int.reduceGE, Int.reduceAdd, Int.reduceSub, Int.reduceNeg, Int.reduceMul, ↓bT, ↓bF, ↓backK_top, ↓backK_int, ↓backK_bool, ↓backK_sl, ↓backK_fn, ↓backK_agg, ↓backK_tup, ↓backK_pel, ↓backK_osl, ↓backK_may, ↓backK_box, ↓bothTT, ↓bothTF, ↓bothFT, ↓bothFF, bothTT, bothTF, bothFT, bothFF, ↓bothTT, ↓bothTF, ↓bothFT, ↓bothFF, ↓bothNT, ↓bothNF, ↓bothCT, ↓bothCF, Try.f6, encTO]
      refine CallTo.det (c_laws_toVoter _ _) fun _ => ?_
      simp (config := { maxSteps := 4000000 }) only [go_sem, Nat.reduceEqDiff, Nat.reduceAdd, Nat.reduceMul, Nat.reduceSub, Nat.reduceLT, Nat.reduceLeDiff, reduceIte, reduceCtorEq, Int.reduceToNat, Int.reduceLE, Int.reduceLT, Int.reduceEq, Int.reduceGT, Int.reduceGE, Int.reduceAdd, Int.reduceSub, Int.reduceNeg, Int.reduceMul, ↓bT, ↓bF, ↓backK_top, ↓backK_int, ↓backK_bool, ↓backK_sl, ↓backK_fn, ↓backK_agg, ↓backK_tup, ↓backK_pel, ↓backK_osl, ↓backK_may, ↓backK_box, ↓bothTT, ↓bothTF, ↓bothFT, ↓bothFF, bothTT, bothTF, bothFT, bothFF, ↓bothTT, ↓bothTF, ↓bothFT, ↓bothFF, ↓bothNT, ↓bothNF, ↓bothCT, ↓bothCF, Try.f6, encTO, rows_length, boolRows_length]
      refine CallTo.det (c_impl_MayVote (some true) (some true) (some true) (some true) v t c n hs.sz hc3) fun _ => ?_
      have hb : (mayVote v t c n != mayVote v t c n) = false := by simp
      simp (config := { maxSteps := 4000000 }) only [go_sem, Nat.reduceEqDiff, Nat.reduceAdd, Nat.reduceMul, Nat.reduceSub, Nat.reduceLT, Nat.reduceLeDiff, reduceIte, reduceCtorEq, Int.reduceToNat, Int.reduceLE, Int.reduceLT, Int.reduceEq, Int.reduceGT, Int.reduceGE, Int.reduceAdd, Int.reduceSub, Int.reduceNeg, Int.reduceMul, ↓bT, ↓bF, ↓backK_top, ↓backK_int, ↓backK_bool, ↓backK_sl, ↓backK_fn, ↓backK_agg, ↓backK_tup, ↓backK_pel, ↓backK_osl, ↓backK_may, ↓backK_box, ↓bothTT, ↓bothTF, ↓bothFT, ↓bothFF, bothTT, bothTF, bothFT, bothFF, ↓bothTT, ↓bothTF, ↓bothFT, ↓bothFF, ↓bothNT, ↓bothNF, ↓bothCT, ↓bothCF, Try.f6, encTO, hb]
      refine semL_draw tab_ok mixed_ rfl (ord := [(0, []), (1, []), (2, [0]), (3, []), (4, [])]) (by dsimp only; decide +kernel) ?_
      simp (config := { maxSteps := 4000000 }) only [go_sem, Nat.reduceEqDiff, Nat.reduceAdd, Nat.reduceMul, Nat.reduceSub, Nat.reduceLT, Nat.reduceLeDiff, reduceIte, reduceCtorEq, Int.reduceToNat, Int.reduceLE, Int.reduceLT, Int.reduceEq, Int.reduceGT, Int.reduceGE, Int.reduceAdd, Int.reduceSub, Int.reduceNeg, Int.reduceMul, ↓bT, ↓bF, ↓backK_top, ↓backK_int, ↓backK_bool, ↓backK_sl, ↓backK_fn, ↓backK_agg, ↓backK_tup, ↓backK_pel, ↓backK_osl, ↓backK_may, ↓backK_box, ↓bothTT, ↓bothTF, ↓bothFT, ↓bothFF, bothTT, bothTF, bothFT, bothFF, ↓bothTT, ↓bothTF, ↓bothFT, ↓bothFF, ↓bothNT, ↓bothNF, ↓bothCT, ↓bothCF, Try.f6, encTO]
      refine CallTo.det (c_laws_toBlockTree n1 n2 n3 t hs) fun _ => ?_
      simp (config := { maxSteps := 4000000 }) only [go_sem, Nat.reduceEqDiff, Nat.reduceAdd, Nat.reduceMul, Nat.reduceSub, Nat.reduceLT, Nat.reduceLeDiff, reduceIte, reduceCtorEq, Int.reduceToNat, Int.reduceLE, Int.reduceLT, Int.reduceEq, Int.reduceGT, Int.reduceGE, Int.reduceAdd, Int.reduceSub, Int.reduceNeg, Int.reduceMul, ↓bT, ↓bF, ↓backK_top, ↓backK_int, ↓backK_bool, ↓backK_sl, ↓backK_fn, ↓backK_agg, ↓backK_tup, ↓backK_pel, ↓backK_osl, ↓backK_may, ↓backK_box, ↓bothTT, ↓bothTF, ↓bothFT, ↓bothFF, bothTT, bothTF, bothFT, bothFF, ↓bothTT, ↓bothTF, ↓bothFT, ↓bothFF, ↓bothNT, ↓bothNF, ↓bothCT, ↓bothCF, Try.f6, encTO, rows_length]
      refine CallTo.det (c_laws_eqBlockTree (some true) (some true) (some true) (some true) (some true) (some true) t t hs.sz hs.sz) fun _ => ?_
      simp (config := { maxSteps := 4000000 }) only [go_sem, Nat.reduceEqDiff, Nat.reduceAdd, Nat.reduceMul, Nat.reduceSub, Nat.reduceLT, Nat.reduceLeDiff, reduceIte, reduceCtorEq, Int.reduceToNat, Int.reduceLE, Int.reduceLT, Int.reduceEq, Int.reduceGT, Int.reduceGE, Int.reduceAdd, Int.reduceSub, Int.reduceNeg, Int.reduceMul, ↓bT, ↓bF, ↓backK_top, ↓backK_int, ↓backK_bool, ↓backK_sl, ↓backK_fn, ↓backK_agg, ↓backK_tup, ↓backK_pel, ↓backK_osl, ↓backK_may, ↓backK_box, ↓bothTT, ↓bothTF, ↓bothFT, ↓bothFF, bothTT, bothTF, bothFT, bothFF, ↓bothTT, ↓bothTF, ↓bothFT, ↓bothFF, ↓bothNT, ↓bothNF, ↓bothCT, ↓bothCF, Try.f6, encTO, treeEq]
      refine CallTo.det (c_laws_toBoolS n4 c hc2) fun _ => ?_
      simp (config := { maxSteps := 4000000 }) only [go_sem, Nat.reduceEqDiff, Nat.reduceAdd, Nat.reduceMul, Nat.reduceSub, Nat.reduceLT, Nat.reduceLeDiff, reduceIte, reduceCtorEq, Int.reduceToNat, Int.reduceLE, Int.reduceLT, Int.reduceEq, Int.reduceGT, Int.reduceGE, Int.reduceAdd, Int.reduceSub, Int.reduceNeg, Int.reduceMul, ↓bT, ↓bF, ↓backK_top, ↓backK_int, ↓backK_bool, ↓backK_sl, ↓backK_fn, ↓backK_agg, ↓backK_tup, ↓backK_pel, ↓backK_osl, ↓backK_may, ↓backK_box, ↓bothTT, ↓bothTF, ↓bothFT, ↓bothFF, bothTT, bothTF, bothFT, bothFF, ↓bothTT, ↓bothTF, ↓bothFT, ↓bothFF, ↓bothNT, ↓bothNF, ↓bothCT, ↓bothCF, Try.f6, encTO, boolRows_length]
      refine CallTo.det (c_laws_eqBoolS _ _ c c hc3 hc3) fun _ => ?_
      simp (config := { maxSteps := 4000000 }) only [go_sem, Nat.reduceEqDiff, Nat.reduceAdd, Nat.reduceMul, Nat.reduceSub, Nat.reduceLT, Nat.reduceLeDiff, reduceIte, reduceCtorEq, Int.reduceToNat, Int.reduceLE, Int.reduceLT, Int.reduceEq, Int.reduceGT, Int.reduceGE, Int.reduceAdd, Int.reduceSub, Int.reduceNeg, Int.reduceMul, ↓bT, ↓bF, ↓backK_top, ↓backK_int, ↓backK_bool, ↓backK_sl, ↓backK_fn, ↓backK_agg, ↓backK_tup, ↓backK_pel, ↓backK_osl, ↓backK_may, ↓backK_box, ↓bothTT, ↓bothTF, ↓bothFT, ↓bothFF, bothTT, bothTF, bothFT, bothFF, ↓bothTT, ↓bothTF, ↓bothFT, ↓bothFF, ↓bothNT, ↓bothNF, ↓bothCT, ↓bothCF, Try.f6, boolsEq]

end Go.Proofs.Ytdaemhaecjldaaa

/- Arguments of the laws, by their types. -/
set_option linter.unusedSimpArgs false
namespace Go.Proofs.Ytdaemhaecjldaaa
open Go Go.ChangeShapes Go.WideShapes Go.ChangeAt Go.RowKit

theorem own_ : ownKnob Try.prog.godebug = none := by kernel_rfl
theorem laidOut_ : laidOutB Try.prog = true := by kernel_rfl

theorem ty_int {cs : List AV} (h : Ty tab 3 cs) : ∃ n, cs = [.int .i64 n] ∧ IntKind.i64.has n := h.int_inv tabAt_3 rfl
theorem ty_bool {cs : List AV} (h : Ty tab 4 cs) : ∃ b, cs = [.bool b] := h.bool_inv tabAt_4 rfl
theorem ty_intA {a : AV} (h : TyArg tab 3 a) : ∃ n, a = .int .i64 n := by
  obtain ⟨n, e, _⟩ := ty_int (h.one_inv tabAt_3 rfl)
  exact ⟨n, by simpa using e⟩

/-- The cells of one value read as the cells of a datum. -/
def Leqs (r c : List AV) : Prop := r.length = c.length ∧ ∀ (j : Nat) (_ : j < c.length), Leq (r.getD j .top) (c.getD j .top)
theorem Leqs.refl (c : List AV) : Leqs c c := ⟨rfl, fun _ _ => Leq.refl _⟩
theorem Leqs.of_eq {r c : List AV} (h : r = c) : Leqs r c := h ▸ Leqs.refl _
theorem Leqs.agg {r c : List AV} (h : Leqs r c) : Leq (.agg r) (.agg c) := Leq.agg h.1 h.2

/-- A slice of elements that read as data. -/
theorem ty_rows {α : Type} (e : α → List AV) (Q : α → Prop) {et : TypeId} {es : List (List AV)} (h : ∀ (j : Nat) (_ : j < es.length), Ty tab et (es.getD j [])) (hx : ∀ r, Ty tab et r → ∃ x, Q x ∧ Leqs r (e x)) :
    ∃ xs : List α, es.length = xs.length ∧ (∀ x, x ∈ xs → Q x) ∧ ∀ nn, Leq (.sl nn es) (.sl nn (rows e xs)) := by
  have key : ∃ xs : List α, es.length = xs.length ∧ (∀ x, x ∈ xs → Q x) ∧ ∀ (i : Nat) (hi : i < xs.length), Leqs (es.getD i []) (e (xs[i]'hi)) := by
    induction es with
    | nil => exact ⟨[], rfl, fun x hx => (by cases hx), fun i hi => absurd hi (by simp)⟩
    | cons r rs ih =>
      obtain ⟨x, hq, hx1⟩ := hx r (h 0 (by simp))
      obtain ⟨xs, h1, h2, h3⟩ := ih (fun j hj => h (j + 1) (by simpa using hj))
      refine ⟨x :: xs, by simp [h1], fun y hy => ?_, fun i hi => ?_⟩
      · rcases List.mem_cons.1 hy with rfl | hy
        · exact hq
        · exact h2 y hy
      · cases i with
        | zero => exact hx1
        | succ i => exact h3 i (by simpa using hi)
  obtain ⟨xs, h1, h2, h3⟩ := key
  refine ⟨xs, h1, h2, fun nn => Leq.sl (by rw [rows_length, h1]) (fun i hi => ?_) (fun i j hi hj => ?_)⟩
  · rw [rows_length] at hi
    rw [rows_get _ _ _ hi]
    exact (h3 i hi).1
  · rw [rows_length] at hi
    rw [rows_get _ _ _ hi] at hj ⊢
    exact (h3 i hi).2 j hj

/-- A slice, as one cell. -/
theorem ty_slice {α : Type} (e : α → List AV) (Q : α → Prop) {t et : TypeId} {ti : TI} {cs : List AV} (h : Ty tab t cs) (ht : tab t = some ti) (hk : ti.k = .slice et) (hx : ∀ r, Ty tab et r → ∃ x, Q x ∧ Leqs r (e x)) :
    ∃ (n : Option Bool) (xs : List α), xs.length ≤ 9223372036854775807 ∧ (∀ x, x ∈ xs → Q x) ∧ Leqs cs [.sl n (rows e xs)] ∧ Leqs cs [.sl none (rows e xs)] := by
  obtain ⟨nn, es, rfl, _, hl, he⟩ := h.slice_inv ht hk
  obtain ⟨xs, h1, h2, h3⟩ := ty_rows e Q he hx
  refine ⟨some nn, xs, by omega, h2, ⟨rfl, fun j hj => ?_⟩, ⟨rfl, fun j hj => ?_⟩⟩
  · have : j = 0 := by simpa using hj
    subst this; exact h3 _
  · have : j = 0 := by simpa using hj
    subst this; exact (h3 (some nn)).trans Leq.slN

theorem ty_bools {a : AV} (h : TyArg tab 56 a) : ∃ (n : Option Bool) (bs : List Bool), Leq a (.sl n (boolRows bs)) ∧ bs.length ≤ 9223372036854775807 := by
  obtain ⟨n, xs, h1, _, h2, _⟩ := ty_slice (fun b : Bool => [AV.bool b]) (fun _ => True) (h.one_inv tabAt_56 rfl) tabAt_56 rfl fun r hr => by
    obtain ⟨b, rfl⟩ := ty_bool hr
    exact ⟨b, trivial, Leqs.refl _⟩
  exact ⟨n, xs, h2.2 0 (by simp), h1⟩

theorem ty_voterC {cs : List AV} (h : Ty tab 23 cs) : ∃ v : Voter, cs = encV v := by
  obtain ⟨ps, rfl, hl, hp⟩ := h.struct_inv tabAt_23 rfl
  match ps, hl with
  | [p, q], _ =>
    obtain ⟨x, hx, _⟩ := ty_int (hp 0 (by decide))
    obtain ⟨y, hy, _⟩ := ty_int (hp 1 (by decide))
    have hx : p = _ := hx
    have hy : q = _ := hy
    subst hx; subst hy
    exact ⟨⟨x, y⟩, rfl⟩

theorem ty_voter {a : AV} (h : TyArg tab 23 a) : ∃ v : Voter, a = .agg (encV v) := by
  obtain ⟨cs, rfl, h2⟩ := h.agg_inv tabAt_23 rfl
  obtain ⟨v, rfl⟩ := ty_voterC h2
  exact ⟨v, rfl⟩

theorem ty_entry {cs : List AV} (h : Ty tab 125 cs) : ∃ e : Entry, cs = encE e := by
  obtain ⟨ps, rfl, hl, hp⟩ := h.struct_inv tabAt_125 rfl
  match ps, hl with
  | [p, q], _ =>
    obtain ⟨x, hx, _⟩ := ty_int (hp 0 (by decide))
    obtain ⟨y, hy, _⟩ := ty_int (hp 1 (by decide))
    have hx : p = _ := hx
    have hy : q = _ := hy
    subst hx; subst hy
    exact ⟨⟨x, y⟩, rfl⟩

theorem ty_action {cs : List AV} (h : Ty tab 129 cs) : ∃ e : Action, cs = encA e := by
  obtain ⟨ps, rfl, hl, hp⟩ := h.struct_inv tabAt_129 rfl
  match ps, hl with
  | [p, q, r, s], _ =>
    obtain ⟨x, hx, _⟩ := ty_int (hp 0 (by decide))
    obtain ⟨y, hy, _⟩ := ty_int (hp 1 (by decide))
    obtain ⟨z, hz, _⟩ := ty_int (hp 2 (by decide))
    obtain ⟨w, hw, _⟩ := ty_int (hp 3 (by decide))
    have hx : p = _ := hx
    have hy : q = _ := hy
    have hz : r = _ := hz
    have hw : s = _ := hw
    subst hx; subst hy; subst hz; subst hw
    exact ⟨⟨x, y, z, w⟩, rfl⟩

theorem Leqs.cons {a b : AV} {r c : List AV} (h : Leq a b) (h' : Leqs r c) : Leqs (a :: r) (b :: c) := by
  refine ⟨by simp [h'.1], fun j hj => ?_⟩
  cases j with
  | zero => exact h
  | succ j => exact h'.2 j (by simpa using hj)

theorem Leqs.one {r : List AV} {b : AV} (h : Leqs r [b]) : ∃ a, r = [a] ∧ Leq a b := by
  obtain ⟨h1, h2⟩ := h
  match r, h1 with
  | [a], _ => exact ⟨a, rfl, h2 0 (by simp)⟩

theorem ty_block {cs : List AV} (h : Ty tab 82 cs) : ∃ b : Block, b.list.length ≤ 9223372036854775807 ∧ Leqs cs (encB1 b) := by
  obtain ⟨ps, rfl, hl, hp⟩ := h.struct_inv tabAt_82 rfl
  match ps, hl with
  | [p1, p2, p3, p4, p5, p6], _ =>
    obtain ⟨x1, h1, _⟩ := ty_int (hp 0 (by decide))
    obtain ⟨x2, h2, _⟩ := ty_int (hp 1 (by decide))
    obtain ⟨x3, h3, _⟩ := ty_int (hp 2 (by decide))
    obtain ⟨_, x4, hl4, _, _, h4⟩ := ty_slice encA (fun _ => True) (hp 3 (by decide)) tabAt_33 rfl fun r hr => by
      obtain ⟨a, rfl⟩ := ty_action hr
      exact ⟨a, trivial, Leqs.refl _⟩
    obtain ⟨x5, h5, _⟩ := ty_int (hp 4 (by decide))
    obtain ⟨x6, h6, _⟩ := ty_int (hp 5 (by decide))
    have h1 : p1 = _ := h1
    have h2 : p2 = _ := h2
    have h3 : p3 = _ := h3
    have h5 : p5 = _ := h5
    have h6 : p6 = _ := h6
    obtain ⟨a4, e4, l4⟩ := h4.one
    have e4 : p4 = _ := e4
    subst h1; subst h2; subst h3; subst h5; subst h6; subst e4
    exact ⟨⟨x1, x2, x3, x4, x5, x6⟩, hl4, .cons (.refl _) (.cons (.refl _) (.cons (.refl _) (.cons l4 (.cons (.refl _) (.cons (.refl _) (.refl [])))))) ⟩

theorem ty_treeC {cs : List AV} (h : Ty tab 55 cs) : ∃ (n1 n2 n3 : Option Bool) (t : Tree), Leqs cs (encT n1 n2 n3 t) ∧ TreeLen t := by
  obtain ⟨ps, rfl, hl, hp⟩ := h.struct_inv tabAt_55 rfl
  match ps, hl with
  | [p1, p2, p3], _ =>
    obtain ⟨n1, x1, l1, _, h1, _⟩ := ty_slice encE (fun _ => True) (hp 0 (by decide)) tabAt_32 rfl fun r hr => by
      obtain ⟨a, rfl⟩ := ty_entry hr
      exact ⟨a, trivial, Leqs.refl _⟩
    obtain ⟨n2, x2, l2, q2, h2, _⟩ := ty_slice encB1 (fun b => b.list.length ≤ 9223372036854775807) (hp 1 (by decide)) tabAt_52 rfl fun r hr => ty_block hr
    obtain ⟨n3, x3, l3, _, h3, _⟩ := ty_slice encI (fun _ => True) (hp 2 (by decide)) tabAt_53 rfl fun r hr => by
      obtain ⟨a, rfl, _⟩ := ty_int hr
      exact ⟨a, trivial, Leqs.refl _⟩
    obtain ⟨a1, e1, g1⟩ := h1.one
    obtain ⟨a2, e2, g2⟩ := h2.one
    obtain ⟨a3, e3, g3⟩ := h3.one
    have e1 : p1 = _ := e1
    have e2 : p2 = _ := e2
    have e3 : p3 = _ := e3
    subst e1; subst e2; subst e3
    exact ⟨n1, n2, n3, ⟨x1, x2, x3⟩, .cons g1 (.cons g2 (.cons g3 (.refl []))), ⟨l1, l2, l3, q2⟩⟩

theorem ty_tree {a : AV} (h : TyArg tab 55 a) : ∃ (n1 n2 n3 : Option Bool) (t : Tree), Leq a (.agg (encT n1 n2 n3 t)) ∧ TreeLen t := by
  obtain ⟨cs, rfl, h2⟩ := h.agg_inv tabAt_55 rfl
  obtain ⟨n1, n2, n3, t, h3, h4⟩ := ty_treeC h2
  exact ⟨n1, n2, n3, t, h3.agg, h4⟩

end Go.Proofs.Ytdaemhaecjldaaa

/- The closed facts of the row of FnExactMayVote. -/
namespace Go.Proofs.Ytdaemhaecjldaaa
open Go Go.ChangeShapes Go.WideShapes Go.ChangeAt Go.RowKit

theorem fnExactMayVote_named : Try.pinned.checked.prog.funcNamed Rows.fnExactMayVoteRow.func = some 6 := by kernel_rfl
theorem fnExactMayVote_inst : Try.f6.isInstance Try.pinned.checked.prog Rows.fnExactMayVoteRow.origin Rows.fnExactMayVoteRow.targs := of_decide_eq_true (by kernel_rfl)
theorem fnExactMayVote_wrap : Try.f6.isWrapper Try.pinned.checked.prog Rows.fnExactMayVoteRow.wrapper Rows.fnExactMayVoteRow.mainSum := by
  unfold Func.isWrapper; first | (rw [if_pos (by decide +kernel)]; kernel_rfl) | (rw [if_neg (by decide +kernel)]; exact ⟨rfl, rfl⟩)
set_option maxRecDepth 100000 in
theorem fnExactMayVote_closed : joinedFacts Try.pinned.checked.prog 6 Try.f6 Rows.fnExactMayVoteSpec Rows.fnExactMayVoteRow = true := by kernel_rfl

end Go.Proofs.Ytdaemhaecjldaaa

