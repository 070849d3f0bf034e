/- Shared texts Q (part 5): W23, W24, W25 -/
import Derived.Test.YtmibclbinebnjaaQ4

set_option linter.unusedSimpArgs false
set_option linter.unusedVariables false

/- Contracts: the laws' copies. -/
set_option linter.unusedSimpArgs false
set_option linter.unusedVariables false
set_option maxRecDepth 20000
set_option maxHeartbeats 4000000
namespace Go.Proofs.Ytmibclbinebnjaa
open Go Go.RowKit

theorem getD_at {α : Type} (xs : List α) (i : Nat) (d : α) (h : i < xs.length) : xs.getD i d = xs[i] := by
  simp [List.getD_eq_getElem?_getD, h]

def encBkO (b : Block) : List AV := [.int .i64 b.before, .int .i64 b.height, .int .i64 b.view, .osl true 4 (rows encA b.list), .int .i64 b.root, .int .i64 b.effects]

theorem c_laws_toEntry (e : Entry) : Det Try.prog 160 [.agg (encE e)] (.agg (encE e)) := by
  refine fspec_det tab_ok Try.call160 Try.func160 rfl 11 Try.ntmps160 (of_decide_eq_true rfl) fun B => codeK_sound tab_ok _ _ _ ?_
  unfold encE
  simp (config := { maxSteps := 4000000 }) only [go_sem, simprocAttr, ↓dnA, Try.f160]

theorem c_laws_toAction (a : Action) : Det Try.prog 161 [.agg (encA a)] (.agg (encA a)) := by
  refine fspec_det tab_ok Try.call161 Try.func161 rfl 17 Try.ntmps161 (of_decide_eq_true rfl) fun B => codeK_sound tab_ok _ _ _ ?_
  unfold encA
  simp (config := { maxSteps := 4000000 }) only [go_sem, simprocAttr, ↓dnA, Try.f161]

theorem c_laws_toEntryS (n1 : Option Bool) (xs : List Entry) (hx : xs.length < 2 ^ 32) :
    Det Try.prog 103 [.sl n1 (rows encE xs)] (.osl true 2 (rows encE xs)) := by
  refine fspec_det tab_ok Try.call103 Try.func103 rfl 23 Try.ntmps103 (of_decide_eq_true rfl) fun B => codeK_sound tab_ok _ _ _ ?_
  have hx62 : xs.length < 2 ^ 62 := by omega
  simp (config := { maxSteps := 4000000 }) only [go_sem, simprocAttr, ↓dnA, Try.f103, rows_length]
  repeat refine And.intro (by first | omega | (simp; done) | (simp; omega) | assumption) ?_
  refine semL_for tab_ok (fun i : Nat => ⟨23, [(0, .sl n1 (rows encE xs)), (3, .row 7 xs.length), (4, .int .i64 i)], [(7, .row true true 2 (rows encE (xs.take i ++ List.replicate (xs.length - i) (⟨0, 0⟩ : Entry))))]⟩) (fun i => xs.length - i)
    (fun i => i ≤ xs.length) 0 [(7, 7)] (Weak.of (by rfl) ?_ ?_ (by rfl)) (by omega) ?_
  · simp (config := { maxSteps := 4000000 }) only [go_sem, simprocAttr, ↓dnA, Try.f103, frW, wk2, wk1, wkL, wkB, hpW, List.mem_cons, Prod.mk.injEq, exists_eq_left, exists_eq_right, exists_eq]
    simp [rows, encE, encBk]
  · simp (config := { maxSteps := 4000000 }) only [go_sem, simprocAttr, ↓dnA, Try.f103, frW, wk2, wk1, wkL, wkB, hpW, List.mem_cons, Prod.mk.injEq, exists_eq_left, exists_eq_right, exists_eq]
  · rintro i hi
    by_cases h : i < xs.length
    · have hm : i < (xs.take i ++ List.replicate (xs.length - i) (⟨0, 0⟩ : Entry)).length := by simp; omega
      simp (config := { maxSteps := 4000000 }) only [go_sem, simprocAttr, ↓dnA, Try.f103, rows_length, rows_get _ _ _ h, encE, encBk, nlt h, nn0]
      refine CallTo.det (c_laws_toEntry xs[i]) fun _ => ?_
      simp (config := { maxSteps := 4000000 }) only [go_sem, simprocAttr, ↓dnA, Try.f103, rows_length, rows_get _ _ _ h, rows_get _ _ _ hm, hm, encE, encBk, encBkO, nlt h, nn0, wsucc h hx62]
      repeat refine And.intro (by first | omega | (simp; done) | (simp; omega) | assumption) ?_
      refine ⟨i + 1, [(7, 7)], by omega, by dsimp only; omega, Weak.of (by rfl) ?_ ?_ (by rfl)⟩
      · simp (config := { maxSteps := 4000000 }) only [go_sem, simprocAttr, ↓dnA, Try.f103, frW, wk2, wk1, wkL, wkB, hpW, List.mem_cons, Prod.mk.injEq, exists_eq_left, exists_eq_right, exists_eq]
        first
          | done
          | (refine (congrArg (rows encE) (fill_step xs (⟨0, 0⟩ : Entry) (⟨0, 0⟩ : Entry) i h)).symm.trans ?_; rw [← rows_set, getD_at _ _ _ h]; rfl)
      · simp (config := { maxSteps := 4000000 }) only [go_sem, simprocAttr, ↓dnA, Try.f103, wsucc h hx62, frW, wk2, wk1, wkL, wkB, hpW, List.mem_cons, Prod.mk.injEq, exists_eq_left, exists_eq_right, exists_eq]
    · have : i = xs.length := by omega
      subst this
      simp (config := { maxSteps := 4000000 }) only [go_sem, simprocAttr, ↓dnA, Try.f103, rows_length, nlf h]
      simp


theorem c_laws_toActionS (n1 : Option Bool) (xs : List Action) (hx : xs.length < 2 ^ 32) :
    Det Try.prog 106 [.sl n1 (rows encA xs)] (.osl true 4 (rows encA xs)) := by
  refine fspec_det tab_ok Try.call106 Try.func106 rfl 23 Try.ntmps106 (of_decide_eq_true rfl) fun B => codeK_sound tab_ok _ _ _ ?_
  have hx62 : xs.length < 2 ^ 62 := by omega
  simp (config := { maxSteps := 4000000 }) only [go_sem, simprocAttr, ↓dnA, Try.f106, rows_length]
  repeat refine And.intro (by first | omega | (simp; done) | (simp; omega) | assumption) ?_
  refine semL_for tab_ok (fun i : Nat => ⟨23, [(0, .sl n1 (rows encA xs)), (3, .row 7 xs.length), (4, .int .i64 i)], [(7, .row true true 4 (rows encA (xs.take i ++ List.replicate (xs.length - i) (⟨0, 0, 0, 0⟩ : Action))))]⟩) (fun i => xs.length - i)
    (fun i => i ≤ xs.length) 0 [(7, 7)] (Weak.of (by rfl) ?_ ?_ (by rfl)) (by omega) ?_
  · simp (config := { maxSteps := 4000000 }) only [go_sem, simprocAttr, ↓dnA, Try.f106, frW, wk2, wk1, wkL, wkB, hpW, List.mem_cons, Prod.mk.injEq, exists_eq_left, exists_eq_right, exists_eq]
    simp [rows, encA, encBk]
  · simp (config := { maxSteps := 4000000 }) only [go_sem, simprocAttr, ↓dnA, Try.f106, frW, wk2, wk1, wkL, wkB, hpW, List.mem_cons, Prod.mk.injEq, exists_eq_left, exists_eq_right, exists_eq]
  · rintro i hi
    by_cases h : i < xs.length
    · have hm : i < (xs.take i ++ List.replicate (xs.length - i) (⟨0, 0, 0, 0⟩ : Action)).length := by simp; omega
      simp (config := { maxSteps := 4000000 }) only [go_sem, simprocAttr, ↓dnA, Try.f106, rows_length, rows_get _ _ _ h, encA, encBk, nlt h, nn0]
      refine CallTo.det (c_laws_toAction xs[i]) fun _ => ?_
      simp (config := { maxSteps := 4000000 }) only [go_sem, simprocAttr, ↓dnA, Try.f106, rows_length, rows_get _ _ _ h, rows_get _ _ _ hm, hm, encA, encBk, encBkO, nlt h, nn0, wsucc h hx62]
      repeat refine And.intro (by first | omega | (simp; done) | (simp; omega) | assumption) ?_
      refine ⟨i + 1, [(7, 7)], by omega, by dsimp only; omega, Weak.of (by rfl) ?_ ?_ (by rfl)⟩
      · simp (config := { maxSteps := 4000000 }) only [go_sem, simprocAttr, ↓dnA, Try.f106, frW, wk2, wk1, wkL, wkB, hpW, List.mem_cons, Prod.mk.injEq, exists_eq_left, exists_eq_right, exists_eq]
        first
          | done
          | (refine (congrArg (rows encA) (fill_step xs (⟨0, 0, 0, 0⟩ : Action) (⟨0, 0, 0, 0⟩ : Action) i h)).symm.trans ?_; rw [← rows_set, getD_at _ _ _ h]; rfl)
      · simp (config := { maxSteps := 4000000 }) only [go_sem, simprocAttr, ↓dnA, Try.f106, wsucc h hx62, frW, wk2, wk1, wkL, wkB, hpW, List.mem_cons, Prod.mk.injEq, exists_eq_left, exists_eq_right, exists_eq]
    · have : i = xs.length := by omega
      subst this
      simp (config := { maxSteps := 4000000 }) only [go_sem, simprocAttr, ↓dnA, Try.f106, rows_length, nlf h]
      simp


theorem c_laws_toBlock (n : Option Bool) (b : Block) (hx : b.list.length < 2 ^ 32) : Det Try.prog 43 [.agg (encBk n b)] (.agg (encBkO b)) := by
  refine fspec_det tab_ok Try.call43 Try.func43 rfl 24 Try.ntmps43 (of_decide_eq_true rfl) fun B => codeK_sound tab_ok _ _ _ ?_
  unfold encBk encBkO
  simp (config := { maxSteps := 4000000 }) only [go_sem, simprocAttr, ↓dnA, Try.f43]
  refine CallTo.det (c_laws_toActionS n b.list hx) fun _ => ?_
  simp (config := { maxSteps := 4000000 }) only [go_sem, simprocAttr, ↓dnA, Try.f43, rows_length]
  try simp

theorem c_laws_toBlockS (n1 : Option Bool) (xs : List Block) (hx : xs.length < 2 ^ 32) (hl : ∀ b, b ∈ xs → b.list.length < 2 ^ 32) :
    Det Try.prog 104 [.sl n1 (rows encB1 xs)] (.osl true 6 (rows encB1 xs)) := by
  refine fspec_det tab_ok Try.call104 Try.func104 rfl 23 Try.ntmps104 (of_decide_eq_true rfl) fun B => codeK_sound tab_ok _ _ _ ?_
  have hx62 : xs.length < 2 ^ 62 := by omega
  simp (config := { maxSteps := 4000000 }) only [go_sem, simprocAttr, ↓dnA, Try.f104, rows_length]
  repeat refine And.intro (by first | omega | (simp; done) | (simp; omega) | assumption) ?_
  refine semL_for tab_ok (fun i : Nat => ⟨23, [(0, .sl n1 (rows encB1 xs)), (3, .row 7 xs.length), (4, .int .i64 i)], [(7, .row true true 6 (rows encB1 (xs.take i ++ List.replicate (xs.length - i) (⟨0, 0, 0, [], 0, 0⟩ : Block))))]⟩) (fun i => xs.length - i)
    (fun i => i ≤ xs.length) 0 [(7, 7)] (Weak.of (by rfl) ?_ ?_ (by rfl)) (by omega) ?_
  · simp (config := { maxSteps := 4000000 }) only [go_sem, simprocAttr, ↓dnA, Try.f104, frW, wk2, wk1, wkL, wkB, hpW, List.mem_cons, Prod.mk.injEq, exists_eq_left, exists_eq_right, exists_eq]
    simp [rows, encB1, encBk]
  · simp (config := { maxSteps := 4000000 }) only [go_sem, simprocAttr, ↓dnA, Try.f104, frW, wk2, wk1, wkL, wkB, hpW, List.mem_cons, Prod.mk.injEq, exists_eq_left, exists_eq_right, exists_eq]
  · rintro i hi
    by_cases h : i < xs.length
    · have hm : i < (xs.take i ++ List.replicate (xs.length - i) (⟨0, 0, 0, [], 0, 0⟩ : Block)).length := by simp; omega
      simp (config := { maxSteps := 4000000 }) only [go_sem, simprocAttr, ↓dnA, Try.f104, rows_length, rows_get _ _ _ h, encB1, encBk, nlt h, nn0]
      refine CallTo.det (c_laws_toBlock none xs[i] (hl _ (List.getElem_mem h))) fun _ => ?_
      simp (config := { maxSteps := 4000000 }) only [go_sem, simprocAttr, ↓dnA, Try.f104, rows_length, rows_get _ _ _ h, rows_get _ _ _ hm, hm, encB1, encBk, encBkO, nlt h, nn0, wsucc h hx62]
      repeat refine And.intro (by first | omega | (simp; done) | (simp; omega) | assumption) ?_
      refine ⟨i + 1, [(7, 7)], by omega, by dsimp only; omega, Weak.of (by rfl) ?_ ?_ (by rfl)⟩
      · simp (config := { maxSteps := 4000000 }) only [go_sem, simprocAttr, ↓dnA, Try.f104, frW, wk2, wk1, wkL, wkB, hpW, List.mem_cons, Prod.mk.injEq, exists_eq_left, exists_eq_right, exists_eq]
        first
          | done
          | (refine (congrArg (rows encB1) (fill_step xs (⟨0, 0, 0, [], 0, 0⟩ : Block) (⟨0, 0, 0, [], 0, 0⟩ : Block) i h)).symm.trans ?_; rw [← rows_set, getD_at _ _ _ h]; rfl)
      · simp (config := { maxSteps := 4000000 }) only [go_sem, simprocAttr, ↓dnA, Try.f104, wsucc h hx62, frW, wk2, wk1, wkL, wkB, hpW, List.mem_cons, Prod.mk.injEq, exists_eq_left, exists_eq_right, exists_eq]
    · have : i = xs.length := by omega
      subst this
      simp (config := { maxSteps := 4000000 }) only [go_sem, simprocAttr, ↓dnA, Try.f104, rows_length, nlf h]
      simp


theorem c_laws_toIntS (n1 : Option Bool) (xs : List Int) (hx : xs.length < 2 ^ 32) :
    Det Try.prog 105 [.sl n1 (rows encI xs)] (.osl true 1 (rows encI xs)) := by
  refine fspec_det tab_ok Try.call105 Try.func105 rfl 22 Try.ntmps105 (of_decide_eq_true rfl) fun B => codeK_sound tab_ok _ _ _ ?_
  have hx62 : xs.length < 2 ^ 62 := by omega
  simp (config := { maxSteps := 4000000 }) only [go_sem, simprocAttr, ↓dnA, Try.f105, rows_length]
  repeat refine And.intro (by first | omega | (simp; done) | (simp; omega) | assumption) ?_
  refine semL_for tab_ok (fun i : Nat => ⟨22, [(0, .sl n1 (rows encI xs)), (3, .row 7 xs.length), (4, .int .i64 i)], [(7, .row true true 1 (rows encI (xs.take i ++ List.replicate (xs.length - i) 0)))]⟩) (fun i => xs.length - i)
    (fun i => i ≤ xs.length) 0 [(7, 7)] (Weak.of (by rfl) ?_ ?_ (by rfl)) (by omega) ?_
  · simp (config := { maxSteps := 4000000 }) only [go_sem, simprocAttr, ↓dnA, Try.f105, frW, wk2, wk1, wkL, wkB, hpW, List.mem_cons, Prod.mk.injEq, exists_eq_left, exists_eq_right, exists_eq]
    simp [rows, encI]
  · simp (config := { maxSteps := 4000000 }) only [go_sem, simprocAttr, ↓dnA, Try.f105, frW, wk2, wk1, wkL, wkB, hpW, List.mem_cons, Prod.mk.injEq, exists_eq_left, exists_eq_right, exists_eq]
  · rintro i hi
    by_cases h : i < xs.length
    · have hm : i < (xs.take i ++ List.replicate (xs.length - i) 0).length := by simp; omega
      simp (config := { maxSteps := 4000000 }) only [go_sem, simprocAttr, ↓dnA, Try.f105, rows_length, rows_get _ _ _ h, rows_get _ _ _ hm, hm, encI, nlt h, nn0, wsucc h hx62]
      repeat refine And.intro (by first | omega | (simp; done) | (simp; omega) | assumption) ?_
      refine ⟨i + 1, [(7, 7)], by omega, by dsimp only; omega, Weak.of (by rfl) ?_ ?_ (by rfl)⟩
      · simp (config := { maxSteps := 4000000 }) only [go_sem, simprocAttr, ↓dnA, Try.f105, frW, wk2, wk1, wkL, wkB, hpW, List.mem_cons, Prod.mk.injEq, exists_eq_left, exists_eq_right, exists_eq]
        first
          | done
          | (refine (congrArg (rows encI) (fill_step xs 0 0 i h)).symm.trans ?_; rw [← rows_set, getD_at _ _ _ h]; rfl)
      · simp (config := { maxSteps := 4000000 }) only [go_sem, simprocAttr, ↓dnA, Try.f105, wsucc h hx62, frW, wk2, wk1, wkL, wkB, hpW, List.mem_cons, Prod.mk.injEq, exists_eq_left, exists_eq_right, exists_eq]
    · have : i = xs.length := by omega
      subst this
      simp (config := { maxSteps := 4000000 }) only [go_sem, simprocAttr, ↓dnA, Try.f105, rows_length, nlf h]
      simp

/-- How much the actions of blocks are. -/
def lsum : List Block → Nat
  | [] => 0
  | b :: r => b.list.length + lsum r

theorem lsum_mem : ∀ (bs : List Block) (b : Block), b ∈ bs → b.list.length ≤ lsum bs
  | [], b, h => by cases h
  | c :: r, b, h => by
    unfold lsum
    rcases List.mem_cons.1 h with rfl | h
    · omega
    · have := lsum_mem r b h; omega

/-- How much a tree is. -/
def tsz (t : Tree) : Nat := t.base.length + (t.blocks.length + lsum t.blocks) + t.before.length

/-- Sizes of a law's tree. -/
structure TreeS32 (t : Tree) : Prop where
  sum : tsz t ≤ 1048576
theorem TreeS32.base {t : Tree} (h : TreeS32 t) : t.base.length < 2 ^ 32 := by have := h.sum; unfold tsz at this; omega
theorem TreeS32.blocks {t : Tree} (h : TreeS32 t) : t.blocks.length < 2 ^ 32 := by have := h.sum; unfold tsz at this; omega
theorem TreeS32.before {t : Tree} (h : TreeS32 t) : t.before.length < 2 ^ 32 := by have := h.sum; unfold tsz at this; omega
theorem TreeS32.list {t : Tree} (h : TreeS32 t) : ∀ b, b ∈ t.blocks → b.list.length < 2 ^ 32 := fun b hb => by have := h.sum; have := lsum_mem t.blocks b hb; unfold tsz at *; omega
theorem TreeS32.sz {t : Tree} (h : TreeS32 t) : TreeSz t := ⟨by have := h.base; omega, by have := h.blocks; omega, by have := h.before; omega, fun b hb => by have := h.list b hb; omega⟩

def encTO (t : Tree) : List AV := [.osl true 2 (rows encE t.base), .osl true 6 (rows encB1 t.blocks), .osl true 1 (rows encI t.before)]

theorem c_laws_toBlockTree (n1 n2 n3 : Option Bool) (t : Tree) (hx : TreeS32 t) : Det Try.prog 42 [.agg (encT n1 n2 n3 t)] (.agg (encTO t)) := by
  refine fspec_det tab_ok Try.call42 Try.func42 rfl 17 Try.ntmps42 (of_decide_eq_true rfl) fun B => codeK_sound tab_ok _ _ _ ?_
  unfold encT encTO
  simp (config := { maxSteps := 4000000 }) only [go_sem, simprocAttr, ↓dnA, Try.f42]
  refine CallTo.det (c_laws_toEntryS _ _ hx.base) fun _ => ?_
  simp (config := { maxSteps := 4000000 }) only [go_sem, simprocAttr, ↓dnA, Try.f42, rows_length]
  refine CallTo.det (c_laws_toBlockS _ _ hx.blocks hx.list) fun _ => ?_
  simp (config := { maxSteps := 4000000 }) only [go_sem, simprocAttr, ↓dnA, Try.f42, rows_length]
  refine CallTo.det (c_laws_toIntS _ _ hx.before) fun _ => ?_
  simp (config := { maxSteps := 4000000 }) only [go_sem, simprocAttr, ↓dnA, Try.f42, rows_length]
  try simp

end Go.Proofs.Ytmibclbinebnjaa

/- Contracts: the laws' sizes and tests. -/
set_option linter.unusedSimpArgs false
set_option linter.unusedVariables false
set_option maxRecDepth 20000
set_option maxHeartbeats 4000000
namespace Go.Proofs.Ytmibclbinebnjaa
open Go Go.RowKit

/-- What is left of a size. -/
def szI (left : Int) (n : Nat) : Int := if left - n < 0 then -1 else left - n

theorem szI_bd {left : Int} {n : Nat} (h : left ≤ 1048576) : szI left n ≤ 1048576 ∧ (0 ≤ szI left n → n ≤ 1048576) := by
  unfold szI; split <;> omega

theorem c_laws_szEntryS (n1 : Option Bool) (xs : List Entry) (left : Int) (hx : xs.length ≤ 9223372036854775807) (hl : 0 ≤ left ∧ left ≤ 1048576) : Det Try.prog 99 [.sl n1 (rows encE xs), .int .i64 left] (.int .i64 (szI left xs.length)) := by
  refine fspec_det tab_ok Try.call99 Try.func99 rfl 12 Try.ntmps99 (of_decide_eq_true rfl) fun B => codeK_sound tab_ok _ _ _ ?_
  have hw : IntKind.i64.wrap (left - (xs.length : Int)) = left - xs.length := wrap_small _ (by omega) (by omega)
  cases h : decide (left - (xs.length : Int) < 0) with
  | true => simp (config := { maxSteps := 4000000 }) only [go_sem, simprocAttr, ↓dnA, Try.f99, rows_length, hw, h, szI, of_decide_eq_true h]
  | false => simp (config := { maxSteps := 4000000 }) only [go_sem, simprocAttr, ↓dnA, Try.f99, rows_length, hw, h, szI, of_decide_eq_false h]

theorem c_laws_szActionS (n1 : Option Bool) (xs : List Action) (left : Int) (hx : xs.length ≤ 9223372036854775807) (hl : 0 ≤ left ∧ left ≤ 1048576) : Det Try.prog 102 [.sl n1 (rows encA xs), .int .i64 left] (.int .i64 (szI left xs.length)) := by
  refine fspec_det tab_ok Try.call102 Try.func102 rfl 12 Try.ntmps102 (of_decide_eq_true rfl) fun B => codeK_sound tab_ok _ _ _ ?_
  have hw : IntKind.i64.wrap (left - (xs.length : Int)) = left - xs.length := wrap_small _ (by omega) (by omega)
  cases h : decide (left - (xs.length : Int) < 0) with
  | true => simp (config := { maxSteps := 4000000 }) only [go_sem, simprocAttr, ↓dnA, Try.f102, rows_length, hw, h, szI, of_decide_eq_true h]
  | false => simp (config := { maxSteps := 4000000 }) only [go_sem, simprocAttr, ↓dnA, Try.f102, rows_length, hw, h, szI, of_decide_eq_false h]

theorem c_laws_szIntS (n1 : Option Bool) (xs : List Int) (left : Int) (hx : xs.length ≤ 9223372036854775807) (hl : 0 ≤ left ∧ left ≤ 1048576) : Det Try.prog 101 [.sl n1 (rows encI xs), .int .i64 left] (.int .i64 (szI left xs.length)) := by
  refine fspec_det tab_ok Try.call101 Try.func101 rfl 12 Try.ntmps101 (of_decide_eq_true rfl) fun B => codeK_sound tab_ok _ _ _ ?_
  have hw : IntKind.i64.wrap (left - (xs.length : Int)) = left - xs.length := wrap_small _ (by omega) (by omega)
  cases h : decide (left - (xs.length : Int) < 0) with
  | true => simp (config := { maxSteps := 4000000 }) only [go_sem, simprocAttr, ↓dnA, Try.f101, rows_length, hw, h, szI, of_decide_eq_true h]
  | false => simp (config := { maxSteps := 4000000 }) only [go_sem, simprocAttr, ↓dnA, Try.f101, rows_length, hw, h, szI, of_decide_eq_false h]

theorem c_laws_szBlock (n : Option Bool) (b : Block) (left : Int) (hx : b.list.length ≤ 9223372036854775807) (hl : 0 ≤ left ∧ left ≤ 1048576) : Det Try.prog 41 [.agg (encBk n b), .int .i64 left] (.int .i64 (szI left b.list.length)) := by
  refine fspec_det tab_ok Try.call41 Try.func41 rfl 12 Try.ntmps41 (of_decide_eq_true rfl) fun B => codeK_sound tab_ok _ _ _ ?_
  unfold encBk
  simp (config := { maxSteps := 4000000 }) only [go_sem, simprocAttr, ↓dnA, Try.f41]
  refine CallTo.det (c_laws_szActionS _ _ left hx hl) fun _ => ?_
  cases h : decide (szI left b.list.length < 0) with
  | true =>
    have : szI left b.list.length = -1 := by have := of_decide_eq_true h; unfold szI at *; split <;> simp_all
    simp (config := { maxSteps := 4000000 }) only [go_sem, simprocAttr, ↓dnA, Try.f41, h, this]
  | false => simp (config := { maxSteps := 4000000 }) only [go_sem, simprocAttr, ↓dnA, Try.f41, h]

def szBl : Int → List Block → Int
  | left, [] => left
  | left, b :: r => if szI left b.list.length < 0 then -1 else szBl (szI left b.list.length) r

def szBS (left : Int) (bs : List Block) : Int := if szI left bs.length < 0 then -1 else szBl (szI left bs.length) bs

theorem c_laws_szBlockS (n1 : Option Bool) (xs : List Block) (left : Int) (hx : xs.length ≤ 9223372036854775807) (hb : ∀ b, b ∈ xs → b.list.length ≤ 9223372036854775807) (hl : 0 ≤ left ∧ left ≤ 1048576) : Det Try.prog 100 [.sl n1 (rows encB1 xs), .int .i64 left] (.int .i64 (szBS left xs)) := by
  refine fspec_det tab_ok Try.call100 Try.func100 rfl 27 Try.ntmps100 (of_decide_eq_true rfl) fun B => codeK_sound tab_ok _ _ _ ?_
  have hw : IntKind.i64.wrap (left - (xs.length : Int)) = left - xs.length := wrap_small _ (by omega) (by omega)
  cases h : decide (left - (xs.length : Int) < 0) with
  | true =>
    have hz : szBS left xs = -1 := by unfold szBS szI; simp [of_decide_eq_true h]
    simp (config := { maxSteps := 4000000 }) only [go_sem, simprocAttr, ↓dnA, Try.f100, rows_length, hw, h, hz]
  | false =>
    have h' := of_decide_eq_false h
    have hz : szBS left xs = szBl (left - xs.length) xs := by unfold szBS szI; simp [h']
    simp (config := { maxSteps := 4000000 }) only [go_sem, simprocAttr, ↓dnA, Try.f100, rows_length, hw, h]
    refine semL_for tab_ok (fun p : Nat × Int => ⟨27, [(0, .sl n1 (rows encB1 xs)), (1, .int .i64 p.2), (5, .int .i64 p.1)], []⟩) (fun p => xs.length - p.1)
      (fun p => p.1 ≤ xs.length ∧ (0 ≤ p.2 ∧ p.2 ≤ 1048576) ∧ szBl p.2 (xs.drop p.1) = szBS left xs) (0, left - xs.length) [] (Weak.of (by rfl) trivial ?_ (by rfl)) ⟨by omega, by dsimp only; omega, hz.symm⟩ ?_
    · simp (config := { maxSteps := 4000000 }) only [go_sem, simprocAttr, ↓dnA, Try.f100, frW, wk2, wk1, wkL, wkB, hpW, List.mem_cons, Prod.mk.injEq, exists_eq_left, exists_eq_right, exists_eq]
    · rintro ⟨i, l⟩ ⟨hi, hlb, hp⟩
      dsimp only at hi hlb hp
      by_cases h : i < xs.length
      · rw [drop_cons xs i h] at hp
        simp only [szBl] at hp
        simp (config := { maxSteps := 4000000 }) only [go_sem, simprocAttr, ↓dnA, Try.f100, rows_length, rows_get _ _ _ h, encB1, encBk, nlt h, nn0]
        refine CallTo.det (c_laws_szBlock none xs[i] l (hb _ (List.getElem_mem h)) hlb) fun _ => ?_
        cases h2 : decide (szI l xs[i].list.length < 0) with
        | true =>
          rw [if_pos (of_decide_eq_true h2)] at hp
          simp (config := { maxSteps := 4000000 }) only [go_sem, simprocAttr, ↓dnA, Try.f100, h2, ← hp]
        | false =>
          have h2' := of_decide_eq_false h2
          rw [if_neg h2'] at hp
          have hb2 := szI_bd (left := l) (n := xs[i].list.length) hlb.2
          simp (config := { maxSteps := 4000000 }) only [go_sem, simprocAttr, ↓dnA, Try.f100, h2, wsucc h (by omega : xs.length < 2 ^ 62)]
          refine ⟨(i + 1, szI l xs[i].list.length), [], ⟨by dsimp only; omega, by dsimp only; omega, hp⟩, by dsimp only; omega, Weak.of (by rfl) trivial ?_ (by rfl)⟩
          simp (config := { maxSteps := 4000000 }) only [go_sem, simprocAttr, ↓dnA, Try.f100, frW, wk2, wk1, wkL, wkB, hpW, List.mem_cons, Prod.mk.injEq, exists_eq_left, exists_eq_right, exists_eq]
      · have : i = xs.length := by omega
        subst this
        rw [List.drop_length] at hp
        have hp : l = szBS left xs := hp
        simp (config := { maxSteps := 4000000 }) only [go_sem, simprocAttr, ↓dnA, Try.f100, rows_length, nlf h, ← hp]

theorem szI_eq {left : Int} {n : Nat} (h0 : 0 ≤ szI left n) : szI left n + n = left := by
  unfold szI at *
  split
  · rename_i h; rw [if_pos h] at h0; omega
  · omega

theorem szBl_spec : ∀ (bs : List Block) (left : Int), left ≤ 1048576 → 0 ≤ szBl left bs → szBl left bs ≤ 1048576 ∧ szBl left bs + (lsum bs : Int) = left
  | [], left, h, _ => ⟨h, by simp [szBl, lsum]⟩
  | b :: r, left, h, h0 => by
    simp only [szBl] at h0 ⊢
    have hb := szI_bd (n := b.list.length) h
    by_cases hc : szI left b.list.length < 0
    · rw [if_pos hc] at h0; omega
    · rw [if_neg hc] at h0 ⊢
      obtain ⟨h1, h2⟩ := szBl_spec r _ hb.1 h0
      have h3 := szI_eq (left := left) (n := b.list.length) (by omega)
      refine ⟨h1, ?_⟩
      unfold lsum
      omega

theorem szBS_spec {bs : List Block} {left : Int} (h : left ≤ 1048576) (h0 : 0 ≤ szBS left bs) : szBS left bs ≤ 1048576 ∧ szBS left bs + ((bs.length + lsum bs : Nat) : Int) = left := by
  unfold szBS at *
  have hb := szI_bd (n := bs.length) h
  by_cases hc : szI left bs.length < 0
  · rw [if_pos hc] at h0; omega
  · rw [if_neg hc] at h0 ⊢
    obtain ⟨h1, h2⟩ := szBl_spec bs _ hb.1 h0
    have h3 := szI_eq (left := left) (n := bs.length) (by omega)
    exact ⟨h1, by omega⟩

/-- Lengths that a machine may hold. -/
structure TreeLen (t : Tree) : Prop where
  base : t.base.length ≤ 9223372036854775807
  blocks : t.blocks.length ≤ 9223372036854775807
  before : t.before.length ≤ 9223372036854775807
  list : ∀ b, b ∈ t.blocks → b.list.length ≤ 9223372036854775807

/-- Whether a tree fits, and what is left. -/
theorem c_laws_szBlockTree (n1 n2 n3 : Option Bool) (t : Tree) (left : Int) (hx : TreeLen t) (hl : 0 ≤ left ∧ left ≤ 1048576) :
    ∃ r : Int, Det Try.prog 40 [.agg (encT n1 n2 n3 t), .int .i64 left] (.int .i64 r) ∧ r ≤ 1048576 ∧ (0 ≤ r → TreeS32 t) ∧ (0 ≤ r → r + (tsz t : Int) = left) := by
  have hb1 := szI_bd (n := t.base.length) hl.2
  by_cases g1 : szI left t.base.length < 0
  · refine ⟨-1, ?_, by omega, by omega, by omega⟩
    refine fspec_det tab_ok Try.call40 Try.func40 rfl 24 Try.ntmps40 (of_decide_eq_true rfl) fun B => codeK_sound tab_ok _ _ _ ?_
    unfold encT
    simp (config := { maxSteps := 4000000 }) only [go_sem, simprocAttr, ↓dnA, Try.f40]
    refine CallTo.det (c_laws_szEntryS _ _ left hx.base hl) fun _ => ?_
    simp (config := { maxSteps := 4000000 }) only [go_sem, simprocAttr, ↓dnA, Try.f40, decide_eq_true g1]
  · by_cases g2 : szBS (szI left t.base.length) t.blocks < 0
    · refine ⟨-1, ?_, by omega, by omega, by omega⟩
      refine fspec_det tab_ok Try.call40 Try.func40 rfl 24 Try.ntmps40 (of_decide_eq_true rfl) fun B => codeK_sound tab_ok _ _ _ ?_
      unfold encT
      simp (config := { maxSteps := 4000000 }) only [go_sem, simprocAttr, ↓dnA, Try.f40]
      refine CallTo.det (c_laws_szEntryS _ _ left hx.base hl) fun _ => ?_
      simp (config := { maxSteps := 4000000 }) only [go_sem, simprocAttr, ↓dnA, Try.f40, decide_eq_false g1]
      refine CallTo.det (c_laws_szBlockS _ _ _ hx.blocks hx.list ⟨by omega, hb1.1⟩) fun _ => ?_
      simp (config := { maxSteps := 4000000 }) only [go_sem, simprocAttr, ↓dnA, Try.f40, decide_eq_true g2]
    · obtain ⟨k1, k2⟩ := szBS_spec (bs := t.blocks) hb1.1 (by omega)
      have hb3 := szI_bd (n := t.before.length) k1
      by_cases g3 : szI (szBS (szI left t.base.length) t.blocks) t.before.length < 0
      · refine ⟨-1, ?_, by omega, by omega, by omega⟩
        refine fspec_det tab_ok Try.call40 Try.func40 rfl 24 Try.ntmps40 (of_decide_eq_true rfl) fun B => codeK_sound tab_ok _ _ _ ?_
        unfold encT
        simp (config := { maxSteps := 4000000 }) only [go_sem, simprocAttr, ↓dnA, Try.f40]
        refine CallTo.det (c_laws_szEntryS _ _ left hx.base hl) fun _ => ?_
        simp (config := { maxSteps := 4000000 }) only [go_sem, simprocAttr, ↓dnA, Try.f40, decide_eq_false g1]
        refine CallTo.det (c_laws_szBlockS _ _ _ hx.blocks hx.list ⟨by omega, hb1.1⟩) fun _ => ?_
        simp (config := { maxSteps := 4000000 }) only [go_sem, simprocAttr, ↓dnA, Try.f40, decide_eq_false g2]
        refine CallTo.det (c_laws_szIntS _ _ _ hx.before ⟨by omega, k1⟩) fun _ => ?_
        simp (config := { maxSteps := 4000000 }) only [go_sem, simprocAttr, ↓dnA, Try.f40, decide_eq_true g3]
      · have hsum : szI (szBS (szI left t.base.length) t.blocks) t.before.length + (tsz t : Int) = left := by
          have e1 := szI_eq (left := left) (n := t.base.length) (by omega)
          have e3 := szI_eq (left := szBS (szI left t.base.length) t.blocks) (n := t.before.length) (by omega)
          unfold tsz; omega
        refine ⟨szI (szBS (szI left t.base.length) t.blocks) t.before.length, ?_, hb3.1, fun _ => ⟨by omega⟩, fun _ => hsum⟩
        refine fspec_det tab_ok Try.call40 Try.func40 rfl 24 Try.ntmps40 (of_decide_eq_true rfl) fun B => codeK_sound tab_ok _ _ _ ?_
        unfold encT
        simp (config := { maxSteps := 4000000 }) only [go_sem, simprocAttr, ↓dnA, Try.f40]
        refine CallTo.det (c_laws_szEntryS _ _ left hx.base hl) fun _ => ?_
        simp (config := { maxSteps := 4000000 }) only [go_sem, simprocAttr, ↓dnA, Try.f40, decide_eq_false g1]
        refine CallTo.det (c_laws_szBlockS _ _ _ hx.blocks hx.list ⟨by omega, hb1.1⟩) fun _ => ?_
        simp (config := { maxSteps := 4000000 }) only [go_sem, simprocAttr, ↓dnA, Try.f40, decide_eq_false g2]
        refine CallTo.det (c_laws_szIntS _ _ _ hx.before ⟨by omega, k1⟩) fun _ => ?_
        simp (config := { maxSteps := 4000000 }) only [go_sem, simprocAttr, ↓dnA, Try.f40, decide_eq_false g3]

end Go.Proofs.Ytmibclbinebnjaa

/- Contracts: the laws' tests. -/
set_option linter.unusedSimpArgs false
set_option linter.unusedVariables false
set_option maxRecDepth 20000
set_option maxHeartbeats 4000000
namespace Go.Proofs.Ytmibclbinebnjaa
open Go Go.RowKit

theorem entB (a b : Entry) : ((a.key == b.key) && (a.value == b.value)) = decide (a = b) := by
  obtain ⟨a1, a2⟩ := a
  obtain ⟨b1, b2⟩ := b
  rw [Bool.eq_iff_iff]
  simp only [Bool.and_eq_true, beq_iff_eq, decide_eq_true_eq, Entry.mk.injEq]

theorem actB (a b : Action) : ((a.kind == b.kind) && ((a.fr == b.fr) && ((a.to == b.to) && (a.amount == b.amount)))) = decide (a = b) := by
  obtain ⟨a1, a2, a3, a4⟩ := a
  obtain ⟨b1, b2, b3, b4⟩ := b
  rw [Bool.eq_iff_iff]
  simp only [Bool.and_eq_true, beq_iff_eq, decide_eq_true_eq, Action.mk.injEq]

theorem blkB (b c : Block) : sameB b c = decide (b = c) := by
  rw [Bool.eq_iff_iff, sameB_iff, decide_eq_true_eq]

theorem c_laws_eqEntry (a b : Entry) : Det Try.prog 162 [.agg (encE a), .agg (encE b)] (.bool (decide (a = b))) := by
  refine fspec_det tab_ok Try.call162 Try.func162 rfl 15 Try.ntmps162 (of_decide_eq_true rfl) fun B => codeK_sound tab_ok _ _ _ ?_
  unfold encE
  rw [← entB]
  cases h1 : (a.key == b.key) with
  | false => simp (config := { maxSteps := 4000000 }) only [go_sem, simprocAttr, ↓dnA, Try.f162, bne, h1]
  | true =>
    cases h2 : (a.value == b.value) with
    | false => simp (config := { maxSteps := 4000000 }) only [go_sem, simprocAttr, ↓dnA, Try.f162, bne, h1, h2]
    | true => simp (config := { maxSteps := 4000000 }) only [go_sem, simprocAttr, ↓dnA, Try.f162, bne, h1, h2]

theorem c_laws_eqAction (a b : Action) : Det Try.prog 163 [.agg (encA a), .agg (encA b)] (.bool (decide (a = b))) := by
  refine fspec_det tab_ok Try.call163 Try.func163 rfl 25 Try.ntmps163 (of_decide_eq_true rfl) fun B => codeK_sound tab_ok _ _ _ ?_
  unfold encA
  rw [← actB]
  cases h1 : (a.kind == b.kind) with
  | false => simp (config := { maxSteps := 4000000 }) only [go_sem, simprocAttr, ↓dnA, Try.f163, bne, h1]
  | true =>
    cases h2 : (a.fr == b.fr) with
    | false => simp (config := { maxSteps := 4000000 }) only [go_sem, simprocAttr, ↓dnA, Try.f163, bne, h1, h2]
    | true =>
      cases h3 : (a.to == b.to) with
      | false => simp (config := { maxSteps := 4000000 }) only [go_sem, simprocAttr, ↓dnA, Try.f163, bne, h1, h2, h3]
      | true =>
        cases h4 : (a.amount == b.amount) with
        | false => simp (config := { maxSteps := 4000000 }) only [go_sem, simprocAttr, ↓dnA, Try.f163, bne, h1, h2, h3, h4]
        | true => simp (config := { maxSteps := 4000000 }) only [go_sem, simprocAttr, ↓dnA, Try.f163, bne, h1, h2, h3, h4]

theorem c_laws_eqEntryS (n1 n2 : Option Bool) (xs ys : List Entry) (hx : xs.length < 2 ^ 62) (hy : ys.length < 2 ^ 62)  :
    Det Try.prog 107 [.sl n1 (rows encE xs), .sl n2 (rows encE ys)] (.bool (decide (xs = ys))) := by
  refine fspec_det tab_ok Try.call107 Try.func107 rfl 27 Try.ntmps107 (of_decide_eq_true rfl) fun B => codeK_sound tab_ok _ _ _ ?_
  by_cases hl : xs.length = ys.length
  · have hd : (((xs.length : Int) != (ys.length : Int))) = false := by simp [hl]
    simp (config := { maxSteps := 4000000 }) only [go_sem, simprocAttr, ↓dnA, Try.f107, rows_length, hd]
    refine semL_for tab_ok (fun i : Nat => ⟨27, [(0, .sl n1 (rows encE xs)), (1, .sl n2 (rows encE ys)), (5, .int .i64 i)], []⟩) (fun i => xs.length - i)
      (fun i => i ≤ xs.length ∧ decide (xs.drop i = ys.drop i) = decide (xs = ys)) 0 [] (Weak.of (by rfl) trivial ?_ (by rfl)) ⟨by omega, rfl⟩ ?_
    · simp (config := { maxSteps := 4000000 }) only [go_sem, simprocAttr, ↓dnA, Try.f107, rows_length, frW, wk2, wk1, wkL, wkB, hpW, List.mem_cons, Prod.mk.injEq, exists_eq_left, exists_eq_right, exists_eq]
    · rintro i ⟨hi, hp⟩
      by_cases h : i < xs.length
      · have h2 : i < ys.length := by omega
        rw [eq_drop xs ys i hl h] at hp
        simp (config := { maxSteps := 4000000 }) only [go_sem, simprocAttr, ↓dnA, Try.f107, rows_length, nlt h]
        refine semL_draw tab_ok mixed_ rfl (ord := [(0, []), (1, []), (2, []), (3, []), (4, []), (5, []), (6, []), (7, []), (8, []), (9, [])]) (by dsimp only; decide +kernel) ?_
        simp (config := { maxSteps := 4000000 }) only [go_sem, simprocAttr, ↓dnA, Try.f107, rows_length, rows_get _ _ _ h, rows_get _ _ _ h2, encE, encBk, nn0, nlt h, nlt h2]
        refine CallTo.det (c_laws_eqEntry xs[i] ys[i]) fun _ => ?_
        cases he : decide (xs[i] = ys[i]) with
        | false =>
          have he' : decide (xs[i] = ys[i]) = false := he
          rw [he', Bool.false_and] at hp
          simp (config := { maxSteps := 4000000 }) only [go_sem, simprocAttr, ↓dnA, Try.f107, rows_length, rows_get _ _ _ h, rows_get _ _ _ h2, encE, encBk, nn0, nlt h, nlt h2, he, ← hp]
        | true =>
          have he' : decide (xs[i] = ys[i]) = true := he
          rw [he', Bool.true_and] at hp
          simp (config := { maxSteps := 4000000 }) only [go_sem, simprocAttr, ↓dnA, Try.f107, rows_length, rows_get _ _ _ h, rows_get _ _ _ h2, encE, encBk, nn0, nlt h, nlt h2, he]
          refine ⟨i + 1, [], ⟨by omega, hp⟩, by dsimp only; omega, Weak.of (by rfl) trivial ?_ (by rfl)⟩
          simp (config := { maxSteps := 4000000 }) only [go_sem, simprocAttr, ↓dnA, Try.f107, wsucc h hx, frW, wk2, wk1, wkL, wkB, hpW, List.mem_cons, Prod.mk.injEq, exists_eq_left, exists_eq_right, exists_eq]
      · have : i = xs.length := by omega
        subst this
        rw [List.drop_length, List.drop_of_length_le (by omega)] at hp
        simp (config := { maxSteps := 4000000 }) only [go_sem, simprocAttr, ↓dnA, Try.f107, rows_length, nlf h, ← hp]
  · have hd : (((xs.length : Int) != (ys.length : Int))) = true := by simp; omega
    have hne : xs ≠ ys := fun e => hl (by rw [e])
    simp (config := { maxSteps := 4000000 }) only [go_sem, simprocAttr, ↓dnA, Try.f107, rows_length, hd, decide_eq_false hne]


theorem c_laws_eqActionS (n1 n2 : Option Bool) (xs ys : List Action) (hx : xs.length < 2 ^ 62) (hy : ys.length < 2 ^ 62)  :
    Det Try.prog 110 [.sl n1 (rows encA xs), .sl n2 (rows encA ys)] (.bool (decide (xs = ys))) := by
  refine fspec_det tab_ok Try.call110 Try.func110 rfl 27 Try.ntmps110 (of_decide_eq_true rfl) fun B => codeK_sound tab_ok _ _ _ ?_
  by_cases hl : xs.length = ys.length
  · have hd : (((xs.length : Int) != (ys.length : Int))) = false := by simp [hl]
    simp (config := { maxSteps := 4000000 }) only [go_sem, simprocAttr, ↓dnA, Try.f110, rows_length, hd]
    refine semL_for tab_ok (fun i : Nat => ⟨27, [(0, .sl n1 (rows encA xs)), (1, .sl n2 (rows encA ys)), (5, .int .i64 i)], []⟩) (fun i => xs.length - i)
      (fun i => i ≤ xs.length ∧ decide (xs.drop i = ys.drop i) = decide (xs = ys)) 0 [] (Weak.of (by rfl) trivial ?_ (by rfl)) ⟨by omega, rfl⟩ ?_
    · simp (config := { maxSteps := 4000000 }) only [go_sem, simprocAttr, ↓dnA, Try.f110, rows_length, frW, wk2, wk1, wkL, wkB, hpW, List.mem_cons, Prod.mk.injEq, exists_eq_left, exists_eq_right, exists_eq]
    · rintro i ⟨hi, hp⟩
      by_cases h : i < xs.length
      · have h2 : i < ys.length := by omega
        rw [eq_drop xs ys i hl h] at hp
        simp (config := { maxSteps := 4000000 }) only [go_sem, simprocAttr, ↓dnA, Try.f110, rows_length, nlt h]
        refine semL_draw tab_ok mixed_ rfl (ord := [(0, []), (1, []), (2, []), (3, []), (4, []), (5, []), (6, []), (7, []), (8, []), (9, [])]) (by dsimp only; decide +kernel) ?_
        simp (config := { maxSteps := 4000000 }) only [go_sem, simprocAttr, ↓dnA, Try.f110, rows_length, rows_get _ _ _ h, rows_get _ _ _ h2, encA, encBk, nn0, nlt h, nlt h2]
        refine CallTo.det (c_laws_eqAction xs[i] ys[i]) fun _ => ?_
        cases he : decide (xs[i] = ys[i]) with
        | false =>
          have he' : decide (xs[i] = ys[i]) = false := he
          rw [he', Bool.false_and] at hp
          simp (config := { maxSteps := 4000000 }) only [go_sem, simprocAttr, ↓dnA, Try.f110, rows_length, rows_get _ _ _ h, rows_get _ _ _ h2, encA, encBk, nn0, nlt h, nlt h2, he, ← hp]
        | true =>
          have he' : decide (xs[i] = ys[i]) = true := he
          rw [he', Bool.true_and] at hp
          simp (config := { maxSteps := 4000000 }) only [go_sem, simprocAttr, ↓dnA, Try.f110, rows_length, rows_get _ _ _ h, rows_get _ _ _ h2, encA, encBk, nn0, nlt h, nlt h2, he]
          refine ⟨i + 1, [], ⟨by omega, hp⟩, by dsimp only; omega, Weak.of (by rfl) trivial ?_ (by rfl)⟩
          simp (config := { maxSteps := 4000000 }) only [go_sem, simprocAttr, ↓dnA, Try.f110, wsucc h hx, frW, wk2, wk1, wkL, wkB, hpW, List.mem_cons, Prod.mk.injEq, exists_eq_left, exists_eq_right, exists_eq]
      · have : i = xs.length := by omega
        subst this
        rw [List.drop_length, List.drop_of_length_le (by omega)] at hp
        simp (config := { maxSteps := 4000000 }) only [go_sem, simprocAttr, ↓dnA, Try.f110, rows_length, nlf h, ← hp]
  · have hd : (((xs.length : Int) != (ys.length : Int))) = true := by simp; omega
    have hne : xs ≠ ys := fun e => hl (by rw [e])
    simp (config := { maxSteps := 4000000 }) only [go_sem, simprocAttr, ↓dnA, Try.f110, rows_length, hd, decide_eq_false hne]


theorem c_laws_eqBlock (n1 n2 : Option Bool) (b c : Block) (hx : b.list.length < 2 ^ 62) (hy : c.list.length < 2 ^ 62) : Det Try.prog 45 [.agg (encBk n1 b), .agg (encBk n2 c)] (.bool (decide (b = c))) := by
  refine fspec_det tab_ok Try.call45 Try.func45 rfl 36 Try.ntmps45 (of_decide_eq_true rfl) fun B => codeK_sound tab_ok _ _ _ ?_
  unfold encBk
  rw [← blkB]
  cases h1 : (b.before == c.before) with
  | false => simp (config := { maxSteps := 4000000 }) only [go_sem, simprocAttr, ↓dnA, Try.f45, bne, h1, sameB]
  | true =>
    cases h2 : (b.height == c.height) with
    | false => simp (config := { maxSteps := 4000000 }) only [go_sem, simprocAttr, ↓dnA, Try.f45, bne, h1, h2, sameB]
    | true =>
      cases h3 : (b.view == c.view) with
      | false => simp (config := { maxSteps := 4000000 }) only [go_sem, simprocAttr, ↓dnA, Try.f45, bne, h1, h2, h3, sameB]
      | true =>
        simp (config := { maxSteps := 4000000 }) only [go_sem, simprocAttr, ↓dnA, Try.f45, bne, h1, h2, h3]
        refine CallTo.det (c_laws_eqActionS _ _ _ _ hx hy) fun _ => ?_
        cases h6 : decide (b.list = c.list) with
        | false => simp (config := { maxSteps := 4000000 }) only [go_sem, simprocAttr, ↓dnA, Try.f45, bne, h1, h2, h3, h6, sameB]
        | true =>
          cases h4 : (b.root == c.root) with
          | false => simp (config := { maxSteps := 4000000 }) only [go_sem, simprocAttr, ↓dnA, Try.f45, bne, h1, h2, h3, h4, h6, sameB]
          | true =>
            cases h5 : (b.effects == c.effects) with
            | false => simp (config := { maxSteps := 4000000 }) only [go_sem, simprocAttr, ↓dnA, Try.f45, bne, h1, h2, h3, h4, h5, h6, sameB]
            | true => simp (config := { maxSteps := 4000000 }) only [go_sem, simprocAttr, ↓dnA, Try.f45, bne, h1, h2, h3, h4, h5, h6, sameB]

theorem c_laws_eqBlockS (n1 n2 : Option Bool) (xs ys : List Block) (hx : xs.length < 2 ^ 62) (hy : ys.length < 2 ^ 62) (hlx : ∀ b, b ∈ xs → b.list.length < 2 ^ 62) (hly : ∀ b, b ∈ ys → b.list.length < 2 ^ 62) :
    Det Try.prog 108 [.sl n1 (rows encB1 xs), .sl n2 (rows encB1 ys)] (.bool (decide (xs = ys))) := by
  refine fspec_det tab_ok Try.call108 Try.func108 rfl 27 Try.ntmps108 (of_decide_eq_true rfl) fun B => codeK_sound tab_ok _ _ _ ?_
  by_cases hl : xs.length = ys.length
  · have hd : (((xs.length : Int) != (ys.length : Int))) = false := by simp [hl]
    simp (config := { maxSteps := 4000000 }) only [go_sem, simprocAttr, ↓dnA, Try.f108, rows_length, hd]
    refine semL_for tab_ok (fun i : Nat => ⟨27, [(0, .sl n1 (rows encB1 xs)), (1, .sl n2 (rows encB1 ys)), (5, .int .i64 i)], []⟩) (fun i => xs.length - i)
      (fun i => i ≤ xs.length ∧ decide (xs.drop i = ys.drop i) = decide (xs = ys)) 0 [] (Weak.of (by rfl) trivial ?_ (by rfl)) ⟨by omega, rfl⟩ ?_
    · simp (config := { maxSteps := 4000000 }) only [go_sem, simprocAttr, ↓dnA, Try.f108, rows_length, frW, wk2, wk1, wkL, wkB, hpW, List.mem_cons, Prod.mk.injEq, exists_eq_left, exists_eq_right, exists_eq]
    · rintro i ⟨hi, hp⟩
      by_cases h : i < xs.length
      · have h2 : i < ys.length := by omega
        rw [eq_drop xs ys i hl h] at hp
        simp (config := { maxSteps := 4000000 }) only [go_sem, simprocAttr, ↓dnA, Try.f108, rows_length, nlt h]
        refine semL_draw tab_ok mixed_ rfl (ord := [(0, []), (1, []), (2, []), (3, []), (4, []), (5, []), (6, []), (7, []), (8, []), (9, [])]) (by dsimp only; decide +kernel) ?_
        simp (config := { maxSteps := 4000000 }) only [go_sem, simprocAttr, ↓dnA, Try.f108, rows_length, rows_get _ _ _ h, rows_get _ _ _ h2, encB1, encBk, nn0, nlt h, nlt h2]
        refine CallTo.det (c_laws_eqBlock none none xs[i] ys[i] (hlx _ (List.getElem_mem h)) (hly _ (List.getElem_mem h2))) fun _ => ?_
        cases he : decide (xs[i] = ys[i]) with
        | false =>
          have he' : decide (xs[i] = ys[i]) = false := he
          rw [he', Bool.false_and] at hp
          simp (config := { maxSteps := 4000000 }) only [go_sem, simprocAttr, ↓dnA, Try.f108, rows_length, rows_get _ _ _ h, rows_get _ _ _ h2, encB1, encBk, nn0, nlt h, nlt h2, he, ← hp]
        | true =>
          have he' : decide (xs[i] = ys[i]) = true := he
          rw [he', Bool.true_and] at hp
          simp (config := { maxSteps := 4000000 }) only [go_sem, simprocAttr, ↓dnA, Try.f108, rows_length, rows_get _ _ _ h, rows_get _ _ _ h2, encB1, encBk, nn0, nlt h, nlt h2, he]
          refine ⟨i + 1, [], ⟨by omega, hp⟩, by dsimp only; omega, Weak.of (by rfl) trivial ?_ (by rfl)⟩
          simp (config := { maxSteps := 4000000 }) only [go_sem, simprocAttr, ↓dnA, Try.f108, wsucc h hx, frW, wk2, wk1, wkL, wkB, hpW, List.mem_cons, Prod.mk.injEq, exists_eq_left, exists_eq_right, exists_eq]
      · have : i = xs.length := by omega
        subst this
        rw [List.drop_length, List.drop_of_length_le (by omega)] at hp
        simp (config := { maxSteps := 4000000 }) only [go_sem, simprocAttr, ↓dnA, Try.f108, rows_length, nlf h, ← hp]
  · have hd : (((xs.length : Int) != (ys.length : Int))) = true := by simp; omega
    have hne : xs ≠ ys := fun e => hl (by rw [e])
    simp (config := { maxSteps := 4000000 }) only [go_sem, simprocAttr, ↓dnA, Try.f108, rows_length, hd, decide_eq_false hne]


theorem c_laws_eqIntS (n1 n2 : Option Bool) (xs ys : List Int) (hx : xs.length < 2 ^ 62) (hy : ys.length < 2 ^ 62) :
    Det Try.prog 109 [.sl n1 (rows encI xs), .sl n2 (rows encI ys)] (.bool (decide (xs = ys))) := by
  refine fspec_det tab_ok Try.call109 Try.func109 rfl 26 Try.ntmps109 (of_decide_eq_true rfl) fun B => codeK_sound tab_ok _ _ _ ?_
  by_cases hl : xs.length = ys.length
  · have hd : (((xs.length : Int) != (ys.length : Int))) = false := by simp [hl]
    simp (config := { maxSteps := 4000000 }) only [go_sem, simprocAttr, ↓dnA, Try.f109, rows_length, hd]
    refine semL_for tab_ok (fun i : Nat => ⟨26, [(0, .sl n1 (rows encI xs)), (1, .sl n2 (rows encI ys)), (5, .int .i64 i)], []⟩) (fun i => xs.length - i)
      (fun i => i ≤ xs.length ∧ decide (xs.drop i = ys.drop i) = decide (xs = ys)) 0 [] (Weak.of (by rfl) trivial ?_ (by rfl)) ⟨by omega, rfl⟩ ?_
    · simp (config := { maxSteps := 4000000 }) only [go_sem, simprocAttr, ↓dnA, Try.f109, rows_length, frW, wk2, wk1, wkL, wkB, hpW, List.mem_cons, Prod.mk.injEq, exists_eq_left, exists_eq_right, exists_eq]
    · rintro i ⟨hi, hp⟩
      by_cases h : i < xs.length
      · have h2 : i < ys.length := by omega
        rw [eq_drop xs ys i hl h] at hp
        simp (config := { maxSteps := 4000000 }) only [go_sem, simprocAttr, ↓dnA, Try.f109, rows_length, nlt h]
        refine semL_still tab_ok mixed_ (by decide +kernel) ?_
        cases he : (xs[i] == ys[i]) with
        | false =>
          have he' : decide (xs[i] = ys[i]) = false := by simpa using he
          rw [he', Bool.false_and] at hp
          simp (config := { maxSteps := 4000000 }) only [go_sem, simprocAttr, ↓dnA, Try.f109, rows_length, rows_get _ _ _ h, rows_get _ _ _ h2, encI, nn0, nlt h, nlt h2, bne, he, ← hp]
        | true =>
          have he' : decide (xs[i] = ys[i]) = true := by simpa using he
          rw [he', Bool.true_and] at hp
          simp (config := { maxSteps := 4000000 }) only [go_sem, simprocAttr, ↓dnA, Try.f109, rows_length, rows_get _ _ _ h, rows_get _ _ _ h2, encI, nn0, nlt h, nlt h2, bne, he]
          refine ⟨i + 1, [], ⟨by omega, hp⟩, by dsimp only; omega, Weak.of (by rfl) trivial ?_ (by rfl)⟩
          simp (config := { maxSteps := 4000000 }) only [go_sem, simprocAttr, ↓dnA, Try.f109, wsucc h hx, frW, wk2, wk1, wkL, wkB, hpW, List.mem_cons, Prod.mk.injEq, exists_eq_left, exists_eq_right, exists_eq]
      · have : i = xs.length := by omega
        subst this
        rw [List.drop_length, List.drop_of_length_le (by omega)] at hp
        simp (config := { maxSteps := 4000000 }) only [go_sem, simprocAttr, ↓dnA, Try.f109, rows_length, nlf h, ← hp]
  · have hd : (((xs.length : Int) != (ys.length : Int))) = true := by simp; omega
    have hne : xs ≠ ys := fun e => hl (by rw [e])
    simp (config := { maxSteps := 4000000 }) only [go_sem, simprocAttr, ↓dnA, Try.f109, rows_length, hd, decide_eq_false hne]

theorem c_laws_eqBlockTree (n1 n2 n3 m1 m2 m3 : Option Bool) (t u : Tree) (hx : TreeSz t) (hy : TreeSz u) : Det Try.prog 44 [.agg (encT n1 n2 n3 t), .agg (encT m1 m2 m3 u)] (.bool (decide (t = u))) := by
  refine fspec_det tab_ok Try.call44 Try.func44 rfl 23 Try.ntmps44 (of_decide_eq_true rfl) fun B => codeK_sound tab_ok _ _ _ ?_
  unfold encT
  have he : decide (t = u) = (decide (t.base = u.base) && (decide (t.blocks = u.blocks) && decide (t.before = u.before))) := by
    obtain ⟨a, b, c⟩ := t
    obtain ⟨d, e, f⟩ := u
    rw [Bool.eq_iff_iff]
    simp only [Bool.and_eq_true, decide_eq_true_eq, Tree.mk.injEq]
  rw [he]
  simp (config := { maxSteps := 4000000 }) only [go_sem, simprocAttr, ↓dnA, Try.f44]
  refine CallTo.det (c_laws_eqEntryS _ _ _ _ hx.base hy.base) fun _ => ?_
  cases h1 : decide (t.base = u.base) with
  | false => simp (config := { maxSteps := 4000000 }) only [go_sem, simprocAttr, ↓dnA, Try.f44, h1]
  | true =>
    simp (config := { maxSteps := 4000000 }) only [go_sem, simprocAttr, ↓dnA, Try.f44, h1]
    refine CallTo.det (c_laws_eqBlockS _ _ _ _ hx.blocks hy.blocks hx.list hy.list) fun _ => ?_
    cases h2 : decide (t.blocks = u.blocks) with
    | false => simp (config := { maxSteps := 4000000 }) only [go_sem, simprocAttr, ↓dnA, Try.f44, h1, h2]
    | true =>
      simp (config := { maxSteps := 4000000 }) only [go_sem, simprocAttr, ↓dnA, Try.f44, h1, h2]
      refine CallTo.det (c_laws_eqIntS _ _ _ _ hx.before hy.before) fun _ => ?_
      cases h3 : decide (t.before = u.before) with
      | false => simp (config := { maxSteps := 4000000 }) only [go_sem, simprocAttr, ↓dnA, Try.f44, h1, h2, h3]
      | true => simp (config := { maxSteps := 4000000 }) only [go_sem, simprocAttr, ↓dnA, Try.f44, h1, h2, h3]

end Go.Proofs.Ytmibclbinebnjaa

