/- Shared texts H (part 6): W30, W31, W67, W70, W74, W77, W78, W79, W113, W72, W80, W73, W98, W65, W105, W110, W125, W76, W121, W129, W120, W104, W128, W75, W101, W122, W123, W132, W133, W134, W135, W136 -/
import Derived.Test.YthcfafpjkbbaoaaGreatH5

set_option linter.unusedSimpArgs false
set_option linter.unusedVariables false

/- Contracts: worlds, and when they are valid. -/
set_option linter.unusedSimpArgs false
set_option linter.unusedVariables false
set_option maxRecDepth 20000
set_option maxHeartbeats 4000000
namespace Go.Proofs.YthcfafpjkbbaoaaGreat
open Go Go.RowKit

structure Wld where
  tree : Tree
  voters : List Voter
  votes : List Int
deriving DecidableEq, Inhabited

def encW (n1 n2 n3 n4 n5 : Option Bool) (w : Wld) : List AV :=
  [.sl n1 (rows encE w.tree.base), .sl n2 (rows encB1 w.tree.blocks), .sl n3 (rows encI w.tree.before), .sl n4 (rows encV w.voters), .sl n5 (rows encI w.votes)]
structure WldSz (w : Wld) : Prop where
  tree : TreeSz w.tree
  voters : w.voters.length < 2 ^ 62
  votes : w.votes.length < 2 ^ 62

def voterOk (v : Voter) : Bool := voterValid v.last v.lock
noncomputable def worldValid (w : Wld) : Bool := ((((treeValid w.tree && decide (w.voters.length = 4)) && w.voters.all voterOk) && decide (w.votes.length = w.tree.blocks.length)) && w.votes.all fun n => inB n 0 15)

theorem c_impl_WorldValid1 (v : Voter) : Det Tryz.prog 77 [.agg (encV v)] (.bool (!voterOk v)) := by
  refine fspec_det tab_ok Tryz.call77 Tryz.func77 rfl 6 Tryz.ntmps77 (of_decide_eq_true rfl) fun B => codeK_sound tab_ok _ _ _ ?_
  simp (config := { maxSteps := 4000000 }) only [go_sem, simprocAttr, ↓dnA, Tryz.f77, encV]
  refine CallTo.det (c_impl_VoterValid _ _) fun _ => ?_
  simp (config := { maxSteps := 4000000 }) only [go_sem, simprocAttr, ↓dnA, Tryz.f77, encV, voterOk]

theorem c_impl_WorldValid2 (n : Int) : Det Tryz.prog 80 [.int .i64 n] (.bool (!inB n 0 15)) := by
  refine fspec_det tab_ok Tryz.call80 Tryz.func80 rfl 6 Tryz.ntmps80 (of_decide_eq_true rfl) fun B => codeK_sound tab_ok _ _ _ ?_
  simp (config := { maxSteps := 4000000 }) only [go_sem, simprocAttr, ↓dnA, Tryz.f80]
  refine CallTo.det (c_impl_isSigners _) fun _ => ?_
  simp (config := { maxSteps := 4000000 }) only [go_sem, simprocAttr, ↓dnA, Tryz.f80]

theorem c_slices_IndexFunc_Voter (n1 : Option Bool) (xs : List Voter) (k : FuncId) (p : Voter → Bool) (hx : xs.length < 2 ^ 62) (hm : mutB k = false) (hp : ∀ x, x ∈ xs → Det Tryz.prog k [.agg (encV x)] (.bool (p x))) :
    Det Tryz.prog 139 [.sl n1 (rows encV xs), .fn k []] (.int .i64 (idxF p xs 0)) := by
  simp only [mutB] at hm
  refine fspec_det tab_ok Tryz.call139 Tryz.func139 rfl 19 Tryz.ntmps139 (of_decide_eq_true rfl) fun B => codeK_sound tab_ok _ _ _ ?_
  simp (config := { maxSteps := 4000000 }) only [go_sem, simprocAttr, ↓dnA, Tryz.f139, rows_length, hm]
  refine semL_for tab_ok (fun i : Nat => ⟨19, [(0, .sl n1 (rows encV xs)), (1, .fn k []), (7, .int .i64 xs.length), (8, .int .i64 i)], []⟩) (fun i => xs.length - i)
    (fun i => i ≤ xs.length ∧ idxF p (xs.drop i) i = idxF p xs 0) 0 [] (Weak.of rfl trivial ?_ rfl) ⟨by omega, rfl⟩ ?_
  · simp (config := { maxSteps := 4000000 }) only [go_sem, simprocAttr, ↓dnA, Tryz.f139, frW, wk2, wk1, wkL, wkB, hpW, List.mem_cons, Prod.mk.injEq, exists_eq_left, exists_eq_right, exists_eq]
  · rintro i ⟨hi, hp'⟩
    by_cases h : i < xs.length
    · simp (config := { maxSteps := 4000000 }) only [go_sem, simprocAttr, ↓dnA, Tryz.f139, rows_length, rows_get _ _ _ h, encV, nlt h, nn0, hm]
      refine CallTo.det (hp _ (List.getElem_mem h)) fun _ => ?_
      rw [drop_cons xs i h] at hp'
      simp (config := { maxSteps := 4000000 }) only [go_sem, simprocAttr, ↓dnA, Tryz.f139, rows_length, rows_get _ _ _ h, encV, nlt h, hm]
      refine ⟨fun h => ?_, fun h' => ?_⟩
      · rw [← hp']; simp [idxF, h]
      · refine ⟨i + 1, [], ⟨by omega, ?_⟩, by dsimp only; omega, Weak.of rfl trivial ?_ rfl⟩
        · rw [← hp']; simp [idxF, h']
        · simp (config := { maxSteps := 4000000 }) only [go_sem, simprocAttr, ↓dnA, Tryz.f139, wsucc h hx, frW, wk2, wk1, wkL, wkB, hpW, List.mem_cons, Prod.mk.injEq, exists_eq_left, exists_eq_right, exists_eq]
    · have : i = xs.length := by omega
      subst this
      rw [List.drop_length] at hp'
      simp (config := { maxSteps := 4000000 }) only [go_sem, simprocAttr, ↓dnA, Tryz.f139, nlf h, hm]
      rw [← hp']
      rfl

theorem c_slices_ContainsFunc_Voter (n1 : Option Bool) (xs : List Voter) (k : FuncId) (p : Voter → Bool) (hx : xs.length < 2 ^ 62) (hm : mutB k = false) (hp : ∀ x, x ∈ xs → Det Tryz.prog k [.agg (encV x)] (.bool (p x))) :
    Det Tryz.prog 76 [.sl n1 (rows encV xs), .fn k []] (.bool (xs.any p)) := by
  refine fspec_det tab_ok Tryz.call76 Tryz.func76 rfl 9 Tryz.ntmps76 (of_decide_eq_true rfl) fun B => codeK_sound tab_ok _ _ _ ?_
  simp (config := { maxSteps := 4000000 }) only [go_sem, simprocAttr, ↓dnA, Tryz.f76]
  refine CallTo.det (c_slices_IndexFunc_Voter _ _ _ _ hx hm hp) fun _ => ?_
  simp (config := { maxSteps := 4000000 }) only [go_sem, simprocAttr, ↓dnA, Tryz.f76, idxF_any]


theorem eqN (a b : Nat) : (((a : Int)) == (b : Int)) = decide (a = b) := by
  rw [Bool.eq_iff_iff]; simp; omega

theorem eqN4 (a : Nat) : (((a : Int)) == 4) = decide (a = 4) := by
  rw [Bool.eq_iff_iff]; simp; omega

theorem c_impl_WorldValid (n1 n2 n3 n4 n5 : Option Bool) (w : Wld) (hx : WldSz w) : Det Tryz.prog 25 [.agg (encW n1 n2 n3 n4 n5 w)] (.bool (worldValid w)) := by
  refine fspec_det tab_ok Tryz.call25 Tryz.func25 rfl 34 Tryz.ntmps25 (of_decide_eq_true rfl) fun B => codeK_sound tab_ok _ _ _ ?_
  unfold worldValid
  have e1 : w.voters.any (fun v => !voterOk v) = !w.voters.all voterOk := any_not _ _
  have e2 : w.votes.any (fun n => !inB n 0 15) = !w.votes.all fun n => inB n 0 15 := any_not _ _
  simp (config := { maxSteps := 4000000 }) only [go_sem, simprocAttr, ↓dnA, Tryz.f25, encW]
  refine CallTo.det (c_impl_BlockTreeValid n1 n2 n3 w.tree hx.tree) fun _ => ?_
  cases h1 : treeValid w.tree with
  | false => simp (config := { maxSteps := 4000000 }) only [go_sem, simprocAttr, ↓dnA, Tryz.f25, h1]
  | true =>
    cases h2 : decide (w.voters.length = 4) with
    | false => simp (config := { maxSteps := 4000000 }) only [go_sem, simprocAttr, ↓dnA, Tryz.f25, h1, rows_length, eqN4, h2]
    | true =>
      simp (config := { maxSteps := 4000000 }) only [go_sem, simprocAttr, ↓dnA, Tryz.f25, h1, rows_length, eqN4, h2]
      refine CallTo.det (c_slices_ContainsFunc_Voter n4 w.voters _ _ hx.voters rfl fun v _ => c_impl_WorldValid1 v) fun _ => ?_
      cases h3 : w.voters.all voterOk with
      | false => simp (config := { maxSteps := 4000000 }) only [go_sem, simprocAttr, ↓dnA, Tryz.f25, h1, rows_length, eqN4, h2, e1, h3]
      | true =>
        cases h4 : decide (w.votes.length = w.tree.blocks.length) with
        | false => simp (config := { maxSteps := 4000000 }) only [go_sem, simprocAttr, ↓dnA, Tryz.f25, h1, rows_length, eqN4, h2, e1, h3, eqN, h4]
        | true =>
          simp (config := { maxSteps := 4000000 }) only [go_sem, simprocAttr, ↓dnA, Tryz.f25, h1, rows_length, eqN4, h2, e1, h3, eqN, h4]
          refine CallTo.det (c_slices_ContainsFunc_int n5 w.votes _ _ hx.votes rfl fun v _ => c_impl_WorldValid2 v) fun _ => ?_
          simp (config := { maxSteps := 4000000 }) only [go_sem, simprocAttr, ↓dnA, Tryz.f25, h1, rows_length, eqN4, h2, e1, h3, eqN, h4, e2, Bool.not_not]

theorem c_spec_WorldValid (n1 n2 n3 n4 n5 : Option Bool) (w : Wld) (hx : WldSz w) : Det Tryz.prog 45 [.agg (encW n1 n2 n3 n4 n5 w)] (.bool (worldValid w)) := by
  refine fspec_det tab_ok Tryz.call45 Tryz.func45 rfl 52 Tryz.ntmps45 (of_decide_eq_true rfl) fun B => codeK_sound tab_ok _ _ _ ?_
  have hf1 : w.voters.all voterOk = false → worldValid w = false := fun h => by unfold worldValid; rw [h]; simp
  have hf2 : w.votes.all (fun n => inB n 0 15) = false → worldValid w = false := fun h => by unfold worldValid; rw [h]; simp
  simp (config := { maxSteps := 4000000 }) only [go_sem, simprocAttr, ↓dnA, Tryz.f45, encW]
  refine semL_for tab_ok (fun i : Nat => ⟨52, [(1, .loc 1 0), (3, .int .i64 i)], [(1, .var (encW n1 n2 n3 n4 n5 w))]⟩) (fun i => w.voters.length - i)
    (fun i => i ≤ w.voters.length ∧ (w.voters.drop i).all voterOk = w.voters.all voterOk) 0 [(1, 1)] (Weak.of (by rfl) ?_ ?_ (by rfl)) ⟨by omega, rfl⟩ ?_
  · simp (config := { maxSteps := 4000000 }) only [go_sem, simprocAttr, ↓dnA, Tryz.f45, encW, frW, wk2, wk1, wkL, wkB, hpW, List.mem_cons, Prod.mk.injEq, exists_eq_left, exists_eq_right, exists_eq]
  · simp (config := { maxSteps := 4000000 }) only [go_sem, simprocAttr, ↓dnA, Tryz.f45, encW, frW, wk2, wk1, wkL, wkB, hpW, List.mem_cons, Prod.mk.injEq, exists_eq_left, exists_eq_right, exists_eq]
  rintro i ⟨hi, hp⟩
  by_cases h : i < w.voters.length
  · rw [drop_cons w.voters i h, List.all_cons] at hp
    simp (config := { maxSteps := 4000000 }) only [go_sem, simprocAttr, ↓dnA, Tryz.f45, encW, rows_length, rows_get _ _ _ h, encV, nlt h, nn0]
    refine CallTo.det (c_spec_VoterValid _ _) fun _ => ?_
    cases h1 : voterOk w.voters[i] with
    | false =>
      rw [h1, Bool.false_and] at hp
      have h1' : voterValid w.voters[i].last w.voters[i].lock = false := h1
      simp (config := { maxSteps := 4000000 }) only [go_sem, simprocAttr, ↓dnA, Tryz.f45, h1', hf1 hp.symm]
    | true =>
      rw [h1, Bool.true_and] at hp
      have h1' : voterValid w.voters[i].last w.voters[i].lock = true := h1
      simp (config := { maxSteps := 4000000 }) only [go_sem, simprocAttr, ↓dnA, Tryz.f45, h1']
      refine ⟨i + 1, [(1, 1)], ⟨by omega, hp⟩, by dsimp only; omega, Weak.of (by rfl) ?_ ?_ (by rfl)⟩
      · simp (config := { maxSteps := 4000000 }) only [go_sem, simprocAttr, ↓dnA, Tryz.f45, encW, frW, wk2, wk1, wkL, wkB, hpW, List.mem_cons, Prod.mk.injEq, exists_eq_left, exists_eq_right, exists_eq]
      · simp (config := { maxSteps := 4000000 }) only [go_sem, simprocAttr, ↓dnA, Tryz.f45, encW, wsucc h hx.voters, frW, wk2, wk1, wkL, wkB, hpW, List.mem_cons, Prod.mk.injEq, exists_eq_left, exists_eq_right, exists_eq]
  have hi' : i = w.voters.length := by omega
  subst hi'
  simp only [List.drop_length, List.all_nil] at hp
  simp (config := { maxSteps := 4000000 }) only [go_sem, simprocAttr, ↓dnA, Tryz.f45, encW, rows_length, nlf h]
  refine semL_for tab_ok (fun i : Nat => ⟨52, [(1, .loc 1 0), (4, .int .i64 i)], [(1, .var (encW n1 n2 n3 n4 n5 w))]⟩) (fun i => w.votes.length - i)
    (fun i => i ≤ w.votes.length ∧ (w.votes.drop i).all (fun n => inB n 0 15) = w.votes.all fun n => inB n 0 15) 0 [(1, 1)] (Weak.of (by rfl) ?_ ?_ (by rfl)) ⟨by omega, rfl⟩ ?_
  · simp (config := { maxSteps := 4000000 }) only [go_sem, simprocAttr, ↓dnA, Tryz.f45, encW, frW, wk2, wk1, wkL, wkB, hpW, List.mem_cons, Prod.mk.injEq, exists_eq_left, exists_eq_right, exists_eq]
  · simp (config := { maxSteps := 4000000 }) only [go_sem, simprocAttr, ↓dnA, Tryz.f45, encW, frW, wk2, wk1, wkL, wkB, hpW, List.mem_cons, Prod.mk.injEq, exists_eq_left, exists_eq_right, exists_eq]
  rintro i ⟨hi, hq⟩
  by_cases h : i < w.votes.length
  · rw [drop_cons w.votes i h, List.all_cons] at hq
    simp (config := { maxSteps := 4000000 }) only [go_sem, simprocAttr, ↓dnA, Tryz.f45, encW, rows_length, rows_get _ _ _ h, encI, nlt h, nn0]
    refine CallTo.det (c_l1In _ _ _) fun _ => ?_
    cases h1 : inB w.votes[i] 0 15 with
    | false =>
      rw [h1, Bool.false_and] at hq
      simp (config := { maxSteps := 4000000 }) only [go_sem, simprocAttr, ↓dnA, Tryz.f45, h1, hf2 hq.symm]
    | true =>
      rw [h1, Bool.true_and] at hq
      simp (config := { maxSteps := 4000000 }) only [go_sem, simprocAttr, ↓dnA, Tryz.f45, h1]
      refine ⟨i + 1, [(1, 1)], ⟨by omega, hq⟩, by dsimp only; omega, Weak.of (by rfl) ?_ ?_ (by rfl)⟩
      · simp (config := { maxSteps := 4000000 }) only [go_sem, simprocAttr, ↓dnA, Tryz.f45, encW, frW, wk2, wk1, wkL, wkB, hpW, List.mem_cons, Prod.mk.injEq, exists_eq_left, exists_eq_right, exists_eq]
      · simp (config := { maxSteps := 4000000 }) only [go_sem, simprocAttr, ↓dnA, Tryz.f45, encW, wsucc h hx.votes, frW, wk2, wk1, wkL, wkB, hpW, List.mem_cons, Prod.mk.injEq, exists_eq_left, exists_eq_right, exists_eq]
  have hi' : i = w.votes.length := by omega
  subst hi'
  simp only [List.drop_length, List.all_nil] at hq
  have hw : worldValid w = ((treeValid w.tree && decide (w.voters.length = 4)) && decide (w.votes.length = w.tree.blocks.length)) := by
    unfold worldValid; rw [← hp, ← hq]; simp
  rw [hw]
  simp (config := { maxSteps := 4000000 }) only [go_sem, simprocAttr, ↓dnA, Tryz.f45, encW, rows_length, nlf h]
  refine CallTo.det (c_spec_BlockTreeValid n1 n2 n3 w.tree hx.tree) fun _ => ?_
  cases h1 : treeValid w.tree with
  | false => simp (config := { maxSteps := 4000000 }) only [go_sem, simprocAttr, ↓dnA, Tryz.f45, encW, h1]
  | true =>
    cases h2 : decide (w.voters.length = 4) with
    | false => simp (config := { maxSteps := 4000000 }) only [go_sem, simprocAttr, ↓dnA, Tryz.f45, encW, h1, rows_length, eqN4, h2]
    | true => simp (config := { maxSteps := 4000000 }) only [go_sem, simprocAttr, ↓dnA, Tryz.f45, encW, h1, rows_length, eqN4, h2, eqN]

end Go.Proofs.YthcfafpjkbbaoaaGreat

/- Contracts: FnExactWorldValid. -/
set_option linter.unusedSimpArgs false
set_option linter.unusedVariables false
set_option maxRecDepth 20000
set_option maxHeartbeats 4000000
namespace Go.Proofs.YthcfafpjkbbaoaaGreat
open Go Go.RowKit

/-- How much a world is. -/
def wsz (w : Wld) : Nat := tsz w.tree + w.voters.length + w.votes.length
structure WldS32 (w : Wld) : Prop where
  sum : wsz w ≤ 1048576
theorem WldS32.tree {w : Wld} (h : WldS32 w) : TreeS32 w.tree := ⟨by have := h.sum; unfold wsz at this; omega⟩
theorem WldS32.voters {w : Wld} (h : WldS32 w) : w.voters.length < 2 ^ 32 := by have := h.sum; unfold wsz at this; omega
theorem WldS32.votes {w : Wld} (h : WldS32 w) : w.votes.length < 2 ^ 32 := by have := h.sum; unfold wsz at this; omega

theorem WldS32.sz {w : Wld} (h : WldS32 w) : WldSz w := ⟨h.tree.sz, by have := h.voters; omega, by have := h.votes; omega⟩

end Go.Proofs.YthcfafpjkbbaoaaGreat

/- Contracts: copies, sizes, tests and marks of certificates, bools, worlds. -/
set_option linter.unusedSimpArgs false
set_option linter.unusedVariables false
set_option maxRecDepth 20000
set_option maxHeartbeats 4000000
namespace Go.Proofs.YthcfafpjkbbaoaaGreat
open Go Go.RowKit

def encBo (b : Bool) : List AV := [.bool b]
end Go.Proofs.YthcfafpjkbbaoaaGreat

/- Worlds: new ones, their certificates, what is committed in them: plain. -/
set_option linter.unusedSimpArgs false
set_option linter.unusedVariables false
set_option maxRecDepth 20000
set_option maxHeartbeats 4000000
namespace Go.Proofs.YthcfafpjkbbaoaaGreat
open Go Go.RowKit

def noW : Wld := ⟨⟨[], [], []⟩, [], []⟩
noncomputable def worldOf (t : Tree) : Wld := if treeValid t then ⟨t, List.replicate 4 ⟨0, 0⟩, List.replicate t.blocks.length 0⟩ else noW
def encWF (w : Wld) : List AV :=
  [.osl false 2 (rows encE w.tree.base), .osl false 6 (rows encB1 w.tree.blocks), .osl false 1 (rows encI w.tree.before), .osl false 2 (rows encV w.voters), .osl false 1 (rows encI w.votes)]

theorem worldValid_parts {w : Wld} (h : worldValid w = true) : TreeOk w.tree ∧ w.voters.length = 4 ∧ (∀ v, v ∈ w.voters → voterOk v = true) ∧ w.votes.length = w.tree.blocks.length ∧ ∀ n, n ∈ w.votes → 0 ≤ n ∧ n ≤ 15 := by
  unfold worldValid at h
  simp only [Bool.and_eq_true, decide_eq_true_eq, List.all_eq_true] at h
  exact ⟨treeOk_of h.1.1.1.1, h.1.1.1.2, h.1.1.2, h.1.2, fun n hn => inB_iff.1 (h.2 n hn)⟩

/-! Valid trees and worlds are small. -/
theorem tb_ent {lo : Int} : ∀ {s : List Entry} {last : Int}, -1 ≤ last → entOk lo last s = true → s = [] ∨ (s.length : Int) ≤ 31 - last
  | [], _, _, _ => .inl rfl
  | e :: r, last, hl, h => by
    simp only [entOk, Bool.and_eq_true, inB_iff] at h
    obtain ⟨⟨h1, h2⟩, h3⟩ := h
    rcases tb_ent (by omega) h3 with e1 | e1
    · subst e1; right; simp only [List.length_cons, List.length_nil]; omega
    · right; rw [List.length_cons]; omega
theorem tb_store {s : List Entry} (h : storeValid s = true) : s.length ≤ 32 := by
  rcases tb_ent (by omega) h with e | e
  · subst e; simp
  · omega
theorem tb_list {b : Block} (h : blockValid b = true) : b.list.length ≤ 10 := by
  unfold blockValid at h
  simp only [Bool.and_eq_true] at h
  obtain ⟨⟨⟨⟨⟨_, _⟩, _⟩, _⟩, _⟩, h6⟩ := h
  unfold actionsValid at h6
  rw [Bool.and_eq_true] at h6
  exact of_decide_eq_true h6.1
theorem tb_lsum : ∀ (bs : List Block), (∀ b, b ∈ bs → b.list.length ≤ 10) → lsum bs ≤ 10 * bs.length
  | [], _ => Nat.le_refl _
  | b :: r, h => by
    have h1 := h b (List.mem_cons_self ..)
    have h2 := tb_lsum r fun c hc => h c (List.mem_cons_of_mem _ hc)
    unfold lsum
    rw [List.length_cons]
    omega
theorem treeOk_tsz {t : Tree} (ht : TreeOk t) : tsz t ≤ 200 := by
  have h1 := tb_store ht.store
  have h2 := ht.len
  have h3 := ht.bef
  have h4 := tb_lsum t.blocks fun b hb => by
    obtain ⟨i, hi, rfl⟩ := List.getElem_of_mem hb
    rw [t.blk_get i hi]
    exact tb_list (ht.valid i hi)
  unfold tsz; omega
theorem tb_s32 {t : Tree} (ht : TreeOk t) : TreeS32 t := ⟨by have := treeOk_tsz ht; omega⟩
theorem worldOk_wsz {w : Wld} (h : worldValid w = true) : wsz w ≤ 218 := by
  obtain ⟨ht, h4, _, hl, _⟩ := worldValid_parts h
  have h1 := treeOk_tsz ht
  have h2 := ht.len
  unfold wsz; omega
theorem worldOk_s32 {w : Wld} (h : worldValid w = true) : WldS32 w := ⟨by have := worldOk_wsz h; omega⟩

/-- The certificate of the block k. -/
def certAt (w : Wld) (k : Nat) : Cert := ⟨blockSum (w.tree.blk k), (w.tree.blk k).view, w.votes.getD k 0⟩
/-- The certificates of the first k blocks. -/
def certsTo (w : Wld) : Nat → List Cert
  | 0 => []
  | k + 1 => if 0 < k ∧ 0 < w.votes.getD k 0 then certsTo w k ++ [certAt w k] else certsTo w k
noncomputable def worldCerts (w : Wld) : List Cert := if worldValid w then certsTo w w.votes.length else []

theorem certsTo_len (w : Wld) : ∀ k, (certsTo w k).length ≤ k - 1
  | 0 => by simp [certsTo]
  | k + 1 => by
    have := certsTo_len w k
    unfold certsTo
    split
    · rename_i h
      simp; omega
    · omega

noncomputable def headW (w : Wld) : Int := committedTo w.tree (certsTo w w.votes.length)
noncomputable def worldHead (w : Wld) : Int := if worldValid w then headW w else -1

theorem headW_bd {w : Wld} (h : worldValid w = true) : 0 ≤ headW w ∧ headW w < w.tree.blocks.length := by
  obtain ⟨ht, h4, hv, hl, hs⟩ := worldValid_parts h
  have hlen := ht.len
  have hc := certsTo_len w w.votes.length
  obtain ⟨e1, e2⟩ := certified_ne (treeValid_true ht) (cs := certsTo w w.votes.length) (by omega)
  unfold headW committedTo
  rw [if_neg e2]
  exact bestF_bd w.tree w.tree.blocks.length _ 0 (headsL_bd _ _) (by omega)

end Go.Proofs.YthcfafpjkbbaoaaGreat

/- Contracts: copies of worlds, new worlds, their certificates and heads. -/
set_option linter.unusedSimpArgs false
set_option linter.unusedVariables false
set_option maxRecDepth 20000
set_option maxHeartbeats 4000000
namespace Go.Proofs.YthcfafpjkbbaoaaGreat
open Go Go.RowKit

theorem rows_rep {α : Type} (e : α → List AV) (n : Nat) (x : α) : rows e (List.replicate n x) = List.replicate n (e x) := by simp [rows]
theorem c_impl_World_clone (n1 n2 n3 n4 n5 : Option Bool) (w : Wld) (hx : TreeS32 w.tree) (h1 : w.voters.length < 2 ^ 32) (h2 : w.votes.length < 2 ^ 32) :
    Det Tryz.prog 107 [.agg (encW n1 n2 n3 n4 n5 w)] (.agg (encWF w)) := by
  refine fspec_det tab_ok Tryz.call107 Tryz.func107 rfl 13 Tryz.ntmps107 (of_decide_eq_true rfl) fun B => codeK_sound tab_ok _ _ _ ?_
  have a1 := all_rows encI AV.flat (fun _ => rfl) w.votes
  have a2 := all_rows encI AV.one (fun _ => rfl) w.votes
  have a3 := sz0_rows encI 1 (fun _ => rfl) w.votes
  have b1 := all_rows encV AV.flat (fun _ => rfl) w.voters
  have b2 := all_rows encV AV.one (fun _ => rfl) w.voters
  have b3 := sz0_rows encV 2 (fun _ => rfl) w.voters
  unfold encW encWF
  simp (config := { maxSteps := 4000000 }) only [go_sem, simprocAttr, ↓dnA, Tryz.f107, rows_length]
  refine semL_draw tab_ok mixed_ rfl (ord := [(0, []), (1, []), (3, []), (4, []), (6, []), (7, []), (2, [3, 4, 6, 7]), (5, [6, 7]), (8, []), (9, []), (10, [])]) (by dsimp only; decide +kernel) ?_
  simp (config := { maxSteps := 4000000 }) only [go_sem, simprocAttr, ↓dnA, Tryz.f107, rows_length]
  refine CallTo.det (c_impl_Tree_clone n1 n2 n3 w.tree hx) fun _ => ?_
  simp (config := { maxSteps := 4000000 }) only [go_sem, simprocAttr, ↓dnA, Tryz.f107, rows_length, encTF]
  repeat refine And.intro (by first | omega | (simp; done) | (simp; omega) | assumption) ?_
  omega

theorem c_spec_l18Copy (n1 n2 n3 n4 n5 : Option Bool) (w : Wld) (hx : TreeS32 w.tree) (h1 : w.voters.length < 2 ^ 32) (h2 : w.votes.length < 2 ^ 32) :
    Det Tryz.prog 109 [.agg (encW n1 n2 n3 n4 n5 w)] (.agg (encWF w)) := by
  refine fspec_det tab_ok Tryz.call109 Tryz.func109 rfl 15 Tryz.ntmps109 (of_decide_eq_true rfl) fun B => codeK_sound tab_ok _ _ _ ?_
  have a1 := all_rows encI AV.flat (fun _ => rfl) w.votes
  have a2 := all_rows encI AV.one (fun _ => rfl) w.votes
  have a3 := sz0_rows encI 1 (fun _ => rfl) w.votes
  have b1 := all_rows encV AV.flat (fun _ => rfl) w.voters
  have b2 := all_rows encV AV.one (fun _ => rfl) w.voters
  have b3 := sz0_rows encV 2 (fun _ => rfl) w.voters
  unfold encW encWF
  simp (config := { maxSteps := 4000000 }) only [go_sem, simprocAttr, ↓dnA, Tryz.f109, rows_length]
  refine semL_draw tab_ok mixed_ rfl (ord := [(0, []), (1, []), (4, []), (5, []), (8, []), (9, []), (2, [4, 5, 8, 9]), (3, [0, 1, 4, 5, 8, 9]), (6, [8, 9]), (7, [0, 1, 4, 5, 8, 9]), (10, []), (11, []), (12, [])]) (by dsimp only; decide +kernel) ?_
  simp (config := { maxSteps := 4000000 }) only [go_sem, simprocAttr, ↓dnA, Tryz.f109, rows_length]
  refine CallTo.det (c_spec_l13Copy n1 n2 n3 w.tree hx) fun _ => ?_
  simp (config := { maxSteps := 4000000 }) only [go_sem, simprocAttr, ↓dnA, Tryz.f109, rows_length, encTF]
  repeat refine And.intro (by first | omega | (simp; done) | (simp; omega) | assumption) ?_
  omega

theorem c_impl_WorldOf (n1 n2 n3 : Option Bool) (t : Tree) (hx : TreeS32 t) : Det Tryz.prog 21 [.agg (encT n1 n2 n3 t)] (.agg (encWF (worldOf t))) := by
  refine fspec_det tab_ok Tryz.call21 Tryz.func21 rfl 15 Tryz.ntmps21 (of_decide_eq_true rfl) fun B => codeK_sound tab_ok _ _ _ ?_
  unfold worldOf
  have hb := hx.blocks
  simp (config := { maxSteps := 4000000 }) only [go_sem, simprocAttr, ↓dnA, Tryz.f21, rows_length, encT]
  refine CallTo.det (c_impl_BlockTreeValid n1 n2 n3 t hx.sz) fun _ => ?_
  cases h0 : treeValid t with
  | false => simp (config := { maxSteps := 4000000 }) only [go_sem, simprocAttr, ↓dnA, Tryz.f21, rows_length, encT, h0, noW, encWF, rows_nil]
  | true =>
    simp (config := { maxSteps := 4000000 }) only [go_sem, simprocAttr, ↓dnA, Tryz.f21, rows_length, encT, h0]
    refine semL_draw tab_ok mixed_ rfl (ord := [(0, []), (3, []), (4, []), (5, [6]), (1, [3, 4, 5, 6]), (2, [0, 3, 4, 5, 6]), (6, [0]), (7, []), (8, [])]) (by dsimp only; decide +kernel) ?_
    simp (config := { maxSteps := 4000000 }) only [go_sem, simprocAttr, ↓dnA, Tryz.f21, rows_length, encT, h0]
    refine ⟨by omega, ?_⟩
    refine CallTo.det (c_impl_Tree_clone n1 n2 n3 t hx) fun _ => ?_
    simp (config := { maxSteps := 4000000 }) only [go_sem, simprocAttr, ↓dnA, Tryz.f21, rows_length, encT, encTF, h0, encWF, rows_rep, encV, encI, List.length_replicate]
    repeat refine And.intro (by first | omega | (simp; done) | (simp; omega) | assumption) ?_
    rfl

theorem c_spec_WorldOf (n1 n2 n3 : Option Bool) (t : Tree) (hx : TreeS32 t) : Det Tryz.prog 23 [.agg (encT n1 n2 n3 t)] (.agg (encWF (worldOf t))) := by
  refine fspec_det tab_ok Tryz.call23 Tryz.func23 rfl 15 Tryz.ntmps23 (of_decide_eq_true rfl) fun B => codeK_sound tab_ok _ _ _ ?_
  unfold worldOf
  have hb := hx.blocks
  simp (config := { maxSteps := 4000000 }) only [go_sem, simprocAttr, ↓dnA, Tryz.f23, rows_length, encT]
  refine CallTo.det (c_spec_BlockTreeValid n1 n2 n3 t hx.sz) fun _ => ?_
  cases h0 : treeValid t with
  | false => simp (config := { maxSteps := 4000000 }) only [go_sem, simprocAttr, ↓dnA, Tryz.f23, rows_length, encT, h0, noW, encWF, rows_nil]
  | true =>
    simp (config := { maxSteps := 4000000 }) only [go_sem, simprocAttr, ↓dnA, Tryz.f23, rows_length, encT, h0]
    refine semL_draw tab_ok mixed_ rfl (ord := [(0, []), (3, []), (4, []), (5, [6]), (1, [3, 4, 5, 6]), (2, [0, 3, 4, 5, 6]), (6, [0]), (7, []), (8, [])]) (by dsimp only; decide +kernel) ?_
    simp (config := { maxSteps := 4000000 }) only [go_sem, simprocAttr, ↓dnA, Tryz.f23, rows_length, encT, h0]
    refine ⟨by omega, ?_⟩
    refine CallTo.det (c_spec_l13Copy n1 n2 n3 t hx) fun _ => ?_
    simp (config := { maxSteps := 4000000 }) only [go_sem, simprocAttr, ↓dnA, Tryz.f23, rows_length, encT, encTF, h0, encWF, rows_rep, encV, encI, List.length_replicate]
    repeat refine And.intro (by first | omega | (simp; done) | (simp; omega) | assumption) ?_
    rfl

end Go.Proofs.YthcfafpjkbbaoaaGreat

/- Contracts: votes in worlds. -/
set_option linter.unusedSimpArgs false
set_option linter.unusedVariables false
set_option maxRecDepth 20000
set_option maxHeartbeats 4000000
namespace Go.Proofs.YthcfafpjkbbaoaaGreat
open Go Go.RowKit

/-- Whether the member m is in a mask; the mask with it. -/
def hasB (v : Int) (m : Nat) : Bool := (v / 2 ^ m) % 2 == 1
def orB (v : Int) (m : Nat) : Int := if hasB v m then v else v + 2 ^ m
def andI (a b : Int) : Int := IntKind.i64.wrap ((BitVec.ofInt 64 a &&& BitVec.ofInt 64 b).toNat : Nat)
def orI (a b : Int) : Int := IntKind.i64.wrap ((BitVec.ofInt 64 a ||| BitVec.ofInt 64 b).toNat : Nat)
theorem intK_and (a b : Int) (K : AV → Prop) : intK .and .i64 .i64 a b K = K (.int .i64 (andI a b)) := propext ⟨fun h => h.2, fun h => ⟨rfl, h⟩⟩
theorem intK_or (a b : Int) (K : AV → Prop) : intK .or .i64 .i64 a b K = K (.int .i64 (orI a b)) := propext ⟨fun h => h.2, fun h => ⟨rfl, h⟩⟩
theorem maskF : ∀ (a : Fin 16) (m : Fin 4), (andI ((a.val : Int).fdiv (2 ^ min m.val 64)) 1 == 1) = hasB a.val m.val ∧
    ((((a.val : Int).fdiv (2 ^ min m.val 64)).tmod 2 == 1) = hasB a.val m.val) ∧
    orI (a.val : Int) (IntKind.i64.wrap (1 * 2 ^ min m.val 64)) = orB a.val m.val ∧
    0 ≤ orB a.val m.val ∧ orB a.val m.val ≤ 15 := by decide +kernel
theorem mask_facts {v : Int} (h : 0 ≤ v ∧ v ≤ 15) {m : Nat} (hm : m < 4) : (andI (v.fdiv (2 ^ min m 64)) 1 == 1) = hasB v m ∧
    (((v.fdiv (2 ^ min m 64)).tmod 2 == 1) = hasB v m) ∧
    orI v (IntKind.i64.wrap (1 * 2 ^ min m 64)) = orB v m ∧ 0 ≤ orB v m ∧ orB v m ≤ 15 := by
  obtain ⟨a, rfl⟩ : ∃ a : Nat, v = (a : Int) := ⟨v.toNat, by omega⟩
  exact maskF ⟨a, by omega⟩ ⟨m, hm⟩

/-- Which blocks are certified by their votes. -/
def certW (w : Wld) : List Bool := (List.range w.votes.length).map fun i => i == 0 || decide (many (w.votes.getD i 0) ≥ 3)
theorem certW_len (w : Wld) : (certW w).length = w.votes.length := by simp [certW]
theorem certW_get (w : Wld) (i : Nat) (h : i < w.votes.length) : (certW w).getD i false = (i == 0 || decide (many w.votes[i] ≥ 3)) := by
  have hg : w.votes.getD i 0 = w.votes[i] := by rw [List.getD_eq_getElem?_getD, List.getElem?_eq_getElem h]; rfl
  rw [List.getD_eq_getElem?_getD]
  unfold certW
  rw [List.getElem?_map, List.getElem?_range h]
  show (i == 0 || decide (many (w.votes.getD i 0) ≥ 3)) = _
  rw [hg]
theorem certW_take (w : Wld) (i : Nat) (h : i < w.votes.length) : (certW w).take (i + 1) = (certW w).take i ++ [(certW w).getD i false] := take_succ_getD _ i false (by rw [certW_len]; exact h)

def VoteOk (w : Wld) (m n : Int) : Prop := (0 ≤ m ∧ m ≤ 3) ∧ (1 ≤ n ∧ n < w.votes.length) ∧ hasB (w.votes.getD n.toNat 0) m.toNat = false
def voted (w : Wld) (m n : Int) : List Int := w.votes.set n.toNat (orB (w.votes.getD n.toNat 0) m.toNat)
noncomputable def voteR (w : Wld) (m n : Int) : Voter × Bool := voteFor (w.voters.getD m.toNat ⟨0, 0⟩) w.tree (certW w) n
open Classical in
/-- A world after a vote. -/
noncomputable def voteW (w : Wld) (m n : Int) : Wld × Bool :=
  if VoteOk w m n then (if m = 3 then (⟨w.tree, w.voters, voted w m n⟩, true) else if (voteR w m n).2 then (⟨w.tree, w.voters.set m.toNat (voteR w m n).1, voted w m n⟩, true) else (w, false)) else (w, false)

theorem voteW_no {w : Wld} {m n : Int} (h : ¬ VoteOk w m n) : voteW w m n = (w, false) := by unfold voteW; rw [if_neg h]
theorem voteW_3 {w : Wld} {m n : Int} (h : VoteOk w m n) (h3 : m = 3) : voteW w m n = (⟨w.tree, w.voters, voted w m n⟩, true) := by unfold voteW; rw [if_pos h, if_pos h3]
theorem voteW_yes {w : Wld} {m n : Int} (h : VoteOk w m n) (h3 : m ≠ 3) (hr : (voteR w m n).2 = true) : voteW w m n = (⟨w.tree, w.voters.set m.toNat (voteR w m n).1, voted w m n⟩, true) := by unfold voteW; rw [if_pos h, if_neg h3, if_pos hr]
theorem voteW_not {w : Wld} {m n : Int} (h : VoteOk w m n) (h3 : m ≠ 3) (hr : (voteR w m n).2 = false) : voteW w m n = (w, false) := by unfold voteW; rw [if_pos h, if_neg h3, hr]; rfl

theorem voteW_wsz (w : Wld) (m n : Int) : wsz (voteW w m n).1 = wsz w := by
  unfold voteW
  split
  · split
    · simp [wsz, voted]
    · split
      · simp [wsz, voted]
      · rfl
  · rfl

theorem voterOk_iff (v : Voter) : voterOk v = true ↔ (0 ≤ v.last ∧ v.last ≤ 1000) ∧ 0 ≤ v.lock ∧ v.lock ≤ 1000 := by
  unfold voterOk voterValid
  simp only [Bool.and_eq_true, decide_eq_true_eq]

theorem voteFor_valid {v : Voter} {t : Tree} {c : List Bool} {n : Int} (h : (voteFor v t c n).2 = true) : voterOk (voteFor v t c n).1 = true := by
  cases h0 : voterValid v.last v.lock with
  | false => unfold voteFor at h; rw [h0, if_neg Bool.false_ne_true] at h; cases h
  | true =>
    cases h1 : mayVote v t c n with
    | false => unfold voteFor at h; rw [h0, h1, if_pos rfl, if_neg Bool.false_ne_true] at h; cases h
    | true =>
      have hm := mayOk_of h1
      have hv := (voterOk_iff v).1 h0
      obtain ⟨j, k, rfl, hj, hjb, hkb, g1, g4, g2, hcase⟩ := voteFor_ok h0 h1
      have hbj := view_bd (hm.tree.valid j hj)
      rcases hcase with ⟨hb, hd, he⟩ | ⟨i, hi, hil, g5, he⟩
      · rw [he, voterOk_iff]
        exact ⟨hbj, hv.2⟩
      · have hbi := view_bd (hm.tree.valid i hil)
        rw [he, voterOk_iff]
        refine ⟨hbj, ?_⟩
        show 0 ≤ max v.lock (t.blk i).view ∧ max v.lock (t.blk i).view ≤ 1000
        omega

theorem voteW_valid {w : Wld} (h : worldValid w = true) (m n : Int) : worldValid (voteW w m n).1 = true := by
  obtain ⟨ht, h4, hvo, hvl, hvs⟩ := worldValid_parts h
  have mk : ∀ (vs : List Voter) (ns : List Int), vs.length = 4 → (∀ v, v ∈ vs → voterOk v = true) → ns.length = w.tree.blocks.length → (∀ n, n ∈ ns → 0 ≤ n ∧ n ≤ 15) → worldValid ⟨w.tree, vs, ns⟩ = true := by
    intro vs ns a1 a2 a3 a4
    unfold worldValid
    simp only [Bool.and_eq_true, decide_eq_true_eq, List.all_eq_true]
    exact ⟨⟨⟨⟨treeValid_true ht, a1⟩, a2⟩, a3⟩, fun n hn => inB_iff.2 (a4 n hn)⟩
  by_cases hok : VoteOk w m n
  · obtain ⟨⟨h1, h2⟩, ⟨h3, h5⟩, h6⟩ := hok
    have hnl : n.toNat < w.votes.length := by omega
    have hvb : 0 ≤ w.votes.getD n.toNat 0 ∧ w.votes.getD n.toNat 0 ≤ 15 := by
      rw [List.getD_eq_getElem?_getD, List.getElem?_eq_getElem hnl]
      exact hvs _ (List.getElem_mem hnl)
    have hor := (mask_facts hvb (m := m.toNat) (by omega)).2.2.2
    have hvd : ∀ x, x ∈ voted w m n → 0 ≤ x ∧ x ≤ 15 := fun x hx => by
      unfold voted at hx
      rcases List.mem_or_eq_of_mem_set hx with e | e
      · exact hvs x e
      · rw [e]; exact hor
    have hvdl : (voted w m n).length = w.tree.blocks.length := by unfold voted; rw [List.length_set]; exact hvl
    by_cases hm3 : m = 3
    · rw [voteW_3 ⟨⟨h1, h2⟩, ⟨h3, h5⟩, h6⟩ hm3]
      exact mk _ _ h4 hvo hvdl hvd
    · cases hr : (voteR w m n).2 with
      | false => rw [voteW_not ⟨⟨h1, h2⟩, ⟨h3, h5⟩, h6⟩ hm3 hr]; exact h
      | true =>
        rw [voteW_yes ⟨⟨h1, h2⟩, ⟨h3, h5⟩, h6⟩ hm3 hr]
        refine mk _ _ (by rw [List.length_set]; exact h4) (fun v hv => ?_) hvdl hvd
        rcases List.mem_or_eq_of_mem_set hv with e | e
        · exact hvo v e
        · rw [e]; exact voteFor_valid hr
  · rw [voteW_no hok]; exact h

theorem c_impl_isMember (x : Int) : Det Tryz.prog 152 [.int .i64 x] (.bool (inB x 0 3)) := by
  refine fspec_det tab_ok Tryz.call152 Tryz.func152 rfl 5 Tryz.ntmps152 (of_decide_eq_true rfl) fun B => codeK_sound tab_ok _ _ _ ?_
  simp (config := { maxSteps := 4000000 }) only [go_sem, simprocAttr, ↓dnA, Tryz.f152, rows_length, boolRows_length]
  refine CallTo.det (c_in _ _ _) fun _ => ?_
  simp (config := { maxSteps := 4000000 }) only [go_sem, simprocAttr, ↓dnA, Tryz.f152, rows_length, boolRows_length]

theorem c_spec_l18Certified (n1 n2 n3 n4 n5 : Option Bool) (w : Wld) (hvt : w.votes.length < 2 ^ 32) (hvs : ∀ n, n ∈ w.votes → 0 ≤ n ∧ n ≤ 15) :
    Det Tryz.prog 111 [.agg (encW n1 n2 n3 n4 n5 w)] (.osl true 1 (boolRows (certW w))) := by
  refine fspec_det tab_ok Tryz.call111 Tryz.func111 rfl 28 Tryz.ntmps111 (of_decide_eq_true rfl) fun B => codeK_sound tab_ok _ _ _ ?_
  simp (config := { maxSteps := 4000000 }) only [go_sem, simprocAttr, ↓dnA, Tryz.f111, rows_length, boolRows_length, encW]
  refine semL_for tab_ok (fun i : Nat => ⟨28, [(1, .loc 1 0), (3, .row 600 i), (4, .int .i64 i)], [(1, .var (encW n1 n2 n3 n4 n5 w)), (600, .row true true 1 (boolRows ((certW w).take i)))]⟩) (fun i => w.votes.length - i)
    (fun i => i ≤ w.votes.length) 0 [(1, 1), (5, 600)] (Weak.of (by rfl) ?_ ?_ (by rfl)) (by omega) ?_
  · simp (config := { maxSteps := 4000000 }) only [go_sem, simprocAttr, ↓dnA, Tryz.f111, rows_length, boolRows_length, encW, frW, wk2, wk1, wkL, wkB, hpW, List.mem_cons, Prod.mk.injEq, exists_eq_left, exists_eq_right, exists_eq]
    try rfl
  · simp (config := { maxSteps := 4000000 }) only [go_sem, simprocAttr, ↓dnA, Tryz.f111, rows_length, boolRows_length, nc0, frW, wk2, wk1, wkL, wkB, hpW, List.mem_cons, Prod.mk.injEq, exists_eq_left, exists_eq_right, exists_eq]
  · rintro i hi
    have hcl := certW_len w
    by_cases h : i < w.votes.length
    · have hw : IntKind.i64.wrap ((i : Int) + 1) = ((i + 1 : Nat) : Int) := wsucc h (by omega)
      have hg := certW_get w i h
      have hst := certW_take w i h
      have htl : ((certW w).take i).length = i := by rw [List.length_take]; omega
      have htk : (boolRows ((certW w).take i)).take i = boolRows ((certW w).take i) := by rw [List.take_of_length_le]; rw [boolRows_length, htl]; omega
      have hsn : ∀ b : Bool, boolRows ((certW w).take i) ++ [[.bool b]] = boolRows ((certW w).take i ++ [b]) := fun b => rows_snoc encBo _ b
      by_cases h0 : i = 0
      · have hz : ((i : Int) == 0) = true := by simp; omega
        have hgt : (certW w).getD i false = true := by rw [hg]; simp [h0]
        rw [hgt] at hst
        simp (config := { maxSteps := 4000000 }) only [go_sem, simprocAttr, ↓dnA, Tryz.f111, rows_length, boolRows_length, encW, nlt h, h, nn0, hz, htl, htk, hw]
        repeat refine And.intro (by first | omega | (simp; done) | (simp; omega) | assumption) ?_
        refine ⟨i + 1, [(1, 1), (26, 600)], by omega, by dsimp only; omega, Weak.of (by rfl) ?_ ?_ (by rfl)⟩
        · simp (config := { maxSteps := 4000000 }) only [go_sem, simprocAttr, ↓dnA, Tryz.f111, rows_length, boolRows_length, encW, hst, hsn, frW, wk2, wk1, wkL, wkB, hpW, List.mem_cons, Prod.mk.injEq, exists_eq_left, exists_eq_right, exists_eq]
        · simp (config := { maxSteps := 4000000 }) only [go_sem, simprocAttr, ↓dnA, Tryz.f111, rows_length, boolRows_length, frW, wk2, wk1, wkL, wkB, hpW, List.mem_cons, Prod.mk.injEq, exists_eq_left, exists_eq_right, exists_eq]
      · have hz : ((i : Int) == 0) = false := by simp; omega
        have hb := hvs _ (List.getElem_mem h)
        have hgt : (certW w).getD i false = decide (many w.votes[i] ≥ 3) := by rw [hg]; simp [h0]
        rw [hgt] at hst
        simp (config := { maxSteps := 4000000 }) only [go_sem, simprocAttr, ↓dnA, Tryz.f111, rows_length, boolRows_length, encW, nlt h, h, nn0, hz, rows_get _ _ _ h, encI]
        refine CallTo.det (c_spec_l15Many _ hb) fun _ => ?_
        simp (config := { maxSteps := 4000000 }) only [go_sem, simprocAttr, ↓dnA, Tryz.f111, rows_length, boolRows_length, encW, nlt h, h, nn0, hz, rows_get _ _ _ h, encI, htl, htk, hw]
        repeat refine And.intro (by first | omega | (simp; done) | (simp; omega) | assumption) ?_
        refine ⟨i + 1, [(1, 1), (26, 600)], by omega, by dsimp only; omega, Weak.of (by rfl) ?_ ?_ (by rfl)⟩
        · simp (config := { maxSteps := 4000000 }) only [go_sem, simprocAttr, ↓dnA, Tryz.f111, rows_length, boolRows_length, encW, hst, hsn, frW, wk2, wk1, wkL, wkB, hpW, List.mem_cons, Prod.mk.injEq, exists_eq_left, exists_eq_right, exists_eq]
        · simp (config := { maxSteps := 4000000 }) only [go_sem, simprocAttr, ↓dnA, Tryz.f111, rows_length, boolRows_length, frW, wk2, wk1, wkL, wkB, hpW, List.mem_cons, Prod.mk.injEq, exists_eq_left, exists_eq_right, exists_eq]
    · have hi' : i = w.votes.length := by omega
      subst hi'
      have htl : (certW w).take w.votes.length = certW w := by rw [List.take_of_length_le]; omega
      simp (config := { maxSteps := 4000000 }) only [go_sem, simprocAttr, ↓dnA, Tryz.f111, rows_length, boolRows_length, encW, nlf h, htl, hcl]

theorem c_impl_vote (w : Wld) (m n : Int) (hv : worldValid w = true) :
    DetB Tryz.prog 108 [.loc 0 0, .int .i64 m, .int .i64 n] (encWF w) (.bool (voteW w m n).2) (encWF (voteW w m n).1) := by
  refine fspec_detB tab_ok Tryz.call108 Tryz.func108 rfl 106 Tryz.ntmps108 (of_decide_eq_true rfl) fun B => codeK_sound tab_ok _ _ _ ?_
  obtain ⟨ht, h4, hvo, hvl, hvs⟩ := worldValid_parts hv
  have hs := worldOk_s32 hv
  have hlen := ht.len
  have hvt := hs.votes
  unfold encWF
  simp (config := { maxSteps := 4000000 }) only [go_sem, simprocAttr, ↓dnA, Tryz.f108, rows_length, boolRows_length]
  refine CallTo.det (c_impl_isMember _) fun _ => ?_
  cases q1 : inB m 0 3 with
  | false =>
    have hno := voteW_no (w := w) (m := m) (n := n) (fun e => by have := inB_iff.2 e.1; rw [q1] at this; cases this)
    simp (config := { maxSteps := 4000000 }) only [go_sem, simprocAttr, ↓dnA, Tryz.f108, rows_length, boolRows_length, q1, hno]
  | true =>
    have hm := inB_iff.1 q1
    obtain ⟨a, rfl⟩ : ∃ a : Nat, m = (a : Int) := ⟨m.toNat, by omega⟩
    simp (config := { maxSteps := 4000000 }) only [go_sem, simprocAttr, ↓dnA, Tryz.f108, rows_length, boolRows_length, q1]
    refine CallTo.det (c_impl_has none none none w.tree n hs.tree.sz) fun _ => ?_
    cases q2 : inB n 0 ((w.tree.blocks.length : Int) - 1) with
    | false =>
      have hno := voteW_no (w := w) (m := (a : Int)) (n := n) (fun e => by have h := e.2.1; have := inB_iff.2 (show 0 ≤ n ∧ n ≤ (w.tree.blocks.length : Int) - 1 by omega); rw [q2] at this; cases this)
      simp (config := { maxSteps := 4000000 }) only [go_sem, simprocAttr, ↓dnA, Tryz.f108, rows_length, boolRows_length, q1, q2, hno]
    | true =>
      have hn := inB_iff.1 q2
      obtain ⟨b, rfl⟩ : ∃ b : Nat, n = (b : Int) := ⟨n.toNat, by omega⟩
      have hbl : b < w.votes.length := by omega
      have hgb : w.votes.getD b 0 = w.votes[b] := by rw [List.getD_eq_getElem?_getD, List.getElem?_eq_getElem hbl]; rfl
      have hvb := hvs _ (List.getElem_mem hbl)
      have ha4 : a < 4 := by omega
      obtain ⟨k1, k2, k3, k4, k5⟩ := mask_facts hvb ha4
      by_cases hb0 : b = 0
      · have hz : ((b : Int) == 0) = true := by simp; omega
        have hno := voteW_no (w := w) (m := (a : Int)) (n := (b : Int)) (fun e => by have h := e.2.1; omega)
        simp (config := { maxSteps := 4000000 }) only [go_sem, simprocAttr, ↓dnA, Tryz.f108, rows_length, boolRows_length, q1, q2, hz, hno]
      · have hz : ((b : Int) == 0) = false := by simp; omega
        cases q3 : hasB w.votes[b] a with
        | true =>
          have hno := voteW_no (w := w) (m := (a : Int)) (n := (b : Int)) (fun e => by have h := e.2.2; rw [Int.toNat_natCast, Int.toNat_natCast, hgb, q3] at h; cases h)
          rw [q3] at k1
          simp (config := { maxSteps := 4000000 }) only [go_sem, simprocAttr, ↓dnA, Tryz.f108, rows_length, boolRows_length, q1, q2, hz, nlt hbl, hbl, nn0, rows_get _ _ _ hbl, encI, ↓intK_and, k1, hno]
        | false =>
          have hok : VoteOk w (a : Int) (b : Int) := ⟨hm, by omega, by rw [Int.toNat_natCast, Int.toNat_natCast, hgb]; exact q3⟩
          have hvd : voted w (a : Int) (b : Int) = w.votes.set b (orB w.votes[b] a) := by unfold voted; rw [Int.toNat_natCast, Int.toNat_natCast, hgb]
          have hrs : (rows encI w.votes).set b [.int .i64 (orB w.votes[b] a)] = rows encI (w.votes.set b (orB w.votes[b] a)) := by rw [← rows_set]; rfl
          rw [q3] at k1
          by_cases hm3 : (a : Int) = 3
          · have hne : ((a : Int) != 3) = false := by simp [hm3]
            have hr := voteW_3 hok hm3
            rw [hvd] at hr
            simp (config := { maxSteps := 4000000 }) only [go_sem, simprocAttr, ↓dnA, Tryz.f108, rows_length, boolRows_length, q1, q2, hz, nlt hbl, hbl, nn0, rows_get _ _ _ hbl, encI, ↓intK_and, k1, hne]
            refine semL_draw tab_ok mixed_ rfl (ord := [(0, []), (1, []), (2, []), (3, []), (4, []), (5, []), (6, []), (7, []), (8, []), (9, []), (10, []), (11, [])]) (by dsimp only; decide +kernel) ?_
            simp (config := { maxSteps := 4000000 }) only [go_sem, simprocAttr, ↓dnA, Tryz.f108, rows_length, boolRows_length, q1, q2, hz, nlt hbl, hbl, nn0, rows_get _ _ _ hbl, encI, ↓intK_and, k1, hne, ↓intK_or, k3, spliceL, hr, hrs, List.length_set]
          · have hne : ((a : Int) != 3) = true := by simp [hm3]
            simp (config := { maxSteps := 4000000 }) only [go_sem, simprocAttr, ↓dnA, Tryz.f108, rows_length, boolRows_length, q1, q2, hz, nlt hbl, hbl, nn0, rows_get _ _ _ hbl, encI, ↓intK_and, k1, hne]
            repeat refine And.intro (by first | omega | (simp; done) | (simp; omega) | assumption) ?_
            refine semL_for tab_ok (fun i : Nat => ⟨106, [(0, .loc 900 0), (1, .int .i64 a), (2, .int .i64 b), (7, .row 600 w.votes.length), (52, .row 905 w.votes.length), (53, .int .i64 w.votes.length), (54, .int .i64 i)],
                [(900, .var [.row 901 w.tree.base.length, .row 902 w.tree.blocks.length, .row 903 w.tree.before.length, .row 904 w.voters.length, .row 905 w.votes.length]),
                  (901, .row true false 2 (rows encE w.tree.base)), (902, .row true false 6 (rows encB1 w.tree.blocks)), (903, .row true false 1 (rows encI w.tree.before)), (904, .row true false 2 (rows encV w.voters)), (905, .row true false 1 (rows encI w.votes)),
                  (600, .row true true 1 (boolRows ((certW w).take i ++ List.replicate (w.votes.length - i) false)))]⟩) (fun i => w.votes.length - i)
              (fun i => i ≤ w.votes.length) 0 [(900, 900), (901, 901), (902, 902), (903, 903), (904, 904), (905, 905), (48, 600)] (Weak.of (by rfl) ?_ ?_ (by rfl)) (by omega) ?_
            · simp (config := { maxSteps := 4000000 }) only [go_sem, simprocAttr, ↓dnA, Tryz.f108, rows_length, boolRows_length, List.take_zero, List.nil_append, Nat.sub_zero, boolRows_rep, frW, wk2, wk1, wkL, wkB, hpW, List.mem_cons, Prod.mk.injEq, exists_eq_left, exists_eq_right, exists_eq]
            · simp (config := { maxSteps := 4000000 }) only [go_sem, simprocAttr, ↓dnA, Tryz.f108, rows_length, boolRows_length, nc0, frW, wk2, wk1, wkL, wkB, hpW, List.mem_cons, Prod.mk.injEq, exists_eq_left, exists_eq_right, exists_eq]
            · rintro i hi
              have hcl := certW_len w
              have hll : ((certW w).take i ++ List.replicate (w.votes.length - i) false).length = w.votes.length := by rw [List.length_append, List.length_take, List.length_replicate]; omega
              by_cases h : i < w.votes.length
              · have hw : IntKind.i64.wrap ((i : Int) + 1) = ((i + 1 : Nat) : Int) := wsucc h (by omega)
                have hg := certW_get w i h
                have hfs := fill_step (certW w) false false i (by omega)
                have hgl := boolRows_get ((certW w).take i ++ List.replicate (w.votes.length - i) false) i (by rw [hll]; exact h)
                rw [hcl] at hfs
                by_cases h0 : i = 0
                · have hz0 : ((i : Int) == 0) = true := by simp; omega
                  have hgt : (certW w).getD i false = true := by rw [hg]; simp [h0]
                  rw [hgt] at hfs
                  simp (config := { maxSteps := 4000000 }) only [go_sem, simprocAttr, ↓dnA, Tryz.f108, rows_length, boolRows_length, nlt h, h, nn0, hz0, rows_get _ _ _ h, encI, hll, hgl, spliceL, List.length_set, hw]
                  refine ⟨i + 1, [(900, 900), (901, 901), (902, 902), (903, 903), (904, 904), (905, 905), (600, 600)], by omega, by dsimp only; omega, Weak.of (by rfl) ?_ ?_ (by rfl)⟩
                  · simp (config := { maxSteps := 4000000 }) only [go_sem, simprocAttr, ↓dnA, Tryz.f108, rows_length, boolRows_length, boolRows_set, hfs, frW, wk2, wk1, wkL, wkB, hpW, List.mem_cons, Prod.mk.injEq, exists_eq_left, exists_eq_right, exists_eq]
                  · simp (config := { maxSteps := 4000000 }) only [go_sem, simprocAttr, ↓dnA, Tryz.f108, rows_length, boolRows_length, frW, wk2, wk1, wkL, wkB, hpW, List.mem_cons, Prod.mk.injEq, exists_eq_left, exists_eq_right, exists_eq]
                · have hz0 : ((i : Int) == 0) = false := by simp; omega
                  have hbi := hvs _ (List.getElem_mem h)
                  have hgt : (certW w).getD i false = decide (many w.votes[i] ≥ 3) := by rw [hg]; simp [h0]
                  rw [hgt] at hfs
                  simp (config := { maxSteps := 4000000 }) only [go_sem, simprocAttr, ↓dnA, Tryz.f108, rows_length, boolRows_length, nlt h, h, nn0, hz0, rows_get _ _ _ h, encI]
                  refine CallTo.det (c_impl_enough _ hbi) fun _ => ?_
                  simp (config := { maxSteps := 4000000 }) only [go_sem, simprocAttr, ↓dnA, Tryz.f108, rows_length, boolRows_length, nlt h, h, nn0, hz0, rows_get _ _ _ h, encI, hll, hgl, spliceL, List.length_set, hw]
                  refine ⟨i + 1, [(900, 900), (901, 901), (902, 902), (903, 903), (904, 904), (905, 905), (600, 600)], by omega, by dsimp only; omega, Weak.of (by rfl) ?_ ?_ (by rfl)⟩
                  · simp (config := { maxSteps := 4000000 }) only [go_sem, simprocAttr, ↓dnA, Tryz.f108, rows_length, boolRows_length, boolRows_set, hfs, frW, wk2, wk1, wkL, wkB, hpW, List.mem_cons, Prod.mk.injEq, exists_eq_left, exists_eq_right, exists_eq]
                  · simp (config := { maxSteps := 4000000 }) only [go_sem, simprocAttr, ↓dnA, Tryz.f108, rows_length, boolRows_length, frW, wk2, wk1, wkL, wkB, hpW, List.mem_cons, Prod.mk.injEq, exists_eq_left, exists_eq_right, exists_eq]
              · have hi' : i = w.votes.length := by omega
                subst hi'
                have htl : (certW w).take w.votes.length ++ List.replicate (w.votes.length - w.votes.length) false = certW w := by rw [Nat.sub_self, List.take_of_length_le (by omega)]; simp
                have hav : a < w.voters.length := by omega
                have hgv : w.voters.getD a ⟨0, 0⟩ = w.voters[a] := by rw [List.getD_eq_getElem?_getD, List.getElem?_eq_getElem hav]; rfl
                have hre : voteR w (a : Int) (b : Int) = voteFor w.voters[a] w.tree (certW w) (b : Int) := by unfold voteR; rw [Int.toNat_natCast, hgv]
                have ev : encV w.voters[a] = [.int .i64 w.voters[a].last, .int .i64 w.voters[a].lock] := rfl
                simp (config := { maxSteps := 4000000 }) only [go_sem, simprocAttr, ↓dnA, Tryz.f108, rows_length, boolRows_length, nlf h, htl, hcl]
                refine semL_draw tab_ok mixed_ rfl (ord := [(0, []), (1, []), (2, []), (3, []), (4, []), (5, []), (6, []), (7, []), (8, []), (9, []), (10, []), (11, []), (12, []), (13, []), (14, []), (15, []), (16, []), (17, [0, 1, 2, 3, 4, 5, 6, 7, 8, 9, 10, 11, 12, 14, 15, 16]), (18, [16]), (19, [])]) (by dsimp only; decide +kernel) ?_
                simp (config := { maxSteps := 4000000 }) only [go_sem, simprocAttr, ↓dnA, Tryz.f108, rows_length, boolRows_length, nlf h, htl, hcl, nlt hav, hav, nn0, rows_get _ _ _ hav, ev]
                refine CallTo.det (c_impl_VoteFor none none none (some true) w.voters[a] w.tree (certW w) (b : Int) hs.tree.sz (by omega)) fun _ => ?_
                have hy := voteW_yes hok hm3
                have hnt := voteW_not hok hm3
                rw [hre, hvd] at hy
                rw [hre] at hnt
                generalize voteFor w.voters[a] w.tree (certW w) (b : Int) = r at hy hnt
                obtain ⟨x, ok⟩ := r
                dsimp only at hy hnt ⊢
                cases ok with
                | false =>
                  have hnt := hnt rfl
                  simp (config := { maxSteps := 4000000 }) only [go_sem, simprocAttr, ↓dnA, Tryz.f108, rows_length, boolRows_length, nlf h, htl, hcl, nlt hav, hav, nn0, rows_get _ _ _ hav, ev, encV, hnt]
                | true =>
                  have hy := hy rfl
                  rw [Int.toNat_natCast] at hy
                  have hrv : (rows encV w.voters).set a [.int .i64 x.last, .int .i64 x.lock] = rows encV (w.voters.set a x) := by rw [← rows_set]; rfl
                  simp (config := { maxSteps := 4000000 }) only [go_sem, simprocAttr, ↓dnA, Tryz.f108, rows_length, boolRows_length, nlf h, htl, hcl, nlt hav, hav, nn0, rows_get _ _ _ hav, encV]
                  refine semL_draw tab_ok mixed_ rfl (ord := [(0, []), (1, []), (2, []), (3, []), (4, []), (5, []), (6, []), (7, [])]) (by dsimp only; decide +kernel) ?_
                  simp (config := { maxSteps := 4000000 }) only [go_sem, simprocAttr, ↓dnA, Tryz.f108, rows_length, boolRows_length, nlf h, htl, hcl, nlt hav, hav, nn0, rows_get _ _ _ hav, encV, spliceL, List.length_set]
                  refine semL_draw tab_ok mixed_ rfl (ord := [(0, []), (1, []), (2, []), (3, []), (4, []), (5, []), (6, []), (7, []), (8, []), (9, []), (10, []), (11, [])]) (by dsimp only; decide +kernel) ?_
                  simp (config := { maxSteps := 4000000 }) only [go_sem, simprocAttr, ↓dnA, Tryz.f108, rows_length, boolRows_length, nlf h, htl, hcl, nlt hav, hav, nlt hbl, hbl, nn0, rows_get _ _ _ hbl, encI, encV, ↓intK_or, k3, spliceL, hy, hrs, hrv, List.length_set]

end Go.Proofs.YthcfafpjkbbaoaaGreat

/- Contracts: worlds after a vote. -/
set_option linter.unusedSimpArgs false
set_option linter.unusedVariables false
set_option maxRecDepth 20000
set_option maxHeartbeats 4000000
namespace Go.Proofs.YthcfafpjkbbaoaaGreat
open Go Go.RowKit

noncomputable def worldVote (w : Wld) (m n : Int) : Wld × Bool := if worldValid w then voteW w m n else (noW, false)
theorem worldVote_yes {w : Wld} (h : worldValid w = true) (m n : Int) : worldVote w m n = voteW w m n := by unfold worldVote; rw [if_pos h]
theorem worldVote_no {w : Wld} (h : worldValid w = false) (m n : Int) : worldVote w m n = (noW, false) := by unfold worldVote; rw [h]; rfl
theorem noW_wsz : wsz noW = 0 := by simp [noW, wsz, tsz, lsum]
theorem worldVote_wsz (w : Wld) (m n : Int) : wsz (worldVote w m n).1 ≤ wsz w := by
  cases h : worldValid w with
  | false => rw [worldVote_no h]; show wsz noW ≤ _; rw [noW_wsz]; omega
  | true => rw [worldVote_yes h, voteW_wsz]; exact Nat.le_refl _

theorem c_impl_WorldVote (n1 n2 n3 n4 n5 : Option Bool) (w : Wld) (m n : Int) (hx : WldSz w) :
    Det Tryz.prog 35 [.agg (encW n1 n2 n3 n4 n5 w), .int .i64 m, .int .i64 n] (.tup [.agg (encWF (worldVote w m n).1), .bool (worldVote w m n).2]) := by
  refine fspec_det tab_ok Tryz.call35 Tryz.func35 rfl 21 Tryz.ntmps35 (of_decide_eq_true rfl) fun B => codeK_sound tab_ok _ _ _ ?_
  simp (config := { maxSteps := 4000000 }) only [go_sem, simprocAttr, ↓dnA, Tryz.f35, rows_length, encW, encWF]
  refine CallTo.det (c_impl_WorldValid n1 n2 n3 n4 n5 w hx) fun _ => ?_
  cases h0 : worldValid w with
  | false => simp (config := { maxSteps := 4000000 }) only [go_sem, simprocAttr, ↓dnA, Tryz.f35, rows_length, encW, encWF, h0, worldVote_no h0, noW, rows_nil]
  | true =>
    have hs := worldOk_s32 h0
    rw [worldVote_yes h0]
    simp (config := { maxSteps := 4000000 }) only [go_sem, simprocAttr, ↓dnA, Tryz.f35, rows_length, encW, encWF, h0]
    refine CallTo.det (c_impl_World_clone n1 n2 n3 n4 n5 w hs.tree hs.voters hs.votes) fun _ => ?_
    simp (config := { maxSteps := 4000000 }) only [go_sem, simprocAttr, ↓dnA, Tryz.f35, rows_length, encW, encWF, h0]
    refine CallTo.detB (c_impl_vote w m n h0) ?_
    generalize voteW w m n = r
    obtain ⟨w', ok⟩ := r
    simp (config := { maxSteps := 4000000 }) only [go_sem, simprocAttr, ↓dnA, Tryz.f35, rows_length, encW, encWF, h0]

theorem c_spec_WorldVote (n1 n2 n3 n4 n5 : Option Bool) (w : Wld) (m n : Int) (hx : WldSz w) :
    Det Tryz.prog 36 [.agg (encW n1 n2 n3 n4 n5 w), .int .i64 m, .int .i64 n] (.tup [.agg (encWF (worldVote w m n).1), .bool (worldVote w m n).2]) := by
  refine fspec_det tab_ok Tryz.call36 Tryz.func36 rfl 78 Tryz.ntmps36 (of_decide_eq_true rfl) fun B => codeK_sound tab_ok _ _ _ ?_
  simp (config := { maxSteps := 4000000 }) only [go_sem, simprocAttr, ↓dnA, Tryz.f36, rows_length, encW, encWF]
  refine CallTo.det (c_spec_WorldValid n1 n2 n3 n4 n5 w hx) fun _ => ?_
  cases h0 : worldValid w with
  | false => simp (config := { maxSteps := 4000000 }) only [go_sem, simprocAttr, ↓dnA, Tryz.f36, rows_length, encW, encWF, h0, worldVote_no h0, noW, rows_nil]
  | true =>
    have hs := worldOk_s32 h0
    obtain ⟨ht, h4, hvo, hvl, hvs⟩ := worldValid_parts h0
    have hlen := ht.len
    have hw : IntKind.i64.wrap ((w.votes.length : Int) - 1) = (w.votes.length : Int) - 1 := wrap_small _ (by omega) (by omega)
    rw [worldVote_yes h0]
    simp (config := { maxSteps := 4000000 }) only [go_sem, simprocAttr, ↓dnA, Tryz.f36, rows_length, encW, encWF, h0]
    refine CallTo.det (c_spec_l18Copy n1 n2 n3 n4 n5 w hs.tree hs.voters hs.votes) fun _ => ?_
    simp (config := { maxSteps := 4000000 }) only [go_sem, simprocAttr, ↓dnA, Tryz.f36, rows_length, encW, encWF, h0, hw]
    refine CallTo.det (c_l1In _ _ _) fun _ => ?_
    cases q1 : inB m 0 3 with
    | false =>
      have hno := voteW_no (w := w) (m := m) (n := n) (fun e => by have := inB_iff.2 e.1; rw [q1] at this; cases this)
      simp (config := { maxSteps := 4000000 }) only [go_sem, simprocAttr, ↓dnA, Tryz.f36, rows_length, encW, encWF, h0, hw, q1, hno]
    | true =>
      have hm := inB_iff.1 q1
      obtain ⟨a, rfl⟩ : ∃ a : Nat, m = (a : Int) := ⟨m.toNat, by omega⟩
      simp (config := { maxSteps := 4000000 }) only [go_sem, simprocAttr, ↓dnA, Tryz.f36, rows_length, encW, encWF, h0, hw, q1]
      refine CallTo.det (c_l1In _ _ _) fun _ => ?_
      cases q2 : inB n 1 ((w.votes.length : Int) - 1) with
      | false =>
        have hno := voteW_no (w := w) (m := (a : Int)) (n := n) (fun e => by have h := e.2.1; have := inB_iff.2 (show 1 ≤ n ∧ n ≤ (w.votes.length : Int) - 1 by omega); rw [q2] at this; cases this)
        simp (config := { maxSteps := 4000000 }) only [go_sem, simprocAttr, ↓dnA, Tryz.f36, rows_length, encW, encWF, h0, hw, q1, q2, hno]
      | true =>
        have hn := inB_iff.1 q2
        obtain ⟨b, rfl⟩ : ∃ b : Nat, n = (b : Int) := ⟨n.toNat, by omega⟩
        have hbl : b < w.votes.length := by omega
        have hgb : w.votes.getD b 0 = w.votes[b] := by rw [List.getD_eq_getElem?_getD, List.getElem?_eq_getElem hbl]; rfl
        have hvb := hvs _ (List.getElem_mem hbl)
        have ha4 : a < 4 := by omega
        obtain ⟨k1, k2, k3, k4, k5⟩ := mask_facts hvb ha4
        cases q3 : hasB w.votes[b] a with
        | true =>
          have hno := voteW_no (w := w) (m := (a : Int)) (n := (b : Int)) (fun e => by have h := e.2.2; rw [Int.toNat_natCast, Int.toNat_natCast, hgb, q3] at h; cases h)
          rw [q3] at k2
          simp (config := { maxSteps := 4000000 }) only [go_sem, simprocAttr, ↓dnA, Tryz.f36, rows_length, encW, encWF, h0, hw, q1, q2, nlt hbl, hbl, nn0, rows_get _ _ _ hbl, encI, k2, hno]
        | false =>
          have hok : VoteOk w (a : Int) (b : Int) := ⟨hm, by omega, by rw [Int.toNat_natCast, Int.toNat_natCast, hgb]; exact q3⟩
          have hvd : voted w (a : Int) (b : Int) = w.votes.set b (orB w.votes[b] a) := by unfold voted; rw [Int.toNat_natCast, Int.toNat_natCast, hgb]
          have hrs : (rows encI w.votes).set b [.int .i64 (orB w.votes[b] a)] = rows encI (w.votes.set b (orB w.votes[b] a)) := by rw [← rows_set]; rfl
          rw [q3] at k2
          by_cases hm3 : (a : Int) = 3
          · have hne : decide ((a : Int) < 3) = false := by simp; omega
            have hr := voteW_3 hok hm3
            rw [hvd] at hr
            simp (config := { maxSteps := 4000000 }) only [go_sem, simprocAttr, ↓dnA, Tryz.f36, rows_length, encW, encWF, h0, hw, q1, q2, nlt hbl, hbl, nn0, rows_get _ _ _ hbl, encI, k2, hne]
            refine semL_draw tab_ok mixed_ rfl (ord := [(0, []), (1, []), (2, []), (3, []), (4, []), (5, []), (6, []), (7, []), (8, []), (9, []), (10, []), (11, []), (12, [])]) (by dsimp only; decide +kernel) ?_
            simp (config := { maxSteps := 4000000 }) only [go_sem, simprocAttr, ↓dnA, Tryz.f36, rows_length, encW, encWF, h0, hw, q1, q2, nlt hbl, hbl, nn0, rows_get _ _ _ hbl, encI, k2, hne, ↓intK_or, k3, spliceL, hr, hrs, List.length_set]
          · have hne : decide ((a : Int) < 3) = true := by simp; omega
            have hav : a < w.voters.length := by omega
            have hgv : w.voters.getD a ⟨0, 0⟩ = w.voters[a] := by rw [List.getD_eq_getElem?_getD, List.getElem?_eq_getElem hav]; rfl
            have hre : voteR w (a : Int) (b : Int) = voteFor w.voters[a] w.tree (certW w) (b : Int) := by unfold voteR; rw [Int.toNat_natCast, hgv]
            have ev : encV w.voters[a] = [.int .i64 w.voters[a].last, .int .i64 w.voters[a].lock] := rfl
            have hcl := certW_len w
            simp (config := { maxSteps := 4000000 }) only [go_sem, simprocAttr, ↓dnA, Tryz.f36, rows_length, encW, encWF, h0, hw, q1, q2, nlt hbl, hbl, nn0, rows_get _ _ _ hbl, encI, k2, hne]
            refine semL_draw tab_ok mixed_ rfl (ord := [(0, []), (1, []), (2, []), (3, []), (4, []), (5, []), (6, []), (7, []), (9, []), (8, [0, 1, 2, 3, 4, 5, 6, 9]), (10, []), (11, []), (12, []), (13, []), (14, [0, 1, 2, 3, 4, 5, 6, 7, 9, 11, 12, 13]), (15, [13]), (16, [])]) (by dsimp only; decide +kernel) ?_
            simp (config := { maxSteps := 4000000 }) only [go_sem, simprocAttr, ↓dnA, Tryz.f36, rows_length, encW, encWF, h0, hw, q1, q2, nlt hbl, hbl, nn0, rows_get _ _ _ hbl, encI, k2, hne, nlt hav, hav, rows_get _ _ _ hav, ev]
            refine CallTo.det (c_spec_l18Certified n1 n2 n3 n4 n5 w hs.votes hvs) fun _ => ?_
            simp (config := { maxSteps := 4000000 }) only [go_sem, simprocAttr, ↓dnA, Tryz.f36, rows_length, encW, encWF, h0, hw, q1, q2, nlt hbl, hbl, nn0, rows_get _ _ _ hbl, encI, k2, hne, nlt hav, hav, rows_get _ _ _ hav, ev]
            refine CallTo.det (c_spec_VoteFor n1 n2 n3 (some true) w.voters[a] w.tree (certW w) (b : Int) hs.tree.sz (by omega)) fun _ => ?_
            have hy := voteW_yes hok hm3
            have hnt := voteW_not hok hm3
            rw [hre, hvd] at hy
            rw [hre] at hnt
            generalize voteFor w.voters[a] w.tree (certW w) (b : Int) = r at hy hnt
            obtain ⟨x, ok⟩ := r
            dsimp only at hy hnt ⊢
            cases ok with
            | false =>
              have hnt := hnt rfl
              simp (config := { maxSteps := 4000000 }) only [go_sem, simprocAttr, ↓dnA, Tryz.f36, rows_length, encW, encWF, h0, hw, q1, q2, nlt hbl, hbl, nn0, rows_get _ _ _ hbl, encI, k2, hne, nlt hav, hav, rows_get _ _ _ hav, encV, hnt]
            | true =>
              have hy := hy rfl
              rw [Int.toNat_natCast] at hy
              have hrv : (rows encV w.voters).set a [.int .i64 x.last, .int .i64 x.lock] = rows encV (w.voters.set a x) := by rw [← rows_set]; rfl
              simp (config := { maxSteps := 4000000 }) only [go_sem, simprocAttr, ↓dnA, Tryz.f36, rows_length, encW, encWF, h0, hw, q1, q2, nlt hbl, hbl, nn0, rows_get _ _ _ hbl, encI, k2, hne, nlt hav, hav, rows_get _ _ _ hav, encV, spliceL, List.length_set]
              refine semL_draw tab_ok mixed_ rfl (ord := [(0, []), (1, []), (2, []), (3, []), (4, []), (5, []), (6, []), (7, []), (8, []), (9, []), (10, []), (11, []), (12, [])]) (by dsimp only; decide +kernel) ?_
              simp (config := { maxSteps := 4000000 }) only [go_sem, simprocAttr, ↓dnA, Tryz.f36, rows_length, encW, encWF, h0, hw, q1, q2, nlt hbl, hbl, nn0, rows_get _ _ _ hbl, encI, k2, hne, nlt hav, hav, rows_get _ _ _ hav, encV, ↓intK_or, k3, spliceL, hy, hrs, hrv, List.length_set]

end Go.Proofs.YthcfafpjkbbaoaaGreat

/- Contracts: worlds after votes. -/
set_option linter.unusedSimpArgs false
set_option linter.unusedVariables false
set_option maxRecDepth 20000
set_option maxHeartbeats 4000000
namespace Go.Proofs.YthcfafpjkbbaoaaGreat
open Go Go.RowKit

noncomputable def stepV (p : Wld × Int) (m : Int) : Wld × Int := ((voteW p.1 (m.tmod 4) (m.tdiv 4)).1, if (voteW p.1 (m.tmod 4) (m.tdiv 4)).2 then p.2 + 1 else p.2)
noncomputable def runW (w : Wld) (sc : List Int) : Wld × Int := sc.foldl stepV (w, 0)
def ScOk (sc : List Int) : Prop := sc.length ≤ 100 ∧ (sc.all fun m => inB m 0 1000) = true
open Classical in
noncomputable def worldRun (w : Wld) (sc : List Int) : Wld × Int := if worldValid w = true ∧ ScOk sc then runW w sc else (noW, -1)

theorem worldRun_yes {w : Wld} {sc : List Int} (h : worldValid w = true) (hs : ScOk sc) : worldRun w sc = runW w sc := by unfold worldRun; rw [if_pos ⟨h, hs⟩]
theorem worldRun_no {w : Wld} {sc : List Int} (h : ¬ (worldValid w = true ∧ ScOk sc)) : worldRun w sc = (noW, -1) := by unfold worldRun; rw [if_neg h]
theorem runW_take (w : Wld) (sc : List Int) (i : Nat) (h : i < sc.length) : runW w (sc.take (i + 1)) = stepV (runW w (sc.take i)) sc[i] := by
  unfold runW; rw [take_snoc _ _ h, List.foldl_append]; rfl
theorem runW_ok {w : Wld} (hv : worldValid w = true) (sc : List Int) : ∀ i, i ≤ sc.length → worldValid (runW w (sc.take i)).1 = true ∧ wsz (runW w (sc.take i)).1 = wsz w ∧ 0 ≤ (runW w (sc.take i)).2 ∧ (runW w (sc.take i)).2 ≤ i
  | 0, _ => ⟨hv, rfl, by simp [runW], by simp [runW]⟩
  | i + 1, hi => by
    obtain ⟨h1, h2, h3, h4⟩ := runW_ok hv sc i (by omega)
    rw [runW_take w sc i (by omega)]
    refine ⟨voteW_valid h1 _ _, ?_, ?_, ?_⟩
    · show wsz (voteW _ _ _).1 = _; rw [voteW_wsz, h2]
    · unfold stepV; dsimp only; split <;> omega
    · unfold stepV; dsimp only; split <;> omega
theorem worldRun_wsz (w : Wld) (sc : List Int) : wsz (worldRun w sc).1 ≤ wsz w := by
  unfold worldRun
  split
  · rename_i h
    have := (runW_ok h.1 sc sc.length (Nat.le_refl _)).2.1
    rw [List.take_length] at this
    omega
  · show wsz noW ≤ _; rw [noW_wsz]; omega

theorem c_impl_WorldRun1 (n : Int) : Det Tryz.prog 112 [.int .i64 n] (.bool (!inB n 0 1000)) := by
  refine fspec_det tab_ok Tryz.call112 Tryz.func112 rfl 6 Tryz.ntmps112 (of_decide_eq_true rfl) fun B => codeK_sound tab_ok _ _ _ ?_
  simp (config := { maxSteps := 4000000 }) only [go_sem, simprocAttr, ↓dnA, Tryz.f112, rows_length, encW, encWF]
  refine CallTo.det (c_in _ _ _) fun _ => ?_
  simp (config := { maxSteps := 4000000 }) only [go_sem, simprocAttr, ↓dnA, Tryz.f112, rows_length, encW, encWF]

theorem c_impl_WorldRun (n1 n2 n3 n4 n5 n6 : Option Bool) (w : Wld) (sc : List Int) (hx : WldSz w) (hsc : sc.length < 2 ^ 62) :
    Det Tryz.prog 38 [.agg (encW n1 n2 n3 n4 n5 w), .sl n6 (rows encI sc)] (.tup [.agg (encWF (worldRun w sc).1), .int .i64 (worldRun w sc).2]) := by
  refine fspec_det tab_ok Tryz.call38 Tryz.func38 rfl 41 Tryz.ntmps38 (of_decide_eq_true rfl) fun B => codeK_sound tab_ok _ _ _ ?_
  simp (config := { maxSteps := 4000000 }) only [go_sem, simprocAttr, ↓dnA, Tryz.f38, rows_length, encW, encWF]
  refine CallTo.det (c_impl_WorldValid n1 n2 n3 n4 n5 w hx) fun _ => ?_
  cases h0 : worldValid w with
  | false =>
    have hno := worldRun_no (w := w) (sc := sc) (fun e => by rw [h0] at e; cases e.1)
    simp (config := { maxSteps := 4000000 }) only [go_sem, simprocAttr, ↓dnA, Tryz.f38, rows_length, encW, encWF, h0, hno, noW, rows_nil]
  | true =>
    by_cases h100 : (sc.length : Int) > 100
    · have hno := worldRun_no (w := w) (sc := sc) (fun e => by have := e.2.1; omega)
      simp (config := { maxSteps := 4000000 }) only [go_sem, simprocAttr, ↓dnA, Tryz.f38, rows_length, encW, encWF, h0, decide_eq_true h100, hno, noW, rows_nil]
    · have d100 := decide_eq_false h100
      have e2 : sc.any (fun m => !inB m 0 1000) = !sc.all fun m => inB m 0 1000 := any_not _ _
      simp (config := { maxSteps := 4000000 }) only [go_sem, simprocAttr, ↓dnA, Tryz.f38, rows_length, encW, encWF, h0, d100]
      refine CallTo.det (c_slices_ContainsFunc_int n6 sc _ _ hsc rfl fun v _ => c_impl_WorldRun1 v) fun _ => ?_
      cases hal : (sc.all fun m => inB m 0 1000) with
      | false =>
        have hno := worldRun_no (w := w) (sc := sc) (fun e => by have := e.2.2; rw [hal] at this; cases this)
        simp (config := { maxSteps := 4000000 }) only [go_sem, simprocAttr, ↓dnA, Tryz.f38, rows_length, encW, encWF, h0, d100, e2, hal, hno, noW, rows_nil]
      | true =>
        have hs := worldOk_s32 h0
        rw [worldRun_yes h0 ⟨by omega, hal⟩]
        simp (config := { maxSteps := 4000000 }) only [go_sem, simprocAttr, ↓dnA, Tryz.f38, rows_length, encW, encWF, h0, d100, e2, hal]
        refine CallTo.det (c_impl_World_clone n1 n2 n3 n4 n5 w hs.tree hs.voters hs.votes) fun _ => ?_
        simp (config := { maxSteps := 4000000 }) only [go_sem, simprocAttr, ↓dnA, Tryz.f38, rows_length, encW, encWF, h0, d100, e2, hal]
        refine semL_for tab_ok (fun i : Nat => ⟨41, [(4, .loc 4 0), (6, .loc 6 0), (7, .int .i64 (runW w (sc.take i)).2), (25, .sl n6 (rows encI sc)), (26, .int .i64 sc.length), (27, .int .i64 i)],
            [(4, .var [.sl (some false) [], .sl (some false) [], .sl (some false) [], .sl (some false) [], .sl (some false) []]),
              (6, .var [.row 601 (runW w (sc.take i)).1.tree.base.length, .row 602 (runW w (sc.take i)).1.tree.blocks.length, .row 603 (runW w (sc.take i)).1.tree.before.length, .row 604 (runW w (sc.take i)).1.voters.length, .row 605 (runW w (sc.take i)).1.votes.length]),
              (601, .row true false 2 (rows encE (runW w (sc.take i)).1.tree.base)), (602, .row true false 6 (rows encB1 (runW w (sc.take i)).1.tree.blocks)), (603, .row true false 1 (rows encI (runW w (sc.take i)).1.tree.before)), (604, .row true false 2 (rows encV (runW w (sc.take i)).1.voters)), (605, .row true false 1 (rows encI (runW w (sc.take i)).1.votes))]⟩) (fun i => sc.length - i)
          (fun i => i ≤ sc.length) 0 [(4, 4), (6, 6), (25000, 601), (25001, 602), (25002, 603), (25003, 604), (25004, 605)] (Weak.of (by rfl) ?_ ?_ (by rfl)) (by omega) ?_
        · simp (config := { maxSteps := 4000000 }) only [go_sem, simprocAttr, ↓dnA, Tryz.f38, rows_length, encW, encWF, List.take_zero, runW, List.foldl_nil, frW, wk2, wk1, wkL, wkB, hpW, List.mem_cons, Prod.mk.injEq, exists_eq_left, exists_eq_right, exists_eq]
          try rfl
        · simp (config := { maxSteps := 4000000 }) only [go_sem, simprocAttr, ↓dnA, Tryz.f38, rows_length, encW, encWF, nc0, List.take_zero, runW, List.foldl_nil, frW, wk2, wk1, wkL, wkB, hpW, List.mem_cons, Prod.mk.injEq, exists_eq_left, exists_eq_right, exists_eq]
          try rfl
        · rintro i hi
          obtain ⟨r1, r2, r3, r4⟩ := runW_ok h0 sc i hi
          by_cases h : i < sc.length
          · have hw : IntKind.i64.wrap ((i : Int) + 1) = ((i + 1 : Nat) : Int) := wsucc h (by omega)
            have hst := runW_take w sc i h
            have hb := inB_iff.1 (List.all_eq_true.1 hal _ (List.getElem_mem h))
            generalize runW w (sc.take i) = p at r1 r2 r3 r4 hst
            obtain ⟨u, d⟩ := p
            dsimp only at r1 r2 r3 r4
            have t1 : IntKind.i64.wrap (sc[i].tdiv 4) = sc[i].tdiv 4 := by
              have : sc[i].tdiv 4 = sc[i] / 4 := Int.tdiv_eq_ediv_of_nonneg hb.1
              rw [this]
              exact wrap_small _ (by omega) (by omega)
            have hwd : IntKind.i64.wrap (d + 1) = d + 1 := wrap_small _ (by omega) (by omega)
            simp (config := { maxSteps := 4000000 }) only [go_sem, simprocAttr, ↓dnA, Tryz.f38, rows_length, encW, encWF, nlt h, h, nn0, rows_get _ _ _ h, encI, t1]
            refine CallTo.detB (c_impl_vote u (sc[i].tmod 4) (sc[i].tdiv 4) r1) ?_
            unfold stepV at hst
            dsimp only at hst
            generalize voteW u (sc[i].tmod 4) (sc[i].tdiv 4) = r at hst
            obtain ⟨x, ok⟩ := r
            dsimp only at hst
            cases ok with
            | false =>
              rw [if_neg Bool.false_ne_true] at hst
              simp (config := { maxSteps := 4000000 }) only [go_sem, simprocAttr, ↓dnA, Tryz.f38, rows_length, encW, encWF, nlt h, h, nn0, rows_get _ _ _ h, encI, t1, hw]
              refine ⟨i + 1, [(4, 4), (6, 6), (36500, 601), (36501, 602), (36502, 603), (36503, 604), (36504, 605)], by omega, by dsimp only; omega, Weak.of (by rfl) ?_ ?_ (by rfl)⟩
              · simp (config := { maxSteps := 4000000 }) only [go_sem, simprocAttr, ↓dnA, Tryz.f38, rows_length, encW, encWF, hst, frW, wk2, wk1, wkL, wkB, hpW, List.mem_cons, Prod.mk.injEq, exists_eq_left, exists_eq_right, exists_eq]
              · simp (config := { maxSteps := 4000000 }) only [go_sem, simprocAttr, ↓dnA, Tryz.f38, rows_length, encW, encWF, hst, frW, wk2, wk1, wkL, wkB, hpW, List.mem_cons, Prod.mk.injEq, exists_eq_left, exists_eq_right, exists_eq]
            | true =>
              rw [if_pos rfl] at hst
              simp (config := { maxSteps := 4000000 }) only [go_sem, simprocAttr, ↓dnA, Tryz.f38, rows_length, encW, encWF, nlt h, h, nn0, rows_get _ _ _ h, encI, t1, hwd, hw]
              refine ⟨i + 1, [(4, 4), (6, 6), (36500, 601), (36501, 602), (36502, 603), (36503, 604), (36504, 605)], by omega, by dsimp only; omega, Weak.of (by rfl) ?_ ?_ (by rfl)⟩
              · simp (config := { maxSteps := 4000000 }) only [go_sem, simprocAttr, ↓dnA, Tryz.f38, rows_length, encW, encWF, hst, frW, wk2, wk1, wkL, wkB, hpW, List.mem_cons, Prod.mk.injEq, exists_eq_left, exists_eq_right, exists_eq]
              · simp (config := { maxSteps := 4000000 }) only [go_sem, simprocAttr, ↓dnA, Tryz.f38, rows_length, encW, encWF, hst, frW, wk2, wk1, wkL, wkB, hpW, List.mem_cons, Prod.mk.injEq, exists_eq_left, exists_eq_right, exists_eq]
          · have hi' : i = sc.length := by omega
            subst hi'
            simp (config := { maxSteps := 4000000 }) only [go_sem, simprocAttr, ↓dnA, Tryz.f38, rows_length, encW, encWF, nlf h, List.take_length]

theorem c_spec_WorldRun (n1 n2 n3 n4 n5 n6 : Option Bool) (w : Wld) (sc : List Int) (hx : WldSz w) (hsc : sc.length < 2 ^ 62) :
    Det Tryz.prog 39 [.agg (encW n1 n2 n3 n4 n5 w), .sl n6 (rows encI sc)] (.tup [.agg (encWF (worldRun w sc).1), .int .i64 (worldRun w sc).2]) := by
  refine fspec_det tab_ok Tryz.call39 Tryz.func39 rfl 56 Tryz.ntmps39 (of_decide_eq_true rfl) fun B => codeK_sound tab_ok _ _ _ ?_
  simp (config := { maxSteps := 4000000 }) only [go_sem, simprocAttr, ↓dnA, Tryz.f39, rows_length, encW, encWF]
  refine CallTo.det (c_spec_WorldValid n1 n2 n3 n4 n5 w hx) fun _ => ?_
  cases h0 : worldValid w with
  | false =>
    have hno := worldRun_no (w := w) (sc := sc) (fun e => by rw [h0] at e; cases e.1)
    simp (config := { maxSteps := 4000000 }) only [go_sem, simprocAttr, ↓dnA, Tryz.f39, rows_length, encW, encWF, h0, hno, noW, rows_nil]
  | true =>
    by_cases h100 : (sc.length : Int) > 100
    · have hno := worldRun_no (w := w) (sc := sc) (fun e => by have := e.2.1; omega)
      simp (config := { maxSteps := 4000000 }) only [go_sem, simprocAttr, ↓dnA, Tryz.f39, rows_length, encW, encWF, h0, decide_eq_true h100, hno, noW, rows_nil]
    · have d100 := decide_eq_false h100
      have hs := worldOk_s32 h0
      simp (config := { maxSteps := 4000000 }) only [go_sem, simprocAttr, ↓dnA, Tryz.f39, rows_length, encW, encWF, h0, d100]
      refine CallTo.det (c_spec_l18Copy n1 n2 n3 n4 n5 w hs.tree hs.voters hs.votes) fun _ => ?_
      simp (config := { maxSteps := 4000000 }) only [go_sem, simprocAttr, ↓dnA, Tryz.f39, rows_length, encW, encWF, h0, d100]
      refine semL_for tab_ok (fun i : Nat => ⟨56, [(1, .sl n6 (rows encI sc)), (4, .loc 4 0), (6, .int .i64 (runW w (sc.take i)).2), (7, .loc 7 0), (8, .int .i64 i)],
          [(4, .var [.sl (some false) [], .sl (some false) [], .sl (some false) [], .sl (some false) [], .sl (some false) []]),
            (7, .var [.row 601 (runW w (sc.take i)).1.tree.base.length, .row 602 (runW w (sc.take i)).1.tree.blocks.length, .row 603 (runW w (sc.take i)).1.tree.before.length, .row 604 (runW w (sc.take i)).1.voters.length, .row 605 (runW w (sc.take i)).1.votes.length]),
            (601, .row true false 2 (rows encE (runW w (sc.take i)).1.tree.base)), (602, .row true false 6 (rows encB1 (runW w (sc.take i)).1.tree.blocks)), (603, .row true false 1 (rows encI (runW w (sc.take i)).1.tree.before)), (604, .row true false 2 (rows encV (runW w (sc.take i)).1.voters)), (605, .row true false 1 (rows encI (runW w (sc.take i)).1.votes))]⟩) (fun i => sc.length - i)
        (fun i => i ≤ sc.length ∧ ((sc.take i).all fun m => inB m 0 1000) = true) 0 [(4, 4), (7, 7), (22000, 601), (22001, 602), (22002, 603), (22003, 604), (22004, 605)] (Weak.of (by rfl) ?_ ?_ (by rfl)) ⟨by omega, rfl⟩ ?_
      · simp (config := { maxSteps := 4000000 }) only [go_sem, simprocAttr, ↓dnA, Tryz.f39, rows_length, encW, encWF, List.take_zero, runW, List.foldl_nil, frW, wk2, wk1, wkL, wkB, hpW, List.mem_cons, Prod.mk.injEq, exists_eq_left, exists_eq_right, exists_eq]
        try rfl
      · simp (config := { maxSteps := 4000000 }) only [go_sem, simprocAttr, ↓dnA, Tryz.f39, rows_length, encW, encWF, nc0, List.take_zero, runW, List.foldl_nil, frW, wk2, wk1, wkL, wkB, hpW, List.mem_cons, Prod.mk.injEq, exists_eq_left, exists_eq_right, exists_eq]
        try rfl
      · rintro i ⟨hi, hal⟩
        obtain ⟨r1, r2, r3, r4⟩ := runW_ok h0 sc i hi
        by_cases h : i < sc.length
        · have hw : IntKind.i64.wrap ((i : Int) + 1) = ((i + 1 : Nat) : Int) := wsucc h (by omega)
          have hst := runW_take w sc i h
          simp (config := { maxSteps := 4000000 }) only [go_sem, simprocAttr, ↓dnA, Tryz.f39, rows_length, encW, encWF, nlt h, h, nn0, rows_get _ _ _ h, encI]
          refine CallTo.det (c_l1In _ _ _) fun _ => ?_
          cases hb0 : inB sc[i] 0 1000 with
          | false =>
            have hno := worldRun_no (w := w) (sc := sc) (fun e => by
              have := List.all_eq_true.1 e.2.2 _ (List.getElem_mem h)
              rw [hb0] at this; cases this)
            simp (config := { maxSteps := 4000000 }) only [go_sem, simprocAttr, ↓dnA, Tryz.f39, rows_length, encW, encWF, nlt h, h, nn0, rows_get _ _ _ h, encI, hb0, hno, noW, rows_nil]
          | true =>
            have hb := inB_iff.1 hb0
            have hal' : ((sc.take (i + 1)).all fun m => inB m 0 1000) = true := by
              rw [take_snoc _ _ h, List.all_append, hal, List.all_cons, hb0]; rfl
            generalize runW w (sc.take i) = p at r1 r2 r3 r4 hst
            obtain ⟨u, d⟩ := p
            dsimp only at r1 r2 r3 r4
            have t1 : IntKind.i64.wrap (sc[i].tdiv 4) = sc[i].tdiv 4 := by
              have : sc[i].tdiv 4 = sc[i] / 4 := Int.tdiv_eq_ediv_of_nonneg hb.1
              rw [this]
              exact wrap_small _ (by omega) (by omega)
            have hwd : IntKind.i64.wrap (d + 1) = d + 1 := wrap_small _ (by omega) (by omega)
            simp (config := { maxSteps := 4000000 }) only [go_sem, simprocAttr, ↓dnA, Tryz.f39, rows_length, encW, encWF, nlt h, h, nn0, rows_get _ _ _ h, encI, hb0]
            refine semL_draw tab_ok mixed_ rfl (ord := [(0, []), (1, []), (2, []), (3, []), (4, []), (5, []), (6, []), (7, []), (8, []), (9, []), (10, []), (11, []), (12, []), (13, []), (14, []), (15, [0, 1, 2, 3, 4, 5, 6, 7, 8, 9, 10, 12, 13, 14]), (16, [14]), (17, [])]) (by dsimp only; decide +kernel) ?_
            simp (config := { maxSteps := 4000000 }) only [go_sem, simprocAttr, ↓dnA, Tryz.f39, rows_length, encW, encWF, nlt h, h, nn0, rows_get _ _ _ h, encI, hb0, t1]
            refine CallTo.det (c_spec_WorldVote none none none none none u (sc[i].tmod 4) (sc[i].tdiv 4) (worldOk_s32 r1).sz) fun _ => ?_
            rw [worldVote_yes r1]
            unfold stepV at hst
            dsimp only at hst
            generalize voteW u (sc[i].tmod 4) (sc[i].tdiv 4) = r at hst
            obtain ⟨x, ok⟩ := r
            dsimp only at hst
            cases ok with
            | false =>
              rw [if_neg Bool.false_ne_true] at hst
              simp (config := { maxSteps := 4000000 }) only [go_sem, simprocAttr, ↓dnA, Tryz.f39, rows_length, encW, encWF, nlt h, h, nn0, rows_get _ _ _ h, encI, hb0, t1, hw]
              refine ⟨i + 1, [(4, 4), (7, 7), (48000, 601), (48001, 602), (48002, 603), (48003, 604), (48004, 605)], ⟨by omega, hal'⟩, by dsimp only; omega, Weak.of (by rfl) ?_ ?_ (by rfl)⟩
              · simp (config := { maxSteps := 4000000 }) only [go_sem, simprocAttr, ↓dnA, Tryz.f39, rows_length, encW, encWF, hst, frW, wk2, wk1, wkL, wkB, hpW, List.mem_cons, Prod.mk.injEq, exists_eq_left, exists_eq_right, exists_eq]
              · simp (config := { maxSteps := 4000000 }) only [go_sem, simprocAttr, ↓dnA, Tryz.f39, rows_length, encW, encWF, hst, frW, wk2, wk1, wkL, wkB, hpW, List.mem_cons, Prod.mk.injEq, exists_eq_left, exists_eq_right, exists_eq]
            | true =>
              rw [if_pos rfl] at hst
              simp (config := { maxSteps := 4000000 }) only [go_sem, simprocAttr, ↓dnA, Tryz.f39, rows_length, encW, encWF, nlt h, h, nn0, rows_get _ _ _ h, encI, hb0, t1, hwd, hw]
              refine ⟨i + 1, [(4, 4), (7, 7), (48000, 601), (48001, 602), (48002, 603), (48003, 604), (48004, 605)], ⟨by omega, hal'⟩, by dsimp only; omega, Weak.of (by rfl) ?_ ?_ (by rfl)⟩
              · simp (config := { maxSteps := 4000000 }) only [go_sem, simprocAttr, ↓dnA, Tryz.f39, rows_length, encW, encWF, hst, frW, wk2, wk1, wkL, wkB, hpW, List.mem_cons, Prod.mk.injEq, exists_eq_left, exists_eq_right, exists_eq]
              · simp (config := { maxSteps := 4000000 }) only [go_sem, simprocAttr, ↓dnA, Tryz.f39, rows_length, encW, encWF, hst, frW, wk2, wk1, wkL, wkB, hpW, List.mem_cons, Prod.mk.injEq, exists_eq_left, exists_eq_right, exists_eq]
        · have hi' : i = sc.length := by omega
          subst hi'
          rw [List.take_length] at hal
          have hyes := worldRun_yes h0 (sc := sc) ⟨by omega, hal⟩
          simp (config := { maxSteps := 4000000 }) only [go_sem, simprocAttr, ↓dnA, Tryz.f39, rows_length, encW, encWF, nlf h, List.take_length, hyes]

end Go.Proofs.YthcfafpjkbbaoaaGreat

/- Contracts: drawn votes and worlds; FnWorldValid. -/
set_option linter.unusedSimpArgs false
set_option linter.unusedVariables false
set_option maxRecDepth 20000
set_option maxHeartbeats 4000000
namespace Go.Proofs.YthcfafpjkbbaoaaGreat
open Go Go.RowKit

def VotesQ (nb : Option Bool) (bs : List Int) (p : Int) (n : Nat) (r : AV) (b : List AV) : Prop := ∃ (l : List Int) (q : Int), r = .osl true 1 (rows encI l) ∧ b = rd nb bs q ∧ p ≤ q ∧ q ≤ p + 100 ∧ l.length + 5 ≤ 5 * n ∧ ∀ x, x ∈ l → 0 ≤ x ∧ x ≤ 1000

theorem c_spec_l20Votes (nb : Option Bool) (bs : List Int) (p : Int) (n : Nat) (h : RdOk bs p) (hp : p ≤ 999999000) (hn : 1 ≤ n ∧ n ≤ 14) : FSpec Tryz.prog 104 [.loc 0 0, .int .i64 (n : Nat)] true (rd nb bs p) (VotesQ nb bs p n) := by
  refine fspec_rel tab_ok Tryz.call104 Tryz.func104 rfl 39 Tryz.ntmps104 (of_decide_eq_true rfl) fun B => codeK_sound tab_ok _ _ _ ?_
  unfold rd
  simp (config := { maxSteps := 4000000 }) only [go_sem, simprocAttr, ↓dnA, Tryz.f104, rows_length]
  refine semL_for tab_ok (fun s : List Int × Nat × Int => ⟨39, [(0, .loc 900 0), (1, .int .i64 (n : Nat)), (4, .sl (some false) []), (5, .row 600 s.1.length), (6, .int .i64 s.2.1)], [(900, .var (rd nb bs s.2.2)), (600, .row true true 1 (rows encI s.1))]⟩) (fun s => n - s.2.1)
    (fun s => 1 ≤ s.2.1 ∧ s.2.1 ≤ n ∧ s.1.length + 5 ≤ 5 * s.2.1 ∧ p ≤ s.2.2 ∧ s.2.2 + 6 ≤ p + 6 * s.2.1 ∧ ∀ x, x ∈ s.1 → 0 ≤ x ∧ x ≤ 1000) ([], 1, p) [(900, 900), (8, 600)] (Weak.of (by rfl) ?_ ?_ (by rfl)) ⟨by dsimp only; omega, by dsimp only; omega, by dsimp only; simp, by dsimp only; omega, by dsimp only; omega, fun x hx => by cases hx⟩ ?_
  · simp (config := { maxSteps := 4000000 }) only [go_sem, simprocAttr, ↓dnA, Tryz.f104, rows_length, rd, frW, wk2, wk1, wkL, wkB, hpW, List.mem_cons, Prod.mk.injEq, exists_eq_left, exists_eq_right, exists_eq]
    try rfl
  · simp (config := { maxSteps := 4000000 }) only [go_sem, simprocAttr, ↓dnA, Tryz.f104, rows_length, rd, frW, wk2, wk1, wkL, wkB, hpW, List.mem_cons, Prod.mk.injEq, exists_eq_left, exists_eq_right, exists_eq]
    try rfl
  · rintro ⟨l, k, q⟩ ⟨i0, i1, i2, i3, i4, i5⟩
    dsimp only at i0 i1 i2 i3 i4 i5 ⊢
    by_cases hk : k < n
    · have hwk : IntKind.i64.wrap ((k : Int) + 1) = ((k + 1 : Nat) : Int) := wsucc hk (by omega)
      simp (config := { maxSteps := 4000000 }) only [go_sem, simprocAttr, ↓dnA, Tryz.f104, rows_length, rd, nlt hk]
      refine semL_for tab_ok (fun s : List Int × Nat × Int => ⟨39, [(0, .loc 900 0), (1, .int .i64 (n : Nat)), (4, .sl (some false) []), (5, .row 600 s.1.length), (6, .int .i64 (k : Nat)), (7, .int .i64 s.2.1)], [(900, .var (rd nb bs s.2.2)), (600, .row true true 1 (rows encI s.1))]⟩) (fun s => 4 - s.2.1)
        (fun s => s.2.1 ≤ 4 ∧ s.1.length ≤ l.length + s.2.1 ∧ q ≤ s.2.2 ∧ s.2.2 ≤ q + s.2.1 ∧ ∀ x, x ∈ s.1 → 0 ≤ x ∧ x ≤ 1000) (l, 0, q) [(900, 900), (600, 600)] (Weak.of (by rfl) ?_ ?_ (by rfl)) ⟨by dsimp only; omega, by dsimp only; omega, by dsimp only; omega, by dsimp only; omega, i5⟩ ?_
      · simp (config := { maxSteps := 4000000 }) only [go_sem, simprocAttr, ↓dnA, Tryz.f104, rows_length, rd, frW, wk2, wk1, wkL, wkB, hpW, List.mem_cons, Prod.mk.injEq, exists_eq_left, exists_eq_right, exists_eq]
        try rfl
      · simp (config := { maxSteps := 4000000 }) only [go_sem, simprocAttr, ↓dnA, Tryz.f104, rows_length, rd, frW, wk2, wk1, wkL, wkB, hpW, List.mem_cons, Prod.mk.injEq, exists_eq_left, exists_eq_right, exists_eq]
        try rfl
      · rintro ⟨l1, m, q1⟩ ⟨j1, j2, j3, j4, j5⟩
        dsimp only at j1 j2 j3 j4 j5 ⊢
        have hq1 := h.step (q := q1) (by omega) (by omega)
        have hr2 := h.step (q := q1 + 1) (by omega) (by omega)
        have htk : (rows encI l1).take l1.length = rows encI l1 := by rw [List.take_of_length_le]; rw [rows_length]; omega
        have hsn : ∀ v : Int, rows encI l1 ++ [[.int .i64 v]] = rows encI (l1 ++ [v]) := fun v => by rw [← rows_snoc]; rfl
        have hmem : ∀ v : Int, 0 ≤ v ∧ v ≤ 1000 → ∀ x, x ∈ l1 ++ [v] → 0 ≤ x ∧ x ≤ 1000 := fun v hv x hx => by
          rcases List.mem_append.1 hx with h | h
          · exact j5 x h
          · rw [List.mem_singleton] at h; rw [h]; exact hv
        by_cases hm : m < 4
        · have hm4 : ((m : Int) < 4) = True := by simp; omega
          have hwm : IntKind.i64.wrap ((m : Int) + 1) = ((m + 1 : Nat) : Int) := wsucc hm (by omega)
          simp (config := { maxSteps := 4000000 }) only [go_sem, simprocAttr, ↓dnA, Tryz.f104, rows_length, rd, hm4]
          refine CallTo.of (c_spec_pick nb bs q1 6 hq1) ?_
          rintro r b ⟨x, rfl, rfl, hx⟩
          cases hx0 : decide (x > 0) with
          | false =>
            simp (config := { maxSteps := 4000000 }) only [go_sem, simprocAttr, ↓dnA, Tryz.f104, rows_length, rd, hm4, hx0, hwm]
            refine ⟨(l1, m + 1, q1 + 1), [(900, 900), (600, 600)], ⟨by dsimp only; omega, by dsimp only; omega, by dsimp only; omega, by dsimp only; omega, j5⟩, by dsimp only; omega, Weak.of (by rfl) ?_ ?_ (by rfl)⟩
            · simp (config := { maxSteps := 4000000 }) only [go_sem, simprocAttr, ↓dnA, Tryz.f104, rows_length, rd, frW, wk2, wk1, wkL, wkB, hpW, List.mem_cons, Prod.mk.injEq, exists_eq_left, exists_eq_right, exists_eq]
              try rfl
            · simp (config := { maxSteps := 4000000 }) only [go_sem, simprocAttr, ↓dnA, Tryz.f104, rows_length, rd, frW, wk2, wk1, wkL, wkB, hpW, List.mem_cons, Prod.mk.injEq, exists_eq_left, exists_eq_right, exists_eq]
              try rfl
          | true =>
            have w1 : IntKind.i64.wrap ((k : Int) * 4) = (k : Int) * 4 := wrap_small _ (by omega) (by omega)
            have w2 : IntKind.i64.wrap ((k : Int) * 4 + (m : Int)) = (k : Int) * 4 + (m : Int) := wrap_small _ (by omega) (by omega)
            simp (config := { maxSteps := 4000000 }) only [go_sem, simprocAttr, ↓dnA, Tryz.f104, rows_length, rd, hm4, hx0, hwm, w1, w2, htk, hsn]
            repeat refine And.intro (by first | omega | (simp; done) | (simp; omega) | assumption) ?_
            refine ⟨(l1 ++ [(k : Int) * 4 + (m : Int)], m + 1, q1 + 1), [(900, 900), (27, 600)], ⟨by dsimp only; omega, by dsimp only; simp; omega, by dsimp only; omega, by dsimp only; omega, hmem _ (by omega)⟩, by dsimp only; omega, Weak.of (by rfl) ?_ ?_ (by rfl)⟩
            · simp (config := { maxSteps := 4000000 }) only [go_sem, simprocAttr, ↓dnA, Tryz.f104, rows_length, rd, List.length_append, List.length_singleton, frW, wk2, wk1, wkL, wkB, hpW, List.mem_cons, Prod.mk.injEq, exists_eq_left, exists_eq_right, exists_eq]
              try rfl
            · simp (config := { maxSteps := 4000000 }) only [go_sem, simprocAttr, ↓dnA, Tryz.f104, rows_length, rd, List.length_append, List.length_singleton, frW, wk2, wk1, wkL, wkB, hpW, List.mem_cons, Prod.mk.injEq, exists_eq_left, exists_eq_right, exists_eq]
              try rfl
        · obtain rfl : m = 4 := by omega
          have hm4 : (((4 : Nat) : Int) < 4) = False := by simp
          have w3 : IntKind.i64.wrap ((n : Int) * 4) = (n : Int) * 4 := wrap_small _ (by omega) (by omega)
          simp (config := { maxSteps := 4000000 }) only [go_sem, simprocAttr, ↓dnA, Tryz.f104, rows_length, rd, hm4]
          refine CallTo.of (c_spec_pick nb bs q1 5 hq1) ?_
          rintro r b ⟨x, rfl, rfl, hx⟩
          cases hx0 : (x == 0) with
          | false =>
            simp (config := { maxSteps := 4000000 }) only [go_sem, simprocAttr, ↓dnA, Tryz.f104, rows_length, rd, hm4, hx0, hwk]
            refine ⟨(l1, k + 1, q1 + 1), [(900, 900), (600, 600)], ⟨by dsimp only; omega, by dsimp only; omega, by dsimp only; omega, by dsimp only; omega, by dsimp only; omega, j5⟩, by dsimp only; omega, Weak.of (by rfl) ?_ ?_ (by rfl)⟩
            · simp (config := { maxSteps := 4000000 }) only [go_sem, simprocAttr, ↓dnA, Tryz.f104, rows_length, rd, frW, wk2, wk1, wkL, wkB, hpW, List.mem_cons, Prod.mk.injEq, exists_eq_left, exists_eq_right, exists_eq]
              try rfl
            · simp (config := { maxSteps := 4000000 }) only [go_sem, simprocAttr, ↓dnA, Tryz.f104, rows_length, rd, frW, wk2, wk1, wkL, wkB, hpW, List.mem_cons, Prod.mk.injEq, exists_eq_left, exists_eq_right, exists_eq]
              try rfl
          | true =>
            simp (config := { maxSteps := 4000000 }) only [go_sem, simprocAttr, ↓dnA, Tryz.f104, rows_length, rd, hm4, hx0, hwk, w3]
            refine CallTo.of (c_spec_pick nb bs (q1 + 1) ((n : Int) * 4) hr2) ?_
            rintro r b ⟨y, rfl, rfl, hy⟩
            simp (config := { maxSteps := 4000000 }) only [go_sem, simprocAttr, ↓dnA, Tryz.f104, rows_length, rd, hm4, hx0, hwk, w3, htk, hsn]
            repeat refine And.intro (by first | omega | (simp; done) | (simp; omega) | assumption) ?_
            refine ⟨(l1 ++ [y], k + 1, q1 + 1 + 1), [(900, 900), (37, 600)], ⟨by dsimp only; omega, by dsimp only; omega, by dsimp only; simp; omega, by dsimp only; omega, by dsimp only; omega, hmem _ (by omega)⟩, by dsimp only; omega, Weak.of (by rfl) ?_ ?_ (by rfl)⟩
            · simp (config := { maxSteps := 4000000 }) only [go_sem, simprocAttr, ↓dnA, Tryz.f104, rows_length, rd, List.length_append, List.length_singleton, frW, wk2, wk1, wkL, wkB, hpW, List.mem_cons, Prod.mk.injEq, exists_eq_left, exists_eq_right, exists_eq]
              try rfl
            · simp (config := { maxSteps := 4000000 }) only [go_sem, simprocAttr, ↓dnA, Tryz.f104, rows_length, rd, List.length_append, List.length_singleton, frW, wk2, wk1, wkL, wkB, hpW, List.mem_cons, Prod.mk.injEq, exists_eq_left, exists_eq_right, exists_eq]
              try rfl
    · obtain rfl : k = n := by omega
      simp (config := { maxSteps := 4000000 }) only [go_sem, simprocAttr, ↓dnA, Tryz.f104, rows_length, rd, nlf hk]
      exact .same ⟨l, q, rfl, rfl, by omega, by omega, by omega, i5⟩

def WorldR (nb : Option Bool) (bs : List Int) (p : Int) (r : AV) (b : List AV) : Prop := ∃ (w : Wld) (q : Int) (cs : List AV), r = .agg cs ∧ cs.map pureC = encW none none none none none w ∧ b = rd nb bs q ∧ p ≤ q ∧ q ≤ p + 2000 ∧ wsz w ≤ 300
def WorldQ (nb : Option Bool) (bs : List Int) (p : Int) (r : AV) (b : List AV) : Prop := ∃ (w : Wld) (q : Int), r = .agg (encW none none none none none w) ∧ b = rd nb bs q ∧ p ≤ q ∧ q ≤ p + 2000 ∧ wsz w ≤ 300

theorem worldOf_okay {t : Tree} (ht : TreeOk t) : worldValid (worldOf t) = true := by
  unfold worldOf
  rw [if_pos (treeValid_true ht)]
  unfold worldValid
  simp [treeValid_true ht, voterOk, voterValid, inB]

theorem c_spec_l20World0 (nb : Option Bool) (bs : List Int) (p n : Int) (h : RdOk bs p) (hp : p ≤ 999970000) (hn : 0 ≤ n ∧ n ≤ 1000000) : FSpec Tryz.prog 106 [.loc 0 0, .int .i64 n] true (rd nb bs p) (WorldR nb bs p) := by
  refine fspec_rel tab_ok Tryz.call106 Tryz.func106 rfl 62 Tryz.ntmps106 (of_decide_eq_true rfl) fun B => codeK_sound tab_ok _ _ _ ?_
  unfold rd
  simp (config := { maxSteps := 4000000 }) only [go_sem, simprocAttr, ↓dnA, Tryz.f106, rows_length, encT, encW, encWF]
  refine CallTo.of (c_spec_l20LineP nb bs p 0 h (by omega) (by omega)) ?_
  rintro r b ⟨t, q, rfl, rfl, hq1, hq2, hts, hl1, hl2, hT⟩
  have ht := hT rfl
  have hq := h.step (q := q) (by omega) (by omega)
  have hW := c_spec_WorldOf none none none t (tb_s32 ht)
  have hv := worldOf_okay ht
  generalize worldOf t = w at hW hv
  obtain ⟨ht1, hv4, _, hvl, _⟩ := worldValid_parts hv
  have hlen := ht1.len
  simp (config := { maxSteps := 4000000 }) only [go_sem, simprocAttr, ↓dnA, Tryz.f106, rows_length, encT, encW, encWF, rd]
  refine CallTo.det hW fun _ => ?_
  simp (config := { maxSteps := 4000000 }) only [go_sem, simprocAttr, ↓dnA, Tryz.f106, rows_length, encT, encW, encWF, rd]
  refine semL_draw tab_ok mixed_ rfl (ord := [(0, []), (1, []), (2, []), (3, []), (4, []), (5, [0]), (6, []), (7, []), (8, []), (9, []), (10, [9])]) (by dsimp only; decide +kernel) ?_
  simp (config := { maxSteps := 4000000 }) only [go_sem, simprocAttr, ↓dnA, Tryz.f106, rows_length, encT, encW, encWF, rd]
  refine CallTo.of (c_spec_l20Votes nb bs q w.votes.length hq (by omega) (by omega)) ?_
  rintro r b ⟨sc, q2, rfl, rfl, hq3, hq4, hsc, hsm⟩
  have hr2 := h.step (q := q2) (by omega) (by omega)
  have hok : ScOk sc := ⟨by omega, List.all_eq_true.2 fun x hx => inB_iff.2 (hsm x hx)⟩
  have hR := c_spec_WorldRun none none none none none (some true) w sc (worldOk_s32 hv).sz (by omega)
  rw [worldRun_yes hv hok] at hR
  have hx := runW_ok hv sc sc.length (Nat.le_refl _)
  rw [List.take_length] at hx
  generalize runW w sc = x at hR hx
  obtain ⟨x, xk⟩ := x
  obtain ⟨xv, _, _, _⟩ := hx
  dsimp only at hR xv
  have hwx := worldOk_wsz xv
  obtain ⟨xt, x4, _, xl, _⟩ := worldValid_parts xv
  have xlen := xt.len
  simp (config := { maxSteps := 4000000 }) only [go_sem, simprocAttr, ↓dnA, Tryz.f106, rows_length, encT, encW, encWF, rd]
  refine CallTo.det hR fun _ => ?_
  simp (config := { maxSteps := 4000000 }) only [go_sem, simprocAttr, ↓dnA, Tryz.f106, rows_length, encT, encW, encWF, rd]
  refine CallTo.of (c_spec_odd nb bs q2 n hr2 hn) ?_
  rintro r b ⟨gg, q3, rfl, rfl, hq5, hq6⟩
  have hr3 := h.step (q := q3) (by omega) (by omega)
  cases gg with
  | false =>
    simp (config := { maxSteps := 4000000 }) only [go_sem, simprocAttr, ↓dnA, Tryz.f106, rows_length, encT, encW, encWF, rd]
    exact .same ⟨x, q3, _, rfl, rfl, rfl, by omega, by omega, by omega⟩
  | true =>
    simp (config := { maxSteps := 4000000 }) only [go_sem, simprocAttr, ↓dnA, Tryz.f106, rows_length, encT, encW, encWF, rd]
    refine CallTo.of (c_spec_pick nb bs q3 4 hr3) ?_
    rintro r b ⟨z, rfl, rfl, hz⟩
    have hr4 := h.step (q := q3 + 1) (by omega) (by omega)
    have hz4 : z = 0 ∨ z = 1 ∨ z = 2 ∨ z = 3 := by omega
    rcases hz4 with rfl | rfl | rfl | rfl
    · simp (config := { maxSteps := 4000000 }) only [go_sem, simprocAttr, ↓dnA, Tryz.f106, rows_length, encT, encW, encWF, rd]
      refine semL_slots tab_ok 7 [6, 9] mixed_ rfl (by decide) (os := [([0, 1, 2, 3, 4, 5, 8, 7, 6, 9, 10, 11, 12, 13], [(0, []), (1, []), (2, []), (3, []), (4, []), (5, []), (8, []), (7, [0, 1, 2, 3, 4, 5, 8]), (6, [0, 1, 8]), (9, [0, 1]), (10, []), (11, []), (12, []), (13, [])]), ([0, 1, 2, 3, 4, 5, 7, 8, 6, 9, 10, 11, 12, 13], [(0, []), (1, []), (2, []), (3, []), (4, []), (5, []), (8, []), (6, [0, 1, 8]), (7, [0, 1, 8]), (9, [0, 1]), (10, []), (11, []), (12, []), (13, [])]), ([0, 1, 2, 3, 4, 5, 7, 9, 6, 8, 10, 11, 12, 13], [(0, []), (1, []), (2, []), (3, []), (4, []), (5, []), (8, []), (6, [0, 1, 8]), (9, [0, 1]), (7, [0, 1]), (10, []), (11, []), (12, []), (13, [])])]) (by dsimp only; decide +kernel) ?_
      refine ⟨?_, ?_, ?_, trivial⟩
      all_goals
        simp (config := { maxSteps := 4000000 }) only [go_sem, simprocAttr, ↓dnA, Tryz.f106, rows_length, encT, encW, encWF, rd]
        refine CallTo.of (c_spec_pick nb bs (q3 + 1) (x.votes.length : Int) hr4) ?_
        rintro r b ⟨m, rfl, rfl, hm⟩
        have hr5 := h.step (q := q3 + 1 + 1) (by omega) (by omega)
        obtain ⟨k, rfl⟩ : ∃ k : Nat, m = (k : Int) := ⟨m.toNat, by omega⟩
        have hk : k < x.votes.length := by omega
        have hrs : ∀ v : Int, (rows encI x.votes).set k [.int .i64 v] = rows encI (x.votes.set k v) := fun v => by rw [← rows_set]; rfl
        simp (config := { maxSteps := 4000000 }) only [go_sem, simprocAttr, ↓dnA, Tryz.f106, rows_length, encT, encW, encWF, rd]
        refine CallTo.of (c_spec_pick nb bs (q3 + 1 + 1) 3 hr5) ?_
        rintro r b ⟨y, rfl, rfl, hy⟩
        have hy3 : y = 0 ∨ y = 1 ∨ y = 2 := by omega
        rcases hy3 with rfl | rfl | rfl
        · simp (config := { maxSteps := 4000000 }) only [go_sem, simprocAttr, ↓dnA, Tryz.f106, rows_length, encT, encW, encWF, rd, tn0, tn1, tn2, nlt hk, hk, nn0, rows_get _ _ _ hk, encI, spliceL, List.length_set, hrs]
          exact .same ⟨⟨x.tree, x.voters, x.votes.set k (-1)⟩, q3 + 1 + 1 + 1, _, rfl, rfl, rfl, by omega, by omega, by unfold wsz at hwx ⊢; simp; omega⟩
        · simp (config := { maxSteps := 4000000 }) only [go_sem, simprocAttr, ↓dnA, Tryz.f106, rows_length, encT, encW, encWF, rd, tn0, tn1, tn2, nlt hk, hk, nn0, rows_get _ _ _ hk, encI, spliceL, List.length_set, hrs]
          exact .same ⟨⟨x.tree, x.voters, x.votes.set k (16)⟩, q3 + 1 + 1 + 1, _, rfl, rfl, rfl, by omega, by omega, by unfold wsz at hwx ⊢; simp; omega⟩
        · simp (config := { maxSteps := 4000000 }) only [go_sem, simprocAttr, ↓dnA, Tryz.f106, rows_length, encT, encW, encWF, rd, tn0, tn1, tn2, nlt hk, hk, nn0, rows_get _ _ _ hk, encI, spliceL, List.length_set, hrs]
          exact .same ⟨⟨x.tree, x.voters, x.votes.set k (7)⟩, q3 + 1 + 1 + 1, _, rfl, rfl, rfl, by omega, by omega, by unfold wsz at hwx ⊢; simp; omega⟩
    · have h0v : 0 < x.voters.length := by omega
      have htk : (rows encV x.voters).take x.voters.length = rows encV x.voters := by rw [List.take_of_length_le]; rw [rows_length]; omega
      simp (config := { maxSteps := 4000000 }) only [go_sem, simprocAttr, ↓dnA, Tryz.f106, rows_length, encT, encW, encWF, rd, htk]
      refine ⟨by omega, fun _ => by rw [rows_get _ _ _ h0v]; rfl, ?_⟩
      exact .same ⟨⟨x.tree, x.voters.drop 1, x.votes⟩, q3 + 1, _, rfl, by simp only [List.map_cons, List.map_nil, pureC, encW, rows_drop], rfl, by omega, by omega, by unfold wsz at hwx ⊢; simp; omega⟩
    · have htk : (rows encI x.votes).take x.votes.length = rows encI x.votes := by rw [List.take_of_length_le]; rw [rows_length]; omega
      have hsn : rows encI x.votes ++ [[.int .i64 0]] = rows encI (x.votes ++ [0]) := by rw [← rows_snoc]; rfl
      simp (config := { maxSteps := 4000000 }) only [go_sem, simprocAttr, ↓dnA, Tryz.f106, rows_length, encT, encW, encWF, rd, htk, hsn]
      repeat refine And.intro (by first | omega | (simp; done) | (simp; omega) | assumption) ?_
      exact .same ⟨⟨x.tree, x.voters, x.votes ++ [0]⟩, q3 + 1, _, rfl, rfl, rfl, by omega, by omega, by unfold wsz at hwx ⊢; simp; omega⟩
    · have h0v : 0 < x.voters.length := by omega
      have hrs : ∀ v : Int, (rows encV x.voters).set 0 [.int .i64 v, .int .i64 x.voters[0].lock] = rows encV (x.voters.set 0 ⟨v, x.voters[0].lock⟩) := fun v => by rw [← rows_set]; rfl
      simp (config := { maxSteps := 4000000 }) only [go_sem, simprocAttr, ↓dnA, Tryz.f106, rows_length, encT, encW, encWF, rd]
      refine semL_slots tab_ok 2 [4] mixed_ rfl (by decide) (os := [([0, 1, 3, 2, 4, 5, 6, 7, 8, 9], [(0, []), (1, []), (3, []), (2, [0, 1, 3]), (4, [0, 1]), (5, []), (6, []), (7, []), (8, []), (9, [])]), ([0, 1, 4, 2, 3, 5, 6, 7, 8, 9], [(0, []), (1, []), (3, []), (4, [0, 1]), (2, [0, 1]), (5, []), (6, []), (7, []), (8, []), (9, [])])]) (by dsimp only; decide +kernel) ?_
      refine ⟨?_, ?_, trivial⟩
      all_goals
        simp (config := { maxSteps := 4000000 }) only [go_sem, simprocAttr, ↓dnA, Tryz.f106, rows_length, encT, encW, encWF, rd]
        refine CallTo.of (c_spec_pick nb bs (q3 + 1) 2 hr4) ?_
        rintro r b ⟨y, rfl, rfl, hy⟩
        have hy2 : y = 0 ∨ y = 1 := by omega
        rcases hy2 with rfl | rfl
        · simp (config := { maxSteps := 4000000 }) only [go_sem, simprocAttr, ↓dnA, Tryz.f106, rows_length, encT, encW, encWF, rd, tn0, tn1, nlt h0v, h0v, nn0, nc0, rows_get _ _ _ h0v, encV, spliceL, List.length_set, hrs]
          refine ⟨by omega, ?_⟩
          exact .same ⟨⟨x.tree, x.voters.set 0 ⟨-1, x.voters[0].lock⟩, x.votes⟩, q3 + 1 + 1, _, rfl, rfl, rfl, by omega, by omega, by unfold wsz at hwx ⊢; simp; omega⟩
        · simp (config := { maxSteps := 4000000 }) only [go_sem, simprocAttr, ↓dnA, Tryz.f106, rows_length, encT, encW, encWF, rd, tn0, tn1, nlt h0v, h0v, nn0, nc0, rows_get _ _ _ h0v, encV, spliceL, List.length_set, hrs]
          refine ⟨by omega, ?_⟩
          exact .same ⟨⟨x.tree, x.voters.set 0 ⟨1000, x.voters[0].lock⟩, x.votes⟩, q3 + 1 + 1, _, rfl, rfl, rfl, by omega, by omega, by unfold wsz at hwx ⊢; simp; omega⟩

theorem c_spec_l20World (nb : Option Bool) (bs : List Int) (p n : Int) (h : RdOk bs p) (hp : p ≤ 999970000) (hn : 0 ≤ n ∧ n ≤ 1000000) : FSpec Tryz.prog 106 [.loc 0 0, .int .i64 n] true (rd nb bs p) (WorldQ nb bs p) := by
  refine (c_spec_l20World0 nb bs p n h hp hn).pureAgg ?_
  rintro r b ⟨w, q, cs, rfl, hc, rfl, h1, h2, h3⟩
  exact ⟨cs, rfl, w, q, by rw [hc], rfl, h1, h2, h3⟩

end Go.Proofs.YthcfafpjkbbaoaaGreat

/- Contracts: blocks that are committed at once. -/
set_option linter.unusedSimpArgs false
set_option linter.unusedVariables false
set_option maxRecDepth 20000
set_option maxHeartbeats 4000000
namespace Go.Proofs.YthcfafpjkbbaoaaGreat
open Go Go.RowKit

/-- What is read of a tree at the block d, those before it. -/
theorem head_facts {t : Tree} (ht : TreeOk t) {d : Nat} (hd : d < t.blocks.length) (ce : List Bool) (hce : ce.length = t.blocks.length) :
    d < t.before.length ∧ (rows encI t.before).getD d [] = [.int .i64 (t.bef d)] ∧ (rows encB1 t.blocks).getD d [] = encB1 (t.blk d) ∧ (boolRows ce).getD d [] = [.bool (ce.getD d false)] ∧
      (0 ≤ (t.blk d).view ∧ (t.blk d).view ≤ 1000) ∧ (t.bef d < 0 ∨ ∃ c : Nat, t.bef d = (c : Int) ∧ c < t.blocks.length) := by
  have hb : d < t.before.length := by rw [ht.bef]; exact hd
  have hv := view_bd (ht.valid d hd)
  refine ⟨hb, by rw [rows_get _ _ d hb, t.bef_get d hb]; rfl, rows_gd _ _ d hd, boolRows_get ce d (by omega), hv, ?_⟩
  by_cases h : t.bef d < 0
  · exact .inl h
  · refine .inr ⟨(t.bef d).toNat, by omega, ?_⟩
    by_cases h0 : d = 0
    · subst h0; rw [ht.bef0] at h; omega
    · have := (ht.link d (by omega) hd).hi; omega

theorem headsTo_step (t : Tree) (ce : List Bool) (d : Nat) : headsTo t ce (d + 1) = headStep t ce (headsTo t ce d) d := rfl

/-- What a block does, in the words of its cells. -/
theorem headStep_no {t : Tree} {ce l : List Bool} {d : Nat} (h : t.bef d < 0) : headStep t ce l d = l := by
  unfold headStep; rw [if_pos h]
theorem headStep_no2 {t : Tree} {ce l : List Bool} {d c : Nat} (hc : t.bef d = (c : Int)) (h : t.bef c < 0) : headStep t ce l d = l := by
  unfold headStep; rw [hc, if_neg (by omega), Int.toNat_natCast, if_pos h]
theorem headStep_yes {t : Tree} {ce l : List Bool} {d c b : Nat} (hc : t.bef d = (c : Int)) (hb : t.bef c = (b : Int)) : headStep t ce l d = if threeB t ce b c d then l.set b true else l := by
  unfold headStep; rw [hc, if_neg (by omega), Int.toNat_natCast, hb, if_neg (by omega), Int.toNat_natCast]

theorem headsL_len (t : Tree) (ce : List Bool) : (headsL t ce).length ≤ t.blocks.length := fltF_len _ _ _
theorem v2 (b c d : Int) : ((c == b + 1) && (d == b + 2)) = ((b + 1 == c) && (c + 1 == d)) := by
  rw [Bool.eq_iff_iff]
  simp only [Bool.and_eq_true, beq_iff_eq]
  omega

theorem c_impl_heads (n1 n2 n3 n4 : Option Bool) (t : Tree) (ce : List Bool) (hx : TreeSz t) (ht : TreeOk t) (hce : ce.length = t.blocks.length) :
    Det Tryz.prog 60 [.agg (encT n1 n2 n3 t), .sl n4 (boolRows ce)] (.osl false 1 (rows encI (headsL t ce))) := by
  refine fspec_det tab_ok Tryz.call60 Tryz.func60 rfl 105 Tryz.ntmps60 (of_decide_eq_true rfl) fun B => codeK_sound tab_ok _ _ _ ?_
  have hlen := ht.len
  simp (config := { maxSteps := 4000000 }) only [go_sem, simprocAttr, ↓dnA, Tryz.f60, encT, rows_length, boolRows_length, List.length_set, List.length_replicate]
  repeat refine And.intro (by first | omega | (simp; done) | (simp; omega) | assumption) ?_
  refine semL_for tab_ok (fun i : Nat => ⟨105, [(1, .sl n4 (boolRows ce)), (2, .loc 2 0), (5, .row 600 t.blocks.length), (19, .int .i64 t.blocks.length), (20, .int .i64 i)],
      [(2, .var (encT n1 n2 n3 t)), (600, .row true true 1 (boolRows (headsTo t ce i)))]⟩) (fun i => t.blocks.length - i)
    (fun i => i ≤ t.blocks.length) 0 [(2, 2), (16, 600)] (Weak.of (by rfl) ?_ ?_ (by rfl)) (by omega) ?_
  · simp (config := { maxSteps := 4000000 }) only [go_sem, simprocAttr, ↓dnA, Tryz.f60, encT, rows_length, boolRows_length, List.length_set, List.length_replicate, frW, wk2, wk1, wkL, wkB, hpW, List.mem_cons, Prod.mk.injEq, exists_eq_left, exists_eq_right, exists_eq]
    exact boolRows_rep _ _
  · simp (config := { maxSteps := 4000000 }) only [go_sem, simprocAttr, ↓dnA, Tryz.f60, encT, rows_length, boolRows_length, List.length_set, List.length_replicate, frW, wk2, wk1, wkL, wkB, hpW, List.mem_cons, Prod.mk.injEq, exists_eq_left, exists_eq_right, exists_eq]
  · rintro i hi
    have hl := headsTo_len t ce i
    by_cases h : i < t.blocks.length
    · have hw : IntKind.i64.wrap ((i : Int) + 1) = ((i + 1 : Nat) : Int) := wsucc h (by omega)
      have hst := headsTo_step t ce i
      generalize headsTo t ce i = l at hl hst
      obtain ⟨f1, f2, f3, f4, f5, f6⟩ := head_facts ht h ce hce
      rcases f6 with hc | ⟨c, hc, hcl⟩
      · rw [headStep_no hc] at hst
        simp (config := { maxSteps := 4000000 }) only [go_sem, simprocAttr, ↓dnA, Tryz.f60, encT, rows_length, boolRows_length, List.length_set, List.length_replicate, nlt h, h, nn0, nlt f1, f1, f2, decide_eq_true hc, hw]
        refine ⟨i + 1, [(2, 2), (600, 600)], by omega, by dsimp only; omega, Weak.of (by rfl) ?_ ?_ (by rfl)⟩
        · simp (config := { maxSteps := 4000000 }) only [go_sem, simprocAttr, ↓dnA, Tryz.f60, encT, rows_length, boolRows_length, List.length_set, List.length_replicate, hst, frW, wk2, wk1, wkL, wkB, hpW, List.mem_cons, Prod.mk.injEq, exists_eq_left, exists_eq_right, exists_eq]
        · simp (config := { maxSteps := 4000000 }) only [go_sem, simprocAttr, ↓dnA, Tryz.f60, encT, rows_length, boolRows_length, List.length_set, List.length_replicate, frW, wk2, wk1, wkL, wkB, hpW, List.mem_cons, Prod.mk.injEq, exists_eq_left, exists_eq_right, exists_eq]
      · have dc : decide ((c : Int) < 0) = false := by simp
        obtain ⟨c1, c2, c3, c4, c5, c6⟩ := head_facts ht hcl ce hce
        rcases c6 with hb | ⟨b, hb, hbl⟩
        · rw [headStep_no2 hc hb] at hst
          simp (config := { maxSteps := 4000000 }) only [go_sem, simprocAttr, ↓dnA, Tryz.f60, encT, rows_length, boolRows_length, List.length_set, List.length_replicate, nlt h, h, nn0, nlt f1, f1, f2, hc, dc, nlt c1, c1, c2, decide_eq_true hb, hw]
          refine ⟨i + 1, [(2, 2), (600, 600)], by omega, by dsimp only; omega, Weak.of (by rfl) ?_ ?_ (by rfl)⟩
          · simp (config := { maxSteps := 4000000 }) only [go_sem, simprocAttr, ↓dnA, Tryz.f60, encT, rows_length, boolRows_length, List.length_set, List.length_replicate, hst, frW, wk2, wk1, wkL, wkB, hpW, List.mem_cons, Prod.mk.injEq, exists_eq_left, exists_eq_right, exists_eq]
          · simp (config := { maxSteps := 4000000 }) only [go_sem, simprocAttr, ↓dnA, Tryz.f60, encT, rows_length, boolRows_length, List.length_set, List.length_replicate, frW, wk2, wk1, wkL, wkB, hpW, List.mem_cons, Prod.mk.injEq, exists_eq_left, exists_eq_right, exists_eq]
        · have db : decide ((b : Int) < 0) = false := by simp
          obtain ⟨b1, b2, b3, b4, b5, b6⟩ := head_facts ht hbl ce hce
          have w1 : IntKind.i64.wrap ((t.blk b).view + 1) = (t.blk b).view + 1 := wrap_small _ (by omega) (by omega)
          have w2 : IntKind.i64.wrap ((t.blk b).view + 2) = (t.blk b).view + 2 := wrap_small _ (by omega) (by omega)
          rw [headStep_yes hc hb] at hst
          have h3 : threeB t ce b c i = (ce.getD b false && (ce.getD c false && (ce.getD i false && (((t.blk c).view == (t.blk b).view + 1) && ((t.blk i).view == (t.blk b).view + 2))))) := by
            unfold threeB; rw [v2]
          rw [h3] at hst
          have no : ∀ q : Bool, q = false → (if q then l.set b true else l) = l := fun q e => by rw [e, if_neg Bool.false_ne_true]
          have yes : ∀ q : Bool, q = true → (if q then l.set b true else l) = l.set b true := fun q e => by rw [e, if_pos rfl]
          cases e1 : ce.getD b false with
          | false =>
            rw [no _ (by rw [e1]; rfl)] at hst
            simp (config := { maxSteps := 4000000 }) only [go_sem, simprocAttr, ↓dnA, Tryz.f60, encT, rows_length, boolRows_length, List.length_set, List.length_replicate, nlt h, h, nn0, nlt f1, f1, f2, hc, dc, nlt c1, c1, c2, hb, db, nlt hcl, hcl, nlt hbl, hbl, f3, c3, b3, f4, c4, b4, hce, encB1, encBk, w1, w2, e1, hw]
            refine ⟨i + 1, [(2, 2), (600, 600)], by omega, by dsimp only; omega, Weak.of (by rfl) ?_ ?_ (by rfl)⟩
            · simp (config := { maxSteps := 4000000 }) only [go_sem, simprocAttr, ↓dnA, Tryz.f60, encT, rows_length, boolRows_length, List.length_set, List.length_replicate, hst, frW, wk2, wk1, wkL, wkB, hpW, List.mem_cons, Prod.mk.injEq, exists_eq_left, exists_eq_right, exists_eq]
            · simp (config := { maxSteps := 4000000 }) only [go_sem, simprocAttr, ↓dnA, Tryz.f60, encT, rows_length, boolRows_length, List.length_set, List.length_replicate, frW, wk2, wk1, wkL, wkB, hpW, List.mem_cons, Prod.mk.injEq, exists_eq_left, exists_eq_right, exists_eq]
          | true =>
          cases e2 : ce.getD c false with
          | false =>
            rw [no _ (by rw [e1, e2]; rfl)] at hst
            simp (config := { maxSteps := 4000000 }) only [go_sem, simprocAttr, ↓dnA, Tryz.f60, encT, rows_length, boolRows_length, List.length_set, List.length_replicate, nlt h, h, nn0, nlt f1, f1, f2, hc, dc, nlt c1, c1, c2, hb, db, nlt hcl, hcl, nlt hbl, hbl, f3, c3, b3, f4, c4, b4, hce, encB1, encBk, w1, w2, e1, e2, hw]
            refine ⟨i + 1, [(2, 2), (600, 600)], by omega, by dsimp only; omega, Weak.of (by rfl) ?_ ?_ (by rfl)⟩
            · simp (config := { maxSteps := 4000000 }) only [go_sem, simprocAttr, ↓dnA, Tryz.f60, encT, rows_length, boolRows_length, List.length_set, List.length_replicate, hst, frW, wk2, wk1, wkL, wkB, hpW, List.mem_cons, Prod.mk.injEq, exists_eq_left, exists_eq_right, exists_eq]
            · simp (config := { maxSteps := 4000000 }) only [go_sem, simprocAttr, ↓dnA, Tryz.f60, encT, rows_length, boolRows_length, List.length_set, List.length_replicate, frW, wk2, wk1, wkL, wkB, hpW, List.mem_cons, Prod.mk.injEq, exists_eq_left, exists_eq_right, exists_eq]
          | true =>
          cases e3 : ce.getD i false with
          | false =>
            rw [no _ (by rw [e1, e2, e3]; rfl)] at hst
            simp (config := { maxSteps := 4000000 }) only [go_sem, simprocAttr, ↓dnA, Tryz.f60, encT, rows_length, boolRows_length, List.length_set, List.length_replicate, nlt h, h, nn0, nlt f1, f1, f2, hc, dc, nlt c1, c1, c2, hb, db, nlt hcl, hcl, nlt hbl, hbl, f3, c3, b3, f4, c4, b4, hce, encB1, encBk, w1, w2, e1, e2, e3, hw]
            refine ⟨i + 1, [(2, 2), (600, 600)], by omega, by dsimp only; omega, Weak.of (by rfl) ?_ ?_ (by rfl)⟩
            · simp (config := { maxSteps := 4000000 }) only [go_sem, simprocAttr, ↓dnA, Tryz.f60, encT, rows_length, boolRows_length, List.length_set, List.length_replicate, hst, frW, wk2, wk1, wkL, wkB, hpW, List.mem_cons, Prod.mk.injEq, exists_eq_left, exists_eq_right, exists_eq]
            · simp (config := { maxSteps := 4000000 }) only [go_sem, simprocAttr, ↓dnA, Tryz.f60, encT, rows_length, boolRows_length, List.length_set, List.length_replicate, frW, wk2, wk1, wkL, wkB, hpW, List.mem_cons, Prod.mk.injEq, exists_eq_left, exists_eq_right, exists_eq]
          | true =>
          cases e4 : ((t.blk c).view == (t.blk b).view + 1) with
          | false =>
            rw [no _ (by rw [e1, e2, e3, e4]; rfl)] at hst
            simp (config := { maxSteps := 4000000 }) only [go_sem, simprocAttr, ↓dnA, Tryz.f60, encT, rows_length, boolRows_length, List.length_set, List.length_replicate, nlt h, h, nn0, nlt f1, f1, f2, hc, dc, nlt c1, c1, c2, hb, db, nlt hcl, hcl, nlt hbl, hbl, f3, c3, b3, f4, c4, b4, hce, encB1, encBk, w1, w2, e1, e2, e3, e4, hw]
            refine ⟨i + 1, [(2, 2), (600, 600)], by omega, by dsimp only; omega, Weak.of (by rfl) ?_ ?_ (by rfl)⟩
            · simp (config := { maxSteps := 4000000 }) only [go_sem, simprocAttr, ↓dnA, Tryz.f60, encT, rows_length, boolRows_length, List.length_set, List.length_replicate, hst, frW, wk2, wk1, wkL, wkB, hpW, List.mem_cons, Prod.mk.injEq, exists_eq_left, exists_eq_right, exists_eq]
            · simp (config := { maxSteps := 4000000 }) only [go_sem, simprocAttr, ↓dnA, Tryz.f60, encT, rows_length, boolRows_length, List.length_set, List.length_replicate, frW, wk2, wk1, wkL, wkB, hpW, List.mem_cons, Prod.mk.injEq, exists_eq_left, exists_eq_right, exists_eq]
          | true =>
          cases e5 : ((t.blk i).view == (t.blk b).view + 2) with
          | false =>
            rw [no _ (by rw [e1, e2, e3, e4, e5]; rfl)] at hst
            simp (config := { maxSteps := 4000000 }) only [go_sem, simprocAttr, ↓dnA, Tryz.f60, encT, rows_length, boolRows_length, List.length_set, List.length_replicate, nlt h, h, nn0, nlt f1, f1, f2, hc, dc, nlt c1, c1, c2, hb, db, nlt hcl, hcl, nlt hbl, hbl, f3, c3, b3, f4, c4, b4, hce, encB1, encBk, w1, w2, e1, e2, e3, e4, e5, hw]
            refine ⟨i + 1, [(2, 2), (600, 600)], by omega, by dsimp only; omega, Weak.of (by rfl) ?_ ?_ (by rfl)⟩
            · simp (config := { maxSteps := 4000000 }) only [go_sem, simprocAttr, ↓dnA, Tryz.f60, encT, rows_length, boolRows_length, List.length_set, List.length_replicate, hst, frW, wk2, wk1, wkL, wkB, hpW, List.mem_cons, Prod.mk.injEq, exists_eq_left, exists_eq_right, exists_eq]
            · simp (config := { maxSteps := 4000000 }) only [go_sem, simprocAttr, ↓dnA, Tryz.f60, encT, rows_length, boolRows_length, List.length_set, List.length_replicate, frW, wk2, wk1, wkL, wkB, hpW, List.mem_cons, Prod.mk.injEq, exists_eq_left, exists_eq_right, exists_eq]
          | true =>
            rw [yes _ (by rw [e1, e2, e3, e4, e5]; rfl)] at hst
            simp (config := { maxSteps := 4000000 }) only [go_sem, simprocAttr, ↓dnA, Tryz.f60, encT, rows_length, boolRows_length, List.length_set, List.length_replicate, nlt h, h, nn0, nlt f1, f1, f2, hc, dc, nlt c1, c1, c2, hb, db, nlt hcl, hcl, nlt hbl, hbl, f3, c3, b3, f4, c4, b4, hce, encB1, encBk, w1, w2, e1, e2, e3, e4, e5, hl, boolRows_get l b (by omega), spliceL, hw]
            refine ⟨i + 1, [(2, 2), (600, 600)], by omega, by dsimp only; omega, Weak.of (by rfl) ?_ ?_ (by rfl)⟩
            · simp (config := { maxSteps := 4000000 }) only [go_sem, simprocAttr, ↓dnA, Tryz.f60, encT, rows_length, boolRows_length, List.length_set, List.length_replicate, hst, ← boolRows_set, frW, wk2, wk1, wkL, wkB, hpW, List.mem_cons, Prod.mk.injEq, exists_eq_left, exists_eq_right, exists_eq]
            · simp (config := { maxSteps := 4000000 }) only [go_sem, simprocAttr, ↓dnA, Tryz.f60, encT, rows_length, boolRows_length, List.length_set, List.length_replicate, frW, wk2, wk1, wkL, wkB, hpW, List.mem_cons, Prod.mk.injEq, exists_eq_left, exists_eq_right, exists_eq]
    · have hi' : i = t.blocks.length := by omega
      subst hi'
      unfold headsL headsB
      generalize headsTo t ce t.blocks.length = l at hl
      rw [← hl]
      simp (config := { maxSteps := 4000000 }) only [go_sem, simprocAttr, ↓dnA, Tryz.f60, encT, rows_length, boolRows_length, List.length_set, List.length_replicate, nlf h, hl]
      refine semL_nilA 10 10 1 true (by rfl) (by rfl) (by decide) (by decide) ?_
      refine semL_for tab_ok (fun p : Nat × List Int => ⟨105, [(10, .row 10 p.2.length), (91, .row 600 l.length), (92, .int .i64 l.length), (93, .int .i64 p.1)], [(600, .row true true 1 (boolRows l)), (10, .row true false 1 (rows encI p.2))]⟩) (fun p => l.length - p.1)
        (fun p => p.1 ≤ l.length ∧ p.2.length ≤ p.1 ∧ p.2 ++ fltF (fun k => l.getD k false) (l.length - p.1) p.1 = fltF (fun k => l.getD k false) l.length 0) (0, []) [(600, 600), (10, 10)] (Weak.of (by rfl) ?_ ?_ (by rfl)) ⟨by omega, by simp, rfl⟩ ?_
      · simp (config := { maxSteps := 4000000 }) only [go_sem, simprocAttr, ↓dnA, Tryz.f60, encT, rows_length, boolRows_length, List.length_set, List.length_replicate, hl, frW, wk2, wk1, wkL, wkB, hpW, List.mem_cons, Prod.mk.injEq, exists_eq_left, exists_eq_right, exists_eq]
        try rfl
      · simp (config := { maxSteps := 4000000 }) only [go_sem, simprocAttr, ↓dnA, Tryz.f60, encT, rows_length, boolRows_length, List.length_set, List.length_replicate, hl, frW, wk2, wk1, wkL, wkB, hpW, List.mem_cons, Prod.mk.injEq, exists_eq_left, exists_eq_right, exists_eq]
      · rintro ⟨i, acc⟩ ⟨hi, hac, hp⟩
        dsimp only at hi hac hp
        have htk := take_rows encI acc acc.length rfl
        by_cases h : i < l.length
        · have hw : IntKind.i64.wrap ((i : Int) + 1) = ((i + 1 : Nat) : Int) := wsucc h (by omega)
          have hg := boolRows_get l i h
          rw [fltF_step _ _ _ h] at hp
          cases e : l.getD i false with
          | false =>
            rw [e, if_neg Bool.false_ne_true, List.nil_append] at hp
            simp (config := { maxSteps := 4000000 }) only [go_sem, simprocAttr, ↓dnA, Tryz.f60, encT, rows_length, boolRows_length, List.length_set, List.length_replicate, nlt h, h, nn0, hg, e, hw]
            refine ⟨(i + 1, acc), [(600, 600), (10, 10)], ⟨by dsimp only; omega, by dsimp only; omega, hp⟩, by dsimp only; omega, Weak.of (by rfl) ?_ ?_ (by rfl)⟩
            · simp (config := { maxSteps := 4000000 }) only [go_sem, simprocAttr, ↓dnA, Tryz.f60, encT, rows_length, boolRows_length, List.length_set, List.length_replicate, frW, wk2, wk1, wkL, wkB, hpW, List.mem_cons, Prod.mk.injEq, exists_eq_left, exists_eq_right, exists_eq]
            · simp (config := { maxSteps := 4000000 }) only [go_sem, simprocAttr, ↓dnA, Tryz.f60, encT, rows_length, boolRows_length, List.length_set, List.length_replicate, frW, wk2, wk1, wkL, wkB, hpW, List.mem_cons, Prod.mk.injEq, exists_eq_left, exists_eq_right, exists_eq]
          | true =>
            rw [e, if_pos rfl] at hp
            simp (config := { maxSteps := 4000000 }) only [go_sem, simprocAttr, ↓dnA, Tryz.f60, encT, rows_length, boolRows_length, List.length_set, List.length_replicate, nlt h, h, nn0, hg, e, htk, hw]
            repeat refine And.intro (by first | omega | (simp; done) | (simp; omega) | assumption) ?_
            refine ⟨(i + 1, acc ++ [(i : Int)]), [(600, 600), (102, 10)], ⟨by dsimp only; omega, by simp; omega, by rw [← hp]; simp⟩, by dsimp only; omega, Weak.of (by rfl) ?_ ?_ (by rfl)⟩
            · simp (config := { maxSteps := 4000000 }) only [go_sem, simprocAttr, ↓dnA, Tryz.f60, encT, rows_length, boolRows_length, List.length_set, List.length_replicate, frW, wk2, wk1, wkL, wkB, hpW, List.mem_cons, Prod.mk.injEq, exists_eq_left, exists_eq_right, exists_eq]
              exact (rows_snoc encI _ _).symm
            · simp (config := { maxSteps := 4000000 }) only [go_sem, simprocAttr, ↓dnA, Tryz.f60, encT, rows_length, boolRows_length, List.length_set, List.length_replicate, List.length_append, frW, wk2, wk1, wkL, wkB, hpW, List.mem_cons, Prod.mk.injEq, exists_eq_left, exists_eq_right, exists_eq]
        · have hi' : i = l.length := by omega
          subst hi'
          rw [Nat.sub_self, show fltF (fun k => l.getD k false) 0 l.length = [] from rfl, List.append_nil] at hp
          simp (config := { maxSteps := 4000000 }) only [go_sem, simprocAttr, ↓dnA, Tryz.f60, encT, rows_length, boolRows_length, List.length_set, List.length_replicate, nlf h, hp]

end Go.Proofs.YthcfafpjkbbaoaaGreat

/- Contracts: the blocks that are committed at once, as a list. -/
set_option linter.unusedSimpArgs false
set_option linter.unusedVariables false
set_option maxRecDepth 20000
set_option maxHeartbeats 4000000
namespace Go.Proofs.YthcfafpjkbbaoaaGreat
open Go Go.RowKit

end Go.Proofs.YthcfafpjkbbaoaaGreat

/- Contracts: up to where everything is committed; whether commits agree. -/
set_option linter.unusedSimpArgs false
set_option linter.unusedVariables false
set_option maxRecDepth 20000
set_option maxHeartbeats 4000000
namespace Go.Proofs.YthcfafpjkbbaoaaGreat
open Go Go.RowKit

theorem isBefore_range {t : Tree} {a b : Int} (h : isBefore t a b = true) : treeValid t = true ∧ (0 ≤ a ∧ a < t.blocks.length) ∧ 0 ≤ b ∧ b < t.blocks.length := by
  unfold isBefore at h
  rw [List.any_eq_true] at h
  obtain ⟨x, hx, he⟩ := h
  rw [beq_iff_eq] at he
  subst he
  unfold pathTo at hx
  split at hx
  · rename_i h1
    obtain ⟨h1, h2, h3⟩ := h1
    have := pathL_bd (treeOk_of h1) h3 _ hx
    exact ⟨h1, by omega, h2, h3⟩
  · cases hx
theorem isBefore_no {t : Tree} {a b : Int} (h : ¬ (treeValid t = true ∧ (0 ≤ a ∧ a < t.blocks.length) ∧ 0 ≤ b ∧ b < t.blocks.length)) : isBefore t a b = false := by
  cases e : isBefore t a b with
  | false => rfl
  | true => exact absurd (isBefore_range e) h

theorem c_impl_IsBefore (n1 n2 n3 : Option Bool) (t : Tree) (a b : Int) (hx : TreeSz t) :
    Det Tryz.prog 47 [.agg (encT n1 n2 n3 t), .int .i64 a, .int .i64 b] (.bool (isBefore t a b)) := by
  refine fspec_det tab_ok Tryz.call47 Tryz.func47 rfl 26 Tryz.ntmps47 (of_decide_eq_true rfl) fun B => codeK_sound tab_ok _ _ _ ?_
  have hb := hx.blocks
  simp (config := { maxSteps := 4000000 }) only [go_sem, simprocAttr, ↓dnA, Tryz.f47, encT, rows_length, boolRows_length]
  refine CallTo.det (c_impl_BlockTreeValid n1 n2 n3 t hx) fun _ => ?_
  cases h0 : treeValid t with
  | false =>
    have hr : isBefore t a b = false := isBefore_no fun e => by rw [h0] at e; cases e.1
    simp (config := { maxSteps := 4000000 }) only [go_sem, simprocAttr, ↓dnA, Tryz.f47, encT, rows_length, boolRows_length, h0, hr]
  | true =>
    have ht := treeOk_of h0
    simp (config := { maxSteps := 4000000 }) only [go_sem, simprocAttr, ↓dnA, Tryz.f47, encT, rows_length, boolRows_length, h0]
    refine CallTo.det (c_impl_has n1 n2 n3 t a hx) fun _ => ?_
    cases h1 : inB a 0 ((t.blocks.length : Int) - 1) with
    | false =>
      have hr : isBefore t a b = false := isBefore_no fun e => by
        have : inB a 0 ((t.blocks.length : Int) - 1) = true := inB_iff.2 (by omega)
        rw [h1] at this; cases this
      simp (config := { maxSteps := 4000000 }) only [go_sem, simprocAttr, ↓dnA, Tryz.f47, encT, rows_length, boolRows_length, h0, h1, hr]
    | true =>
      simp (config := { maxSteps := 4000000 }) only [go_sem, simprocAttr, ↓dnA, Tryz.f47, encT, rows_length, boolRows_length, h0, h1]
      refine CallTo.det (c_impl_has n1 n2 n3 t b hx) fun _ => ?_
      cases h2 : inB b 0 ((t.blocks.length : Int) - 1) with
      | false =>
        have hr : isBefore t a b = false := isBefore_no fun e => by
          have : inB b 0 ((t.blocks.length : Int) - 1) = true := inB_iff.2 (by omega)
          rw [h2] at this; cases this
        simp (config := { maxSteps := 4000000 }) only [go_sem, simprocAttr, ↓dnA, Tryz.f47, encT, rows_length, boolRows_length, h0, h1, h2, hr]
      | true =>
        have h2' := inB_iff.1 h2
        have hr : isBefore t a b = (pathL t b).any fun x => a == x := by unfold isBefore; rw [pathTo_in h0 (by omega) (by omega)]
        have hpl := pathL_len ht (n := b) (by omega)
        rw [hr]
        simp (config := { maxSteps := 4000000 }) only [go_sem, simprocAttr, ↓dnA, Tryz.f47, encT, rows_length, boolRows_length, h0, h1, h2]
        refine CallTo.det (c_impl_path n1 n2 n3 t b ht hx (by omega)) fun _ => ?_
        simp (config := { maxSteps := 4000000 }) only [go_sem, simprocAttr, ↓dnA, Tryz.f47, encT, rows_length, boolRows_length, h0, h1, h2]
        refine CallTo.det (c_slices_Contains_int _ (pathL t b) a (by omega)) fun _ => ?_
        simp (config := { maxSteps := 4000000 }) only [go_sem, simprocAttr, ↓dnA, Tryz.f47, encT, rows_length, boolRows_length, h0, h1, h2]

theorem committedTo_yes {t : Tree} {cs : List Cert} (h : treeValid t = true ∧ cs.length ≤ 30) : committedTo t cs = bestF t (headsL t (certL t cs)) 0 := by
  obtain ⟨e1, e2⟩ := certified_ne h.1 h.2
  unfold committedTo; rw [if_neg e2, e1]
theorem committedTo_no {t : Tree} {cs : List Cert} (h : ¬ (treeValid t = true ∧ cs.length ≤ 30)) : committedTo t cs = -1 := by
  unfold committedTo; rw [if_pos (certified_no h)]
theorem commitsAgree_yes {t : Tree} {cs : List Cert} (h : treeValid t = true ∧ cs.length ≤ 30) : commitsAgree t cs = agreeAllB t (headsL t (certL t cs)) := by
  obtain ⟨e1, e2⟩ := certified_ne h.1 h.2
  unfold commitsAgree; rw [if_neg e2, e1]
theorem commitsAgree_no {t : Tree} {cs : List Cert} (h : ¬ (treeValid t = true ∧ cs.length ≤ 30)) : commitsAgree t cs = false := by
  unfold commitsAgree; rw [if_pos (certified_no h)]

/-- The step of the program's search: the first block is taken at once. -/
theorem best_step {t : Tree} (ht : TreeOk t) {xs : List Int} (hbd : ∀ x, x ∈ xs → 0 ≤ x ∧ x < t.blocks.length) {i : Nat} (h : i < xs.length) {b : Nat} (hb : b < t.blocks.length) (hi0 : i = 0 → b = 0) :
    ∃ k : Nat, xs[i] = (k : Int) ∧ k < t.blocks.length ∧
      ((i = 0 ∧ bestF t (xs.drop i) b = bestF t (xs.drop (i + 1)) k) ∨
       (i ≠ 0 ∧ (t.blk k).view > (t.blk b).view ∧ bestF t (xs.drop i) b = bestF t (xs.drop (i + 1)) k) ∨
       (i ≠ 0 ∧ ¬ (t.blk k).view > (t.blk b).view ∧ bestF t (xs.drop i) b = bestF t (xs.drop (i + 1)) b)) := by
  have hx := hbd _ (List.getElem_mem h)
  obtain ⟨k, hk⟩ : ∃ k : Nat, xs[i] = (k : Int) := ⟨xs[i].toNat, by omega⟩
  have hkl : k < t.blocks.length := by omega
  have he : bestF t (xs.drop i) b = bestF t (xs.drop (i + 1)) (if (t.blk k).view > (t.blk b).view then (k : Int) else b) := by
    rw [drop_cons xs i h, hk]
    rfl
  refine ⟨k, hk, hkl, ?_⟩
  by_cases h0 : i = 0
  · refine .inl ⟨h0, ?_⟩
    have hb0 := hi0 h0
    subst hb0
    by_cases hk0 : k = 0
    · subst hk0
      rw [he]; split <;> rfl
    · have := view0_lt ht (k + 1) k (by omega) (by omega) hkl
      rw [he, if_pos this]
  · by_cases hv : (t.blk k).view > (t.blk b).view
    · exact .inr (.inl ⟨h0, hv, by rw [he, if_pos hv]⟩)
    · exact .inr (.inr ⟨h0, hv, by rw [he, if_neg hv]⟩)
theorem c_impl_CommittedTo (n1 n2 n3 n4 : Option Bool) (t : Tree) (cs : List Cert) (hx : TreeSz t) :
    Det Tryz.prog 142 [.agg (encT n1 n2 n3 t), .sl n4 (rows encC cs)] (.int .i64 (committedTo t cs)) := by
  refine fspec_det tab_ok Tryz.call142 Tryz.func142 rfl 43 Tryz.ntmps142 (of_decide_eq_true rfl) fun B => codeK_sound tab_ok _ _ _ ?_
  simp (config := { maxSteps := 4000000 }) only [go_sem, simprocAttr, ↓dnA, Tryz.f142, encT, rows_length, boolRows_length]
  by_cases hok : treeValid t = true ∧ cs.length ≤ 30
  · have hl := certL_len t cs
    have ht := treeOk_of hok.1
    have hlen := ht.len
    refine CallTo.det (c_impl_CertifiedBlocks_T n1 n2 n3 n4 t cs hx hok.1 hok.2) fun _ => ?_
    rw [committedTo_yes hok]
    generalize certL t cs = ce at hl
    simp (config := { maxSteps := 4000000 }) only [go_sem, simprocAttr, ↓dnA, Tryz.f142, encT, rows_length, boolRows_length]
    refine CallTo.det (c_impl_heads n1 n2 n3 _ t ce hx ht hl) fun _ => ?_
    have hbd := headsL_bd t ce
    have hhl := headsL_len t ce
    generalize headsL t ce = xs at hbd hhl
    simp (config := { maxSteps := 4000000 }) only [go_sem, simprocAttr, ↓dnA, Tryz.f142, encT, rows_length, boolRows_length]
    refine semL_for tab_ok (fun p : Nat × Nat => ⟨43, [(2, .loc 2 0), (6, .int .i64 p.2), (16, .row 600 xs.length), (17, .int .i64 xs.length), (18, .int .i64 p.1)],
        [(2, .var (encT n1 n2 n3 t)), (600, .row true false 1 (rows encI xs))]⟩) (fun p => xs.length - p.1)
      (fun p => p.1 ≤ xs.length ∧ p.2 < t.blocks.length ∧ (p.1 = 0 → p.2 = 0) ∧ bestF t (xs.drop p.1) p.2 = bestF t xs 0) (0, 0) [(2, 2), (17000, 600)] (Weak.of (by rfl) ?_ ?_ (by rfl)) ⟨by omega, by omega, fun _ => rfl, rfl⟩ ?_
    · simp (config := { maxSteps := 4000000 }) only [go_sem, simprocAttr, ↓dnA, Tryz.f142, encT, rows_length, boolRows_length, frW, wk2, wk1, wkL, wkB, hpW, List.mem_cons, Prod.mk.injEq, exists_eq_left, exists_eq_right, exists_eq]
    · simp (config := { maxSteps := 4000000 }) only [go_sem, simprocAttr, ↓dnA, Tryz.f142, encT, rows_length, boolRows_length, nc0, frW, wk2, wk1, wkL, wkB, hpW, List.mem_cons, Prod.mk.injEq, exists_eq_left, exists_eq_right, exists_eq]
    · rintro ⟨i, b⟩ ⟨hi, hb, hi0, hp⟩
      dsimp only at hi hb hi0 hp
      by_cases h : i < xs.length
      · have hw : IntKind.i64.wrap ((i : Int) + 1) = ((i + 1 : Nat) : Int) := wsucc h (by omega)
        obtain ⟨k, hk, hkl, hcase⟩ := best_step ht hbd h hb hi0
        have g1 := rows_gd encB1 t.blocks k hkl
        have g2 := rows_gd encB1 t.blocks b hb
        simp (config := { maxSteps := 4000000 }) only [go_sem, simprocAttr, ↓dnA, Tryz.f142, encT, rows_length, boolRows_length, nlt h, h, nn0, rows_get _ _ _ h, encI, hk]
        refine semL_draw tab_ok mixed_ rfl (ord := [(0, []), (1, []), (2, []), (3, []), (4, []), (5, []), (6, []), (7, []), (8, []), (9, []), (10, []), (11, []), (12, []), (13, []), (14, []), (15, []), (16, [])]) (by dsimp only; decide +kernel) ?_
        rcases hcase with ⟨h0, he⟩ | ⟨h0, hv, he⟩ | ⟨h0, hv, he⟩
        · have hz : ((i : Int) == 0) = true := by simp; omega
          simp (config := { maxSteps := 4000000 }) only [go_sem, simprocAttr, ↓dnA, Tryz.f142, encT, rows_length, boolRows_length, nlt h, h, nn0, rows_get _ _ _ h, encI, hk, hz, hw]
          refine ⟨(i + 1, k), [(2, 2), (600, 600)], ⟨by dsimp only; omega, hkl, by dsimp only; omega, by rw [← hp, he]⟩, by dsimp only; omega, Weak.of (by rfl) ?_ ?_ (by rfl)⟩
          · simp (config := { maxSteps := 4000000 }) only [go_sem, simprocAttr, ↓dnA, Tryz.f142, encT, rows_length, boolRows_length, frW, wk2, wk1, wkL, wkB, hpW, List.mem_cons, Prod.mk.injEq, exists_eq_left, exists_eq_right, exists_eq]
          · simp (config := { maxSteps := 4000000 }) only [go_sem, simprocAttr, ↓dnA, Tryz.f142, encT, rows_length, boolRows_length, frW, wk2, wk1, wkL, wkB, hpW, List.mem_cons, Prod.mk.injEq, exists_eq_left, exists_eq_right, exists_eq]
        · have hz : ((i : Int) == 0) = false := by simp; omega
          have hv' := decide_eq_true hv
          unfold Tree.blk at hv'
          simp (config := { maxSteps := 4000000 }) only [go_sem, simprocAttr, ↓dnA, Tryz.f142, encT, rows_length, boolRows_length, nlt h, h, nn0, rows_get _ _ _ h, encI, hk, hz, nlt hkl, nlt hb, hkl, hb, g1, g2, encB1, encBk, hv', hw]
          refine ⟨(i + 1, k), [(2, 2), (600, 600)], ⟨by dsimp only; omega, hkl, by dsimp only; omega, by rw [← hp, he]⟩, by dsimp only; omega, Weak.of (by rfl) ?_ ?_ (by rfl)⟩
          · simp (config := { maxSteps := 4000000 }) only [go_sem, simprocAttr, ↓dnA, Tryz.f142, encT, rows_length, boolRows_length, frW, wk2, wk1, wkL, wkB, hpW, List.mem_cons, Prod.mk.injEq, exists_eq_left, exists_eq_right, exists_eq]
          · simp (config := { maxSteps := 4000000 }) only [go_sem, simprocAttr, ↓dnA, Tryz.f142, encT, rows_length, boolRows_length, frW, wk2, wk1, wkL, wkB, hpW, List.mem_cons, Prod.mk.injEq, exists_eq_left, exists_eq_right, exists_eq]
        · have hz : ((i : Int) == 0) = false := by simp; omega
          have hv' := decide_eq_false hv
          unfold Tree.blk at hv'
          simp (config := { maxSteps := 4000000 }) only [go_sem, simprocAttr, ↓dnA, Tryz.f142, encT, rows_length, boolRows_length, nlt h, h, nn0, rows_get _ _ _ h, encI, hk, hz, nlt hkl, nlt hb, hkl, hb, g1, g2, encB1, encBk, hv', hw]
          refine ⟨(i + 1, b), [(2, 2), (600, 600)], ⟨by dsimp only; omega, hb, by dsimp only; omega, by rw [← hp, he]⟩, by dsimp only; omega, Weak.of (by rfl) ?_ ?_ (by rfl)⟩
          · simp (config := { maxSteps := 4000000 }) only [go_sem, simprocAttr, ↓dnA, Tryz.f142, encT, rows_length, boolRows_length, frW, wk2, wk1, wkL, wkB, hpW, List.mem_cons, Prod.mk.injEq, exists_eq_left, exists_eq_right, exists_eq]
          · simp (config := { maxSteps := 4000000 }) only [go_sem, simprocAttr, ↓dnA, Tryz.f142, encT, rows_length, boolRows_length, frW, wk2, wk1, wkL, wkB, hpW, List.mem_cons, Prod.mk.injEq, exists_eq_left, exists_eq_right, exists_eq]
      · have hi' : i = xs.length := by omega
        subst hi'
        rw [List.drop_length] at hp
        have hp' : bestF t xs 0 = (b : Int) := hp.symm
        simp (config := { maxSteps := 4000000 }) only [go_sem, simprocAttr, ↓dnA, Tryz.f142, encT, rows_length, boolRows_length, nlf h, hp']
  · refine CallTo.det (c_impl_CertifiedBlocks_no n1 n2 n3 n4 t cs hx hok) fun _ => ?_
    simp (config := { maxSteps := 4000000 }) only [go_sem, simprocAttr, ↓dnA, Tryz.f142, encT, rows_length, boolRows_length, committedTo_no hok]

/-- The first i numbers of a list agree with each other. -/
def AgreeTo (t : Tree) (xs : List Int) (i : Nat) : Prop := ∀ a b, b < a → a < i → agreeB t (xs.getD a 0) (xs.getD b 0) = true
theorem agreeTo_next {t : Tree} {xs : List Int} {i : Nat} (h : AgreeTo t xs i) (h2 : ∀ b, b < i → agreeB t (xs.getD i 0) (xs.getD b 0) = true) : AgreeTo t xs (i + 1) := by
  intro a b hb ha
  by_cases e : a = i
  · subst e; exact h2 b hb
  · exact h a b hb (by omega)

theorem c_impl_CommitsAgree (n1 n2 n3 n4 : Option Bool) (t : Tree) (cs : List Cert) (hx : TreeSz t) :
    Det Tryz.prog 46 [.agg (encT n1 n2 n3 t), .sl n4 (rows encC cs)] (.bool (commitsAgree t cs)) := by
  refine fspec_det tab_ok Tryz.call46 Tryz.func46 rfl 48 Tryz.ntmps46 (of_decide_eq_true rfl) fun B => codeK_sound tab_ok _ _ _ ?_
  simp (config := { maxSteps := 4000000 }) only [go_sem, simprocAttr, ↓dnA, Tryz.f46, encT, rows_length, boolRows_length]
  by_cases hok : treeValid t = true ∧ cs.length ≤ 30
  · have hl := certL_len t cs
    have ht := treeOk_of hok.1
    have hlen := ht.len
    refine CallTo.det (c_impl_CertifiedBlocks_T n1 n2 n3 n4 t cs hx hok.1 hok.2) fun _ => ?_
    rw [commitsAgree_yes hok]
    generalize certL t cs = ce at hl
    simp (config := { maxSteps := 4000000 }) only [go_sem, simprocAttr, ↓dnA, Tryz.f46, encT, rows_length, boolRows_length]
    refine CallTo.det (c_impl_heads n1 n2 n3 _ t ce hx ht hl) fun _ => ?_
    have hhl := headsL_len t ce
    generalize headsL t ce = xs at hhl
    simp (config := { maxSteps := 4000000 }) only [go_sem, simprocAttr, ↓dnA, Tryz.f46, encT, rows_length, boolRows_length]
    refine semL_ghost ((Ghost.weak (t := ⟨48, [(2, .loc 2 0), (6, .row 19000 xs.length), (19, .row 19000 xs.length), (20, .int .i64 xs.length), (21, .int .i64 0)],
        [(2, .var (encT n1 n2 n3 t)), (19000, .fro 1 (rows encI xs))]⟩) (ρ := [(2, 2), (19000, 19000)]) (Weak.of (by rfl) ?_ ?_ (by rfl))).trans ((Ghost.pure 6 19000 xs.length 1 rfl rfl ?_).trans (Ghost.pure 19 19000 xs.length 1 rfl rfl ?_))) ?_
    · simp (config := { maxSteps := 4000000 }) only [go_sem, simprocAttr, ↓dnA, Tryz.f46, encT, rows_length, boolRows_length, frW, wk2, wk1, wkL, wkB, hpW, List.mem_cons, Prod.mk.injEq, exists_eq_left, exists_eq_right, exists_eq]
    · simp (config := { maxSteps := 4000000 }) only [go_sem, simprocAttr, ↓dnA, Tryz.f46, encT, rows_length, boolRows_length, frW, wk2, wk1, wkL, wkB, hpW, List.mem_cons, Prod.mk.injEq, exists_eq_left, exists_eq_right, exists_eq]
    · rw [rows_length]
    · rw [rows_length]
    refine semL_for tab_ok (fun i : Nat => ⟨48, [(2, .loc 2 0), (6, .sl none (rows encI xs)), (19, .sl none (rows encI xs)), (20, .int .i64 xs.length), (21, .int .i64 i)],
        [(2, .var (encT n1 n2 n3 t))]⟩) (fun i => xs.length - i)
      (fun i => i ≤ xs.length ∧ AgreeTo t xs i) 0 [(2, 2)] (Weak.of (by rfl) ?_ ?_ (by rfl)) ⟨by omega, fun a b _ h => by omega⟩ ?_
    · simp (config := { maxSteps := 4000000 }) only [go_sem, simprocAttr, ↓dnA, Tryz.f46, encT, rows_length, boolRows_length, frW, wk2, wk1, wkL, wkB, hpW, List.mem_cons, Prod.mk.injEq, exists_eq_left, exists_eq_right, exists_eq]
    · simp (config := { maxSteps := 4000000 }) only [go_sem, simprocAttr, ↓dnA, Tryz.f46, encT, rows_length, boolRows_length, nc0, frW, wk2, wk1, wkL, wkB, hpW, List.mem_cons, Prod.mk.injEq, exists_eq_left, exists_eq_right, exists_eq]
    · rintro i ⟨hi, hag⟩
      by_cases h : i < xs.length
      · have hw : IntKind.i64.wrap ((i : Int) + 1) = ((i + 1 : Nat) : Int) := wsucc h (by omega)
        have hgi : xs.getD i 0 = xs[i] := by rw [List.getD_eq_getElem?_getD, List.getElem?_eq_getElem h]; rfl
        have hle : ((i : Int) ≤ (xs.length : Int)) = True := by simp; omega
        simp (config := { maxSteps := 4000000 }) only [go_sem, simprocAttr, ↓dnA, Tryz.f46, encT, rows_length, boolRows_length, nlt h, h, nn0, rows_get _ _ _ h, encI, hle, rows_take]
        repeat refine And.intro (by first | omega | (simp; done) | (simp; omega) | assumption) ?_
        refine semL_for tab_ok (fun j : Nat => ⟨48, [(2, .loc 2 0), (6, .sl none (rows encI xs)), (8, .int .i64 xs[i]), (19, .sl none (rows encI xs)), (20, .int .i64 xs.length), (21, .int .i64 i), (28, .sl none (rows encI (xs.take i))), (29, .int .i64 i), (30, .int .i64 j)],
            [(2, .var (encT n1 n2 n3 t))]⟩) (fun j => i - j)
          (fun j => j ≤ i ∧ ∀ b, b < j → agreeB t (xs.getD i 0) (xs.getD b 0) = true) 0 [(2, 2)] (Weak.of (by rfl) ?_ ?_ (by rfl)) ⟨by omega, fun b h => by omega⟩ ?_
        · simp (config := { maxSteps := 4000000 }) only [go_sem, simprocAttr, ↓dnA, Tryz.f46, encT, rows_length, boolRows_length, frW, wk2, wk1, wkL, wkB, hpW, List.mem_cons, Prod.mk.injEq, exists_eq_left, exists_eq_right, exists_eq]
        · simp (config := { maxSteps := 4000000 }) only [go_sem, simprocAttr, ↓dnA, Tryz.f46, encT, rows_length, boolRows_length, nc0, List.length_take, show min i xs.length = i by omega, frW, wk2, wk1, wkL, wkB, hpW, List.mem_cons, Prod.mk.injEq, exists_eq_left, exists_eq_right, exists_eq]
        · rintro j ⟨hj, hagj⟩
          by_cases h2 : j < i
          · have hw2 : IntKind.i64.wrap ((j : Int) + 1) = ((j + 1 : Nat) : Int) := wsucc h2 (by omega)
            have hjx : j < xs.length := by omega
            have hjt : j < (xs.take i).length := by rw [List.length_take]; omega
            have hgt : (xs.take i)[j] = xs[j] := by simp
            have hgj : xs.getD j 0 = xs[j] := by rw [List.getD_eq_getElem?_getD, List.getElem?_eq_getElem hjx]; rfl
            have hml : min i xs.length = i := by omega
            simp (config := { maxSteps := 4000000 }) only [go_sem, simprocAttr, ↓dnA, Tryz.f46, encT, rows_length, boolRows_length, nlt h2, h2, nn0, rows_get _ _ _ hjt, encI, hgt, List.length_take, hml]
            refine CallTo.det (c_impl_IsBefore n1 n2 n3 t xs[i] xs[j] hx) fun _ => ?_
            have next : agreeB t xs[i] xs[j] = true → ∀ b, b < j + 1 → agreeB t (xs.getD i 0) (xs.getD b 0) = true := fun e b hb => by
              by_cases hbj : b = j
              · subst hbj; rw [hgi, hgj]; exact e
              · exact hagj b (by omega)
            cases e1 : isBefore t xs[i] xs[j] with
            | true =>
              have hn := next (by unfold agreeB; rw [e1]; rfl)
              simp (config := { maxSteps := 4000000 }) only [go_sem, simprocAttr, ↓dnA, Tryz.f46, encT, rows_length, boolRows_length, nlt h2, h2, nn0, rows_get _ _ _ hjt, encI, hgt, List.length_take, hml, e1, hw2]
              refine ⟨j + 1, [(2, 2)], ⟨by omega, hn⟩, by dsimp only; omega, Weak.of (by rfl) ?_ ?_ (by rfl)⟩
              · simp (config := { maxSteps := 4000000 }) only [go_sem, simprocAttr, ↓dnA, Tryz.f46, encT, rows_length, boolRows_length, frW, wk2, wk1, wkL, wkB, hpW, List.mem_cons, Prod.mk.injEq, exists_eq_left, exists_eq_right, exists_eq]
              · simp (config := { maxSteps := 4000000 }) only [go_sem, simprocAttr, ↓dnA, Tryz.f46, encT, rows_length, boolRows_length, frW, wk2, wk1, wkL, wkB, hpW, List.mem_cons, Prod.mk.injEq, exists_eq_left, exists_eq_right, exists_eq]
            | false =>
              simp (config := { maxSteps := 4000000 }) only [go_sem, simprocAttr, ↓dnA, Tryz.f46, encT, rows_length, boolRows_length, nlt h2, h2, nn0, rows_get _ _ _ hjt, encI, hgt, List.length_take, hml, e1]
              refine CallTo.det (c_impl_IsBefore n1 n2 n3 t xs[j] xs[i] hx) fun _ => ?_
              cases e2 : isBefore t xs[j] xs[i] with
              | true =>
                have hn := next (by unfold agreeB; rw [e1, e2]; rfl)
                simp (config := { maxSteps := 4000000 }) only [go_sem, simprocAttr, ↓dnA, Tryz.f46, encT, rows_length, boolRows_length, nlt h2, h2, nn0, rows_get _ _ _ hjt, encI, hgt, List.length_take, hml, e1, e2, hw2]
                refine ⟨j + 1, [(2, 2)], ⟨by omega, hn⟩, by dsimp only; omega, Weak.of (by rfl) ?_ ?_ (by rfl)⟩
                · simp (config := { maxSteps := 4000000 }) only [go_sem, simprocAttr, ↓dnA, Tryz.f46, encT, rows_length, boolRows_length, frW, wk2, wk1, wkL, wkB, hpW, List.mem_cons, Prod.mk.injEq, exists_eq_left, exists_eq_right, exists_eq]
                · simp (config := { maxSteps := 4000000 }) only [go_sem, simprocAttr, ↓dnA, Tryz.f46, encT, rows_length, boolRows_length, frW, wk2, wk1, wkL, wkB, hpW, List.mem_cons, Prod.mk.injEq, exists_eq_left, exists_eq_right, exists_eq]
              | false =>
                have hno : ¬ AgreeAll t xs := fun hA => by
                  have := hA i j h2 h
                  rw [hgi, hgj] at this
                  unfold agreeB at this
                  rw [e1, e2] at this
                  cases this
                have hfin := agreeAllB_no hno
                simp (config := { maxSteps := 4000000 }) only [go_sem, simprocAttr, ↓dnA, Tryz.f46, encT, rows_length, boolRows_length, nlt h2, h2, nn0, rows_get _ _ _ hjt, encI, hgt, List.length_take, hml, e1, e2, hfin]
          · have hj' : j = i := by omega
            subst hj'
            have hA := agreeTo_next hag hagj
            simp (config := { maxSteps := 4000000 }) only [go_sem, simprocAttr, ↓dnA, Tryz.f46, encT, rows_length, boolRows_length, nlf h2, hw]
            refine ⟨j + 1, [(2, 2)], ⟨by omega, hA⟩, by dsimp only; omega, Weak.of (by rfl) ?_ ?_ (by rfl)⟩
            · simp (config := { maxSteps := 4000000 }) only [go_sem, simprocAttr, ↓dnA, Tryz.f46, encT, rows_length, boolRows_length, frW, wk2, wk1, wkL, wkB, hpW, List.mem_cons, Prod.mk.injEq, exists_eq_left, exists_eq_right, exists_eq]
            · simp (config := { maxSteps := 4000000 }) only [go_sem, simprocAttr, ↓dnA, Tryz.f46, encT, rows_length, boolRows_length, frW, wk2, wk1, wkL, wkB, hpW, List.mem_cons, Prod.mk.injEq, exists_eq_left, exists_eq_right, exists_eq]
      · have hi' : i = xs.length := by omega
        subst hi'
        have hyes : AgreeAll t xs := fun a b hb ha => hag a b hb ha
        have hfin := agreeAllB_yes hyes
        simp (config := { maxSteps := 4000000 }) only [go_sem, simprocAttr, ↓dnA, Tryz.f46, encT, rows_length, boolRows_length, nlf h, hfin]
  · refine CallTo.det (c_impl_CertifiedBlocks_no n1 n2 n3 n4 t cs hx hok) fun _ => ?_
    simp (config := { maxSteps := 4000000 }) only [go_sem, simprocAttr, ↓dnA, Tryz.f46, encT, rows_length, boolRows_length, commitsAgree_no hok]

end Go.Proofs.YthcfafpjkbbaoaaGreat

/- Contracts: certificates and heads of worlds. -/
set_option linter.unusedSimpArgs false
set_option linter.unusedVariables false
set_option maxRecDepth 20000
set_option maxHeartbeats 4000000
namespace Go.Proofs.YthcfafpjkbbaoaaGreat
open Go Go.RowKit

theorem certsTo_yes {w : Wld} {k : Nat} (h : 0 < k ∧ 0 < w.votes.getD k 0) : certsTo w (k + 1) = certsTo w k ++ [certAt w k] := by
  conv => lhs; unfold certsTo
  rw [if_pos h]
theorem certsTo_no {w : Wld} {k : Nat} (h : ¬ (0 < k ∧ 0 < w.votes.getD k 0)) : certsTo w (k + 1) = certsTo w k := by
  conv => lhs; unfold certsTo
  rw [if_neg h]
theorem worldCerts_yes {w : Wld} (h : worldValid w = true) : worldCerts w = certsTo w w.votes.length := by unfold worldCerts; rw [if_pos h]
theorem worldCerts_no {w : Wld} (h : worldValid w = false) : worldCerts w = [] := by unfold worldCerts; rw [h]; rfl
theorem c_impl_certs (n1 n2 n3 n4 n5 : Option Bool) (w : Wld) (hx : WldSz w) (hv : worldValid w = true) :
    Det Tryz.prog 83 [.agg (encW n1 n2 n3 n4 n5 w)] (.osl false 3 (rows encC (certsTo w w.votes.length))) := by
  refine fspec_det tab_ok Tryz.call83 Tryz.func83 rfl 38 Tryz.ntmps83 (of_decide_eq_true rfl) fun B => codeK_sound tab_ok _ _ _ ?_
  obtain ⟨ht, h4, hvo, hvl, hvs⟩ := worldValid_parts hv
  have hlen := ht.len
  have hvt := hx.votes
  simp (config := { maxSteps := 4000000 }) only [go_sem, simprocAttr, ↓dnA, Tryz.f83, rows_length, encW]
  refine semL_nilA 3 3 3 true (by rfl) (by rfl) (by decide) (by decide) ?_
  refine semL_for tab_ok (fun i : Nat => ⟨38, [(1, .loc 1 0), (3, .row 3 (certsTo w i).length), (8, .sl n5 (rows encI w.votes)), (9, .int .i64 w.votes.length), (10, .int .i64 i)],
      [(1, .var (encW n1 n2 n3 n4 n5 w)), (3, .row true false 3 (rows encC (certsTo w i)))]⟩) (fun i => w.votes.length - i)
    (fun i => i ≤ w.votes.length) 0 [(1, 1), (3, 3)] (Weak.of (by rfl) ?_ ?_ (by rfl)) (by omega) ?_
  · simp (config := { maxSteps := 4000000 }) only [go_sem, simprocAttr, ↓dnA, Tryz.f83, rows_length, encW, frW, wk2, wk1, wkL, wkB, hpW, List.mem_cons, Prod.mk.injEq, exists_eq_left, exists_eq_right, exists_eq]
    try rfl
  · simp (config := { maxSteps := 4000000 }) only [go_sem, simprocAttr, ↓dnA, Tryz.f83, rows_length, nc0, certsTo, List.length_nil, frW, wk2, wk1, wkL, wkB, hpW, List.mem_cons, Prod.mk.injEq, exists_eq_left, exists_eq_right, exists_eq]
  · rintro i hi
    by_cases h : i < w.votes.length
    · have hw : IntKind.i64.wrap ((i : Int) + 1) = ((i + 1 : Nat) : Int) := wsucc h (by omega)
      have hgi : w.votes.getD i 0 = w.votes[i] := by rw [List.getD_eq_getElem?_getD, List.getElem?_eq_getElem h]; rfl
      have hac := certsTo_len w i
      have htk := take_rows encC (certsTo w i) (certsTo w i).length rfl
      by_cases hi0 : i = 0
      · have hd : decide ((i : Int) > 0) = false := by simp; omega
        have hst := certsTo_no (w := w) (k := i) (fun e => by omega)
        simp (config := { maxSteps := 4000000 }) only [go_sem, simprocAttr, ↓dnA, Tryz.f83, rows_length, encW, nlt h, h, nn0, rows_get _ _ _ h, encI, hd, hw]
        refine ⟨i + 1, [(1, 1), (3, 3)], by omega, by dsimp only; omega, Weak.of (by rfl) ?_ ?_ (by rfl)⟩
        · simp (config := { maxSteps := 4000000 }) only [go_sem, simprocAttr, ↓dnA, Tryz.f83, rows_length, encW, hst, frW, wk2, wk1, wkL, wkB, hpW, List.mem_cons, Prod.mk.injEq, exists_eq_left, exists_eq_right, exists_eq]
        · simp (config := { maxSteps := 4000000 }) only [go_sem, simprocAttr, ↓dnA, Tryz.f83, rows_length, hst, frW, wk2, wk1, wkL, wkB, hpW, List.mem_cons, Prod.mk.injEq, exists_eq_left, exists_eq_right, exists_eq]
      · have hd : decide ((i : Int) > 0) = true := by simp; omega
        by_cases hp : 0 < w.votes[i]
        · have hd2 : decide (w.votes[i] > 0) = true := decide_eq_true hp
          have hst := certsTo_yes (w := w) (k := i) ⟨by omega, by rw [hgi]; exact hp⟩
          have hil : i < w.tree.blocks.length := by omega
          have g1 := rows_gd encB1 w.tree.blocks i hil
          have hbl : (w.tree.blk i).list.length < 2 ^ 62 := by
            have := hx.tree.list _ (List.getElem_mem hil)
            rw [w.tree.blk_get i hil] at this
            exact this
          simp (config := { maxSteps := 4000000 }) only [go_sem, simprocAttr, ↓dnA, Tryz.f83, rows_length, encW, nlt h, h, nn0, rows_get _ _ _ h, encI, hd, hd2, nlt hil, hil, g1, encB1, encBk]
          refine semL_drawL tab_ok 9 mixed_ rfl (ord := [(0, []), (1, []), (3, []), (4, []), (5, []), (2, [0, 3, 4, 5]), (6, []), (7, [0]), (8, [])]) (by dsimp only; decide +kernel) ?_
          simp (config := { maxSteps := 4000000 }) only [go_sem, simprocAttr, ↓dnA, Tryz.f83, rows_length, encW, nlt h, h, nn0, rows_get _ _ _ h, encI, hd, hd2, nlt hil, hil, g1, encB1, encBk]
          refine CallTo.det (c_impl_BlockSum none (w.tree.blk i) hbl) fun _ => ?_
          simp (config := { maxSteps := 4000000 }) only [go_sem, simprocAttr, ↓dnA, Tryz.f83, rows_length, encW, nlt h, h, nn0, rows_get _ _ _ h, encI, hd, hd2, nlt hil, hil, g1, encB1, encBk, htk, hw]
          repeat refine And.intro (by first | omega | (simp; done) | (simp; omega) | assumption) ?_
          refine ⟨i + 1, [(1, 1), (35, 3)], by omega, by dsimp only; omega, Weak.of (by rfl) ?_ ?_ (by rfl)⟩
          · simp (config := { maxSteps := 4000000 }) only [go_sem, simprocAttr, ↓dnA, Tryz.f83, rows_length, encW, hst, frW, wk2, wk1, wkL, wkB, hpW, List.mem_cons, Prod.mk.injEq, exists_eq_left, exists_eq_right, exists_eq]
            rw [← rows_snoc]
            unfold certAt encC
            rw [hgi]
            rfl
          · simp (config := { maxSteps := 4000000 }) only [go_sem, simprocAttr, ↓dnA, Tryz.f83, rows_length, hst, List.length_append, frW, wk2, wk1, wkL, wkB, hpW, List.mem_cons, Prod.mk.injEq, exists_eq_left, exists_eq_right, exists_eq]
            try rfl
        · have hd2 : decide (w.votes[i] > 0) = false := decide_eq_false hp
          have hst := certsTo_no (w := w) (k := i) (fun e => hp (by rw [← hgi]; exact e.2))
          simp (config := { maxSteps := 4000000 }) only [go_sem, simprocAttr, ↓dnA, Tryz.f83, rows_length, encW, nlt h, h, nn0, rows_get _ _ _ h, encI, hd, hd2, hw]
          refine ⟨i + 1, [(1, 1), (3, 3)], by omega, by dsimp only; omega, Weak.of (by rfl) ?_ ?_ (by rfl)⟩
          · simp (config := { maxSteps := 4000000 }) only [go_sem, simprocAttr, ↓dnA, Tryz.f83, rows_length, encW, hst, frW, wk2, wk1, wkL, wkB, hpW, List.mem_cons, Prod.mk.injEq, exists_eq_left, exists_eq_right, exists_eq]
          · simp (config := { maxSteps := 4000000 }) only [go_sem, simprocAttr, ↓dnA, Tryz.f83, rows_length, hst, frW, wk2, wk1, wkL, wkB, hpW, List.mem_cons, Prod.mk.injEq, exists_eq_left, exists_eq_right, exists_eq]
    · have hi' : i = w.votes.length := by omega
      subst hi'
      simp (config := { maxSteps := 4000000 }) only [go_sem, simprocAttr, ↓dnA, Tryz.f83, rows_length, nlf h]

theorem c_impl_WorldCerts (n1 n2 n3 n4 n5 : Option Bool) (w : Wld) (hx : WldSz w) :
    Det Tryz.prog 27 [.agg (encW n1 n2 n3 n4 n5 w)] (.osl false 3 (rows encC (worldCerts w))) := by
  refine fspec_det tab_ok Tryz.call27 Tryz.func27 rfl 8 Tryz.ntmps27 (of_decide_eq_true rfl) fun B => codeK_sound tab_ok _ _ _ ?_
  simp (config := { maxSteps := 4000000 }) only [go_sem, simprocAttr, ↓dnA, Tryz.f27, rows_length, encW]
  refine CallTo.det (c_impl_WorldValid n1 n2 n3 n4 n5 w hx) fun _ => ?_
  cases h0 : worldValid w with
  | false => simp (config := { maxSteps := 4000000 }) only [go_sem, simprocAttr, ↓dnA, Tryz.f27, rows_length, encW, h0, worldCerts_no h0, rows_nil]
  | true =>
    simp (config := { maxSteps := 4000000 }) only [go_sem, simprocAttr, ↓dnA, Tryz.f27, rows_length, encW, h0]
    refine CallTo.det (c_impl_certs n1 n2 n3 n4 n5 w hx h0) fun _ => ?_
    simp (config := { maxSteps := 4000000 }) only [go_sem, simprocAttr, ↓dnA, Tryz.f27, rows_length, encW, h0, worldCerts_yes h0]

theorem worldHead_yes {w : Wld} (h : worldValid w = true) : worldHead w = headW w := by unfold worldHead; rw [if_pos h]
theorem worldHead_no {w : Wld} (h : worldValid w = false) : worldHead w = -1 := by unfold worldHead; rw [h]; rfl

theorem c_impl_head (n1 n2 n3 n4 n5 : Option Bool) (w : Wld) (hx : WldSz w) (hv : worldValid w = true) :
    Det Tryz.prog 82 [.agg (encW n1 n2 n3 n4 n5 w)] (.int .i64 (headW w)) := by
  refine fspec_det tab_ok Tryz.call82 Tryz.func82 rfl 8 Tryz.ntmps82 (of_decide_eq_true rfl) fun B => codeK_sound tab_ok _ _ _ ?_
  have hcl := certsTo_len w w.votes.length
  have hvt := hx.votes
  unfold headW
  simp (config := { maxSteps := 4000000 }) only [go_sem, simprocAttr, ↓dnA, Tryz.f82, rows_length, encW]
  refine semL_draw tab_ok mixed_ rfl (ord := [(0, []), (1, []), (2, []), (3, [0, 1]), (4, []), (5, [])]) (by dsimp only; decide +kernel) ?_
  simp (config := { maxSteps := 4000000 }) only [go_sem, simprocAttr, ↓dnA, Tryz.f82, rows_length, encW]
  refine CallTo.det (c_impl_certs n1 n2 n3 n4 n5 w hx hv) fun _ => ?_
  simp (config := { maxSteps := 4000000 }) only [go_sem, simprocAttr, ↓dnA, Tryz.f82, rows_length, encW]
  refine CallTo.det (c_impl_CommittedTo n1 n2 n3 none w.tree (certsTo w w.votes.length) hx.tree) fun _ => ?_
  simp (config := { maxSteps := 4000000 }) only [go_sem, simprocAttr, ↓dnA, Tryz.f82, rows_length, encW]

theorem c_impl_WorldHead (n1 n2 n3 n4 n5 : Option Bool) (w : Wld) (hx : WldSz w) :
    Det Tryz.prog 26 [.agg (encW n1 n2 n3 n4 n5 w)] (.int .i64 (worldHead w)) := by
  refine fspec_det tab_ok Tryz.call26 Tryz.func26 rfl 8 Tryz.ntmps26 (of_decide_eq_true rfl) fun B => codeK_sound tab_ok _ _ _ ?_
  simp (config := { maxSteps := 4000000 }) only [go_sem, simprocAttr, ↓dnA, Tryz.f26, rows_length, encW]
  refine CallTo.det (c_impl_WorldValid n1 n2 n3 n4 n5 w hx) fun _ => ?_
  cases h0 : worldValid w with
  | false => simp (config := { maxSteps := 4000000 }) only [go_sem, simprocAttr, ↓dnA, Tryz.f26, rows_length, encW, h0, worldHead_no h0]
  | true =>
    simp (config := { maxSteps := 4000000 }) only [go_sem, simprocAttr, ↓dnA, Tryz.f26, rows_length, encW, h0]
    refine CallTo.det (c_impl_head n1 n2 n3 n4 n5 w hx h0) fun _ => ?_
    simp (config := { maxSteps := 4000000 }) only [go_sem, simprocAttr, ↓dnA, Tryz.f26, rows_length, encW, h0, worldHead_yes h0]

end Go.Proofs.YthcfafpjkbbaoaaGreat

/- Bounds of sums; next blocks are valid; trees that grow stay valid: plain lemmas. -/
set_option linter.unusedSimpArgs false
set_option linter.unusedVariables false
set_option maxRecDepth 20000
set_option maxHeartbeats 4000000
namespace Go.Proofs.YthcfafpjkbbaoaaGreat
open Go Go.RowKit

theorem sumI_bd : ∀ (l : List Int) (s : Int), 0 ≤ s ∧ s ≤ 1000002 → 0 ≤ sumI s l ∧ sumI s l ≤ 1000002
  | [], s, h => h
  | x :: l, s, _ => sumI_bd l (moreI s x) (by have := moreI_bd s x; omega)

theorem blockSum_in {b : Block} (h : blockValid b = true) : 0 ≤ blockSum b ∧ blockSum b ≤ 1000002 := by
  unfold blockSum
  rw [if_pos h]
  exact sumI_bd _ _ (by decide)

end Go.Proofs.YthcfafpjkbbaoaaGreat

/- Plain laws of certificates and worlds. -/
set_option linter.unusedSimpArgs false
set_option linter.unusedVariables false
set_option maxRecDepth 20000
set_option maxHeartbeats 4000000
namespace Go.Proofs.YthcfafpjkbbaoaaGreat
open Go Go.RowKit

/-- What one list marks the other marks too. -/
structure LeB (l m : List Bool) : Prop where
  len : l.length = m.length
  le : ∀ k, l.getD k false = true → m.getD k false = true
theorem LeB.refl (l : List Bool) : LeB l l := ⟨rfl, fun _ h => h⟩
theorem LeB.trans {a b c : List Bool} (h : LeB a b) (g : LeB b c) : LeB a c := ⟨h.len.trans g.len, fun k hk => g.le k (h.le k hk)⟩
theorem getD_set_true (l : List Bool) (i k : Nat) (h : l.getD k false = true) : (l.set i true).getD k false = true := by
  rw [List.getD_eq_getElem?_getD] at h ⊢
  rw [List.getElem?_set]
  split
  · rename_i e
    subst e
    split
    · rfl
    · rename_i e2
      rw [List.getElem?_eq_none (by omega)] at h
      cases h
  · exact h
theorem findB_blk {t : Tree} (ht : TreeOk t) {i : Nat} (h : i < t.blocks.length) : findB t.blocks (blockSum (t.blk i)) = (i : Int) :=
  (findB_self t i h).2 fun k hk => ht.dist k i hk h
end Go.Proofs.YthcfafpjkbbaoaaGreat

/- Members that keep to the rules: what is committed stays on one way: plain. -/
set_option linter.unusedSimpArgs false
set_option linter.unusedVariables false
set_option maxRecDepth 20000
set_option maxHeartbeats 4000000
namespace Go.Proofs.YthcfafpjkbbaoaaGreat
open Go Go.RowKit

theorem orF : ∀ (a : Fin 16) (m k : Fin 4), hasB (orB (a.val : Int) m.val) k.val = (hasB (a.val : Int) k.val || decide (m = k)) ∧ 0 ≤ orB (a.val : Int) m.val ∧ orB (a.val : Int) m.val ≤ 15 ∧ many (a.val : Int) ≤ many (orB (a.val : Int) m.val) := by decide +kernel
theorem or_facts {v : Int} (h : 0 ≤ v ∧ v ≤ 15) {m k : Nat} (hm : m < 4) (hk : k < 4) : hasB (orB v m) k = (hasB v k || decide (m = k)) ∧ (0 ≤ orB v m ∧ orB v m ≤ 15) ∧ many v ≤ many (orB v m) := by
  obtain ⟨h1, h2, h3, h4⟩ := orF ⟨v.toNat, by omega⟩ ⟨m, hm⟩ ⟨k, hk⟩
  have e : ((v.toNat : Nat) : Int) = v := by omega
  simp only [Fin.mk.injEq] at h1 h2 h3 h4
  rw [e] at h1 h2 h3 h4
  exact ⟨h1, ⟨h2, h3⟩, h4⟩
theorem quorumF : ∀ a b : Fin 16, many (a.val : Int) ≥ 3 → many (b.val : Int) ≥ 3 → ∃ m : Fin 3, hasB (a.val : Int) m.val = true ∧ hasB (b.val : Int) m.val = true := by decide +kernel
/-- Two quorums have a member that keeps to the rules. -/
theorem quorum {a b : Int} (ha : 0 ≤ a ∧ a ≤ 15) (hb : 0 ≤ b ∧ b ≤ 15) (h1 : many a ≥ 3) (h2 : many b ≥ 3) : ∃ m, m < 3 ∧ hasB a m = true ∧ hasB b m = true := by
  have e1 : ((a.toNat : Nat) : Int) = a := by omega
  have e2 : ((b.toNat : Nat) : Int) = b := by omega
  have := quorumF ⟨a.toNat, by omega⟩ ⟨b.toNat, by omega⟩
  dsimp only at this
  rw [e1, e2] at this
  obtain ⟨m, g1, g2⟩ := this h1 h2
  exact ⟨m.val, m.isLt, g1, g2⟩
theorem manyPosF : ∀ a : Fin 16, many (a.val : Int) ≥ 3 → 0 < (a.val : Int) := by decide +kernel
theorem many_pos {a : Int} (ha : 0 ≤ a ∧ a ≤ 15) (h : many a ≥ 3) : 0 < a := by
  have e1 : ((a.toNat : Nat) : Int) = a := by omega
  have := manyPosF ⟨a.toNat, by omega⟩
  dsimp only at this
  rw [e1] at this
  exact this h

def vt (w : Wld) (k : Nat) : Int := w.votes.getD k 0
def vo (w : Wld) (m : Nat) : Voter := w.voters.getD m ⟨0, 0⟩
def cw (w : Wld) (k : Nat) : Bool := k == 0 || decide (many (vt w k) ≥ 3)
def gp (t : Tree) (k : Nat) : Int := t.bef (t.bef k).toNat

theorem vt_bd {w : Wld} (h : worldValid w = true) (k : Nat) : 0 ≤ vt w k ∧ vt w k ≤ 15 := by
  obtain ⟨_, _, _, _, h5⟩ := worldValid_parts h
  unfold vt
  by_cases hk : k < w.votes.length
  · have e : w.votes.getD k 0 = w.votes[k] := by simp [List.getD_eq_getElem?_getD, hk]
    rw [e]
    exact h5 _ (List.getElem_mem hk)
  · have e : w.votes.getD k 0 = 0 := by simp [List.getD_eq_getElem?_getD, hk]
    rw [e]; decide

theorem cw_pos {w : Wld} (h : worldValid w = true) {k : Nat} (hk : 0 < k) (hc : cw w k = true) : many (vt w k) ≥ 3 := by
  unfold cw at hc
  rw [Bool.or_eq_true] at hc
  rcases hc with e | e
  · simp at e; omega
  · exact of_decide_eq_true e

/-- What holds of a world whose votes were given by the rules. -/
structure Safe (w : Wld) : Prop where
  valid : worldValid w = true
  zero : ∀ m, m < 3 → hasB (vt w 0) m = false
  last : ∀ m i, m < 3 → i < w.tree.blocks.length → hasB (vt w i) m = true → (w.tree.blk i).view ≤ (vo w m).last
  lock : ∀ m i, m < 3 → i < w.tree.blocks.length → hasB (vt w i) m = true → 0 ≤ gp w.tree i → (w.tree.blk (gp w.tree i).toNat).view ≤ (vo w m).lock
  once : ∀ m i j, m < 3 → i < w.tree.blocks.length → j < w.tree.blocks.length → hasB (vt w i) m = true → hasB (vt w j) m = true → (w.tree.blk i).view = (w.tree.blk j).view → i = j
  par : ∀ m i, m < 3 → i < w.tree.blocks.length → hasB (vt w i) m = true → cw w (w.tree.bef i).toNat = true
  ord : ∀ m i j, m < 3 → i < w.tree.blocks.length → j < w.tree.blocks.length → hasB (vt w i) m = true → hasB (vt w j) m = true → (w.tree.blk i).view < (w.tree.blk j).view → 0 ≤ gp w.tree i →
    (w.tree.blk (gp w.tree i).toNat).view ≤ (w.tree.blk (w.tree.bef j).toNat).view

/-- A vote that is new. -/
structure NewVote (w w' : Wld) (q k : Nat) : Prop where
  pos : 0 < k
  last : (vo w q).last < (w.tree.blk k).view
  last' : (w.tree.blk k).view ≤ (vo w' q).last
  cert : cw w (w.tree.bef k).toNat = true
  lock : (vo w q).lock ≤ (w.tree.blk (w.tree.bef k).toNat).view
  lock' : 0 ≤ gp w.tree k → (w.tree.blk (gp w.tree k).toNat).view ≤ (vo w' q).lock

theorem safe_gen {w w' : Wld} (hs : Safe w) (ht : w'.tree = w.tree) (hv : worldValid w' = true) (n : Nat)
    (hvo : ∀ q, q < 3 → (vo w q).last ≤ (vo w' q).last ∧ (vo w q).lock ≤ (vo w' q).lock) (hcw : ∀ k, cw w k = true → cw w' k = true)
    (hnew : ∀ q k, q < 3 → k < w.tree.blocks.length → hasB (vt w' k) q = true → hasB (vt w k) q = true ∨ (k = n ∧ NewVote w w' q k)) : Safe w' := by
  have hpos : 0 < w.tree.blocks.length := (worldValid_parts hs.valid).1.len.1
  refine ⟨hv, fun m hm => ?_, fun m i hm hi h => ?_, fun m i hm hi h hg => ?_, fun m i j hm hi hj h1 h2 e => ?_, fun m i hm hi h => ?_, fun m i j hm hi hj h1 h2 hlt hg => ?_⟩
  · cases e : hasB (vt w' 0) m with
    | false => rfl
    | true =>
      rcases hnew m 0 hm hpos e with g | ⟨_, g⟩
      · rw [hs.zero m hm] at g; cases g
      · exact absurd g.pos (Nat.lt_irrefl 0)
  · rw [ht] at hi ⊢
    rcases hnew m i hm hi h with g | ⟨_, g⟩
    · exact Int.le_trans (hs.last m i hm hi g) (hvo m hm).1
    · exact g.last'
  · rw [ht] at hi hg ⊢
    rcases hnew m i hm hi h with g | ⟨_, g⟩
    · exact Int.le_trans (hs.lock m i hm hi g hg) (hvo m hm).2
    · exact g.lock' hg
  · rw [ht] at hi hj e
    rcases hnew m i hm hi h1 with g1 | ⟨e1, g1⟩ <;> rcases hnew m j hm hj h2 with g2 | ⟨e2, g2⟩
    · exact hs.once m i j hm hi hj g1 g2 e
    · have a := hs.last m i hm hi g1
      have b := g2.last
      omega
    · have a := hs.last m j hm hj g2
      have b := g1.last
      omega
    · rw [e1, e2]
  · rw [ht] at hi ⊢
    rcases hnew m i hm hi h with g | ⟨_, g⟩
    · exact hcw _ (hs.par m i hm hi g)
    · exact hcw _ g.cert
  · rw [ht] at hi hj hlt hg ⊢
    rcases hnew m i hm hi h1 with g1 | ⟨e1, g1⟩ <;> rcases hnew m j hm hj h2 with g2 | ⟨e2, g2⟩
    · exact hs.ord m i j hm hi hj g1 g2 hlt hg
    · exact Int.le_trans (hs.lock m i hm hi g1 hg) g2.lock
    · have a := hs.last m j hm hj g2
      have b := g1.last
      omega
    · rw [e1, e2] at hlt; omega

theorem vt_voted {w : Wld} {m n : Int} (h : n.toNat < w.votes.length) (k : Nat) : (voted w m n).getD k 0 = if k = n.toNat then orB (vt w n.toNat) m.toNat else vt w k := by
  unfold voted vt
  rw [List.getD_eq_getElem?_getD, List.getElem?_set]
  by_cases e : k = n.toNat
  · subst e
    rw [if_pos rfl, if_pos rfl, if_pos h]; rfl
  · rw [if_neg (fun x => e x.symm), if_neg e, ← List.getD_eq_getElem?_getD]

theorem certW_cw {w : Wld} {k : Nat} (h : (certW w).getD k false = true) : cw w k = true := by
  by_cases hk : k < w.votes.length
  · rw [certW_get w k hk] at h
    unfold cw vt
    have e : w.votes.getD k 0 = w.votes[k] := by simp [List.getD_eq_getElem?_getD, hk]
    rw [e]; exact h
  · rw [List.getD_eq_getElem?_getD, List.getElem?_eq_none (by rw [certW_len]; omega)] at h
    cases h

theorem votes_mono {w w' : Wld} (hv : worldValid w = true) {n m : Nat} (hm : m < 4) (h : ∀ k, vt w' k = if k = n then orB (vt w n) m else vt w k) : ∀ k, cw w k = true → cw w' k = true := by
  intro k hk
  unfold cw at hk ⊢
  rw [Bool.or_eq_true] at hk ⊢
  rcases hk with e | e
  · exact .inl e
  · refine .inr (decide_eq_true ?_)
    have e := of_decide_eq_true e
    rw [h k]
    split
    · rename_i e2
      subst e2
      have := (or_facts (vt_bd hv k) hm hm).2.2
      omega
    · exact e

theorem safe_vote {w : Wld} (hs : Safe w) (m n : Int) : Safe (voteW w m n).1 := by
  by_cases h : VoteOk w m n
  · obtain ⟨⟨hm0, hm3⟩, ⟨hn1, hn2⟩, hb⟩ := id h
    have hn : n.toNat < w.votes.length := by omega
    have hval := voteW_valid hs.valid m n
    obtain ⟨ht, hv4, _, hvl, _⟩ := worldValid_parts hs.valid
    by_cases h3 : m = 3
    · have e := voteW_3 h h3
      rw [e] at hval ⊢
      dsimp only at hval ⊢
      have hvt : ∀ k, vt ⟨w.tree, w.voters, voted w m n⟩ k = if k = n.toNat then orB (vt w n.toNat) m.toNat else vt w k := fun k => vt_voted hn k
      refine safe_gen hs rfl hval n.toNat (fun q _ => ⟨Int.le_refl _, Int.le_refl _⟩) (votes_mono hs.valid (by omega) hvt) fun q k hq hk hh => .inl ?_
      rw [hvt k] at hh
      split at hh
      · rename_i e2
        subst e2
        rw [(or_facts (vt_bd hs.valid n.toNat) (by omega) (by omega)).1, Bool.or_eq_true] at hh
        rcases hh with hh | hh
        · exact hh
        · have := of_decide_eq_true hh; omega
      · exact hh
    · cases hr : (voteR w m n).2 with
      | false => rw [voteW_not h h3 hr]; exact hs
      | true =>
        have e := voteW_yes h h3 hr
        rw [e] at hval ⊢
        dsimp only at hval ⊢
        have hvt : ∀ k, vt ⟨w.tree, w.voters.set m.toNat (voteR w m n).1, voted w m n⟩ k = if k = n.toNat then orB (vt w n.toNat) m.toNat else vt w k := fun k => vt_voted hn k
        have hok : MayOk (vo w m.toNat) w.tree (certW w) n ∧ (voteR w m n).1 = ⟨(w.tree.blk n.toNat).view, if gp w.tree n.toNat ≥ 0 then max (vo w m.toNat).lock (w.tree.blk (gp w.tree n.toNat).toNat).view else (vo w m.toNat).lock⟩ := by
          unfold voteR voteFor at hr ⊢
          split at hr
          · rename_i g1
            split at hr
            · rename_i g2
              rw [if_pos g1, if_pos g2]
              exact ⟨mayOk_of g2, rfl⟩
            · cases hr
          · cases hr
        obtain ⟨hmay, hvr⟩ := hok
        have hvo : ∀ q, vo ⟨w.tree, w.voters.set m.toNat (voteR w m n).1, voted w m n⟩ q = if q = m.toNat then (voteR w m n).1 else vo w q := by
          intro q
          unfold vo
          rw [List.getD_eq_getElem?_getD, List.getElem?_set]
          by_cases e : q = m.toNat
          · subst e
            rw [if_pos rfl, if_pos rfl, if_pos (by omega)]; rfl
          · rw [if_neg (fun x => e x.symm), if_neg e, ← List.getD_eq_getElem?_getD]
        have hl1 := hmay.last
        have hl2 := hmay.lock
        refine safe_gen hs rfl hval n.toNat (fun q hq => ?_) (votes_mono hs.valid (by omega) hvt) fun q k hq hk hh => ?_
        · rw [hvo q]
          split
          · rename_i e2
            subst e2
            rw [hvr]
            dsimp only
            refine ⟨by omega, ?_⟩
            split
            · exact Int.le_max_left _ _
            · exact Int.le_refl _
          · exact ⟨Int.le_refl _, Int.le_refl _⟩
        · rw [hvt k] at hh
          split at hh
          · rename_i e2
            subst e2
            rw [(or_facts (vt_bd hs.valid n.toNat) (by omega) (by omega)).1, Bool.or_eq_true] at hh
            rcases hh with hh | hh
            · exact .inl hh
            · have e3 : q = m.toNat := (of_decide_eq_true hh).symm
              subst e3
              refine .inr ⟨rfl, ⟨by omega, by omega, ?_, certW_cw hmay.cert, by omega, fun hg => ?_⟩⟩
              · rw [hvo, if_pos rfl, hvr]; exact Int.le_refl _
              · rw [hvo, if_pos rfl, hvr]
                dsimp only
                rw [if_pos hg]
                exact Int.le_max_right _ _
          · exact .inl hh
  · rw [voteW_no h]; exact hs

/-- What is certified stays certified. -/
structure Later (w w' : Wld) : Prop where
  tree : w'.tree = w.tree
  cert : ∀ k, cw w k = true → cw w' k = true
  bits : ∀ k q, q < 4 → hasB (vt w k) q = true → hasB (vt w' k) q = true
theorem Later.refl (w : Wld) : Later w w := ⟨rfl, fun _ h => h, fun _ _ _ h => h⟩
theorem Later.trans {a b c : Wld} (h : Later a b) (g : Later b c) : Later a c := ⟨g.tree.trans h.tree, fun k hk => g.cert k (h.cert k hk), fun k q hq hk => g.bits k q hq (h.bits k q hq hk)⟩
theorem later_vote {w : Wld} (hv : worldValid w = true) (m n : Int) : Later w (voteW w m n).1 := by
  by_cases h : VoteOk w m n
  · obtain ⟨⟨hm0, hm3⟩, ⟨hn1, hn2⟩, hb⟩ := id h
    have hn : n.toNat < w.votes.length := by omega
    have key : ∀ vs : List Voter, Later w ⟨w.tree, vs, voted w m n⟩ := fun vs => by
      have hvt : ∀ k, vt ⟨w.tree, vs, voted w m n⟩ k = if k = n.toNat then orB (vt w n.toNat) m.toNat else vt w k := fun k => vt_voted hn k
      refine ⟨rfl, votes_mono hv (by omega) hvt, fun k q hq hk => ?_⟩
      rw [hvt k]
      split
      · rename_i e2
        subst e2
        rw [(or_facts (vt_bd hv n.toNat) (by omega) hq).1, hk]; rfl
      · exact hk
    by_cases h3 : m = 3
    · rw [voteW_3 h h3]; exact key _
    · cases hr : (voteR w m n).2 with
      | false => rw [voteW_not h h3 hr]; exact Later.refl w
      | true => rw [voteW_yes h h3 hr]; exact key _
  · rw [voteW_no h]; exact Later.refl w

theorem later_foldl {p : Wld × Int} (hv : worldValid p.1 = true) : ∀ (sc : List Int), Later p.1 (sc.foldl stepV p).1 ∧ worldValid (sc.foldl stepV p).1 = true
  | [] => ⟨Later.refl _, hv⟩
  | m :: r => by
    have h := later_foldl (p := stepV p m) (voteW_valid hv _ _) r
    exact ⟨(later_vote hv (m.tmod 4) (m.tdiv 4)).trans h.1, h.2⟩
theorem safe_foldl {p : Wld × Int} (hs : Safe p.1) : ∀ (sc : List Int), Safe (sc.foldl stepV p).1
  | [] => hs
  | m :: r => safe_foldl (p := stepV p m) (safe_vote hs _ _) r

theorem hasB_zero (m : Nat) : hasB 0 m = false := by simp [hasB]
theorem worldOf_valid {t : Tree} (ht : TreeOk t) : worldValid (worldOf t) = true := by
  unfold worldOf
  rw [if_pos (treeValid_true ht)]
  unfold worldValid
  simp [treeValid_true ht, voterOk, voterValid, inB]
theorem safe_fresh {t : Tree} (ht : TreeOk t) : Safe (worldOf t) := by
  have hv := worldOf_valid ht
  have hz : ∀ k, vt (worldOf t) k = 0 := fun k => by
    unfold vt worldOf
    rw [if_pos (treeValid_true ht)]
    simp only [List.getD_eq_getElem?_getD, List.getElem?_replicate]
    split <;> rfl
  have hf : ∀ k m, hasB (vt (worldOf t) k) m = false := fun k m => by rw [hz k, hasB_zero]
  refine ⟨hv, fun m _ => hf 0 m, fun m i _ _ h => ?_, fun m i _ _ h => ?_, fun m i j _ _ _ h => ?_, fun m i _ _ h => ?_, fun m i j _ _ _ h => ?_⟩
  all_goals (rw [hf] at h; cases h)

/-- One block of a view is certified. -/
theorem view_once {w : Wld} (hs : Safe w) {i j : Nat} (hi : i < w.tree.blocks.length) (hj : j < w.tree.blocks.length) (ci : cw w i = true) (cj : cw w j = true) (e : (w.tree.blk i).view = (w.tree.blk j).view) : i = j := by
  have ht := (worldValid_parts hs.valid).1
  rcases Nat.eq_zero_or_pos i with rfl | h0 <;> rcases Nat.eq_zero_or_pos j with rfl | h1
  · rfl
  · have := view0_lt ht (j + 1) j (by omega) h1 hj; omega
  · have := view0_lt ht (i + 1) i (by omega) h0 hi; omega
  · obtain ⟨m, hm, g1, g2⟩ := quorum (vt_bd hs.valid i) (vt_bd hs.valid j) (cw_pos hs.valid h0 ci) (cw_pos hs.valid h1 cj)
    exact hs.once m i j hm hi hj g1 g2 e

/-- The block b, with those behind it, is committed. -/
structure Three (w : Wld) (b c d : Nat) : Prop where
  hd : d < w.tree.blocks.length
  dc : w.tree.bef d = (c : Int)
  cb : w.tree.bef c = (b : Int)
  kb : cw w b = true
  kc : cw w c = true
  kd : cw w d = true
  vc : (w.tree.blk b).view + 1 = (w.tree.blk c).view
  vd : (w.tree.blk c).view + 1 = (w.tree.blk d).view

theorem mem_back_self {t : Tree} (ht : TreeOk t) {k : Nat} (h : k < t.blocks.length) : (k : Int) ∈ back t (k : Int) := by
  rw [(back_cons ht k h).1]; exact List.mem_cons_self ..
theorem mem_back_bef {t : Tree} (ht : TreeOk t) {k : Nat} (h : k < t.blocks.length) {x : Int} (hx : x ∈ back t (t.bef k)) : x ∈ back t (k : Int) := by
  rw [(back_cons ht k h).1]; exact List.mem_cons_of_mem _ hx

theorem three_safe {w : Wld} (hs : Safe w) {b c d : Nat} (h3 : Three w b c d) : ∀ (m e : Nat), e < m → e < w.tree.blocks.length → cw w e = true → (w.tree.blk b).view ≤ (w.tree.blk e).view → (b : Int) ∈ back w.tree (e : Int)
  | 0, e, h, _, _, _ => by omega
  | m + 1, e, h, he, ce, hve => by
    have ht := (worldValid_parts hs.valid).1
    have hd0 : d ≠ 0 := fun x => by have := h3.dc; rw [x, ht.bef0] at this; omega
    have hc0 : c ≠ 0 := fun x => by have := h3.cb; rw [x, ht.bef0] at this; omega
    have hcd : c < d := by have := (ht.link d (by omega) h3.hd).hi; rw [h3.dc] at this; omega
    have hcl : c < w.tree.blocks.length := by have := h3.hd; omega
    have hbc : b < c := by have := (ht.link c (by omega) hcl).hi; rw [h3.cb] at this; omega
    have hbl : b < w.tree.blocks.length := by omega
    have v1 := h3.vc
    have v2 := h3.vd
    by_cases e0 : (w.tree.blk e).view = (w.tree.blk b).view
    · rw [view_once hs he hbl ce h3.kb e0]; exact mem_back_self ht hbl
    · by_cases e1 : (w.tree.blk e).view = (w.tree.blk c).view
      · rw [view_once hs he hcl ce h3.kc e1]
        exact mem_back_bef ht hcl (by rw [h3.cb]; exact mem_back_self ht hbl)
      · by_cases e2 : (w.tree.blk e).view = (w.tree.blk d).view
        · rw [view_once hs he h3.hd ce h3.kd e2]
          exact mem_back_bef ht h3.hd (by rw [h3.dc]; exact mem_back_bef ht hcl (by rw [h3.cb]; exact mem_back_self ht hbl))
        · have he0 : 0 < e := by
            rcases Nat.eq_zero_or_pos e with rfl | x
            · rcases Nat.eq_zero_or_pos b with rfl | y
              · exact absurd rfl e0
              · have := view0_lt ht (b + 1) b (by omega) y hbl; omega
            · exact x
          obtain ⟨q, hq, g1, g2⟩ := quorum (vt_bd hs.valid d) (vt_bd hs.valid e) (cw_pos hs.valid (by omega) h3.kd) (cw_pos hs.valid he0 ce)
          have hg : gp w.tree d = (b : Int) := by unfold gp; rw [h3.dc, Int.toNat_natCast, h3.cb]
          have ho := hs.ord q d e hq h3.hd he g1 g2 (by omega) (by rw [hg]; omega)
          rw [hg, Int.toNat_natCast] at ho
          have hl := ht.link e he0 he
          obtain ⟨p, hp⟩ : ∃ p : Nat, w.tree.bef e = (p : Int) := ⟨(w.tree.bef e).toNat, by have := hl.lo; omega⟩
          have hpe : p < e := by have := hl.hi; omega
          have hcp := hs.par q e hq he g2
          rw [hp, Int.toNat_natCast] at hcp ho
          refine mem_back_bef ht he ?_
          rw [hp]
          exact three_safe hs h3 m p (by omega) (by omega) hcp ho

/-! What the certificates of a world certify. -/
theorem certBlock_at {w : Wld} (h : worldValid w = true) {j : Nat} (h0 : 0 < j) (hj : j < w.votes.length) (hp : 0 < vt w j) : certBlock w.tree (certAt w j) = if many (vt w j) ≥ 3 then (j : Int) else -1 := by
  obtain ⟨ht, _, _, hl, hv⟩ := worldValid_parts h
  have hjb : j < w.tree.blocks.length := by omega
  have hb := ht.valid j hjb
  have hc : certValid (certAt w j) = true := by
    unfold certValid certAt
    simp only [Bool.and_eq_true]
    exact ⟨⟨inB_iff.2 (blockSum_in hb), inB_iff.2 (view_bd hb)⟩, inB_iff.2 (vt_bd h j)⟩
  unfold certBlock certCounts
  rw [hc, Bool.true_and]
  have hf : findB w.tree.blocks (certAt w j).sum = (j : Int) := findB_blk ht hjb
  rw [hf, if_neg (by omega : ¬ ((j : Int) < 0)), Int.toNat_natCast]
  by_cases hm : many (vt w j) ≥ 3
  · have hm' : decide (many (certAt w j).signers ≥ 3) = true := decide_eq_true hm
    rw [if_pos hm', if_pos hm]
    exact if_pos rfl
  · have hm' : decide (many (certAt w j).signers ≥ 3) = false := decide_eq_false hm
    rw [hm', if_neg hm]; rfl

def certUp (w : Wld) (i : Nat) : List Bool := (List.range w.tree.blocks.length).map fun k => k == 0 || (decide (k < i) && decide (many (vt w k) ≥ 3))
theorem certUp_len (w : Wld) (i : Nat) : (certUp w i).length = w.tree.blocks.length := by simp [certUp]
theorem certUp_get (w : Wld) (i k : Nat) (hk : k < w.tree.blocks.length) : (certUp w i)[k]'(by rw [certUp_len]; exact hk) = (k == 0 || (decide (k < i) && decide (many (vt w k) ≥ 3))) := by simp [certUp]

theorem certF_certs {w : Wld} (h : worldValid w = true) : ∀ i, i ≤ w.votes.length → certF w.tree (certsTo w i) (certs0 w.tree.blocks.length) = certUp w i
  | 0, _ => by
    apply List.ext_getElem
    · simp [certF, certsTo, certs0, certUp_len]
    · intro k h1 h2
      rw [certUp_len] at h2
      rw [certUp_get w 0 k h2]
      simp only [certF, certsTo, List.foldl_nil, certs0, List.getElem_set, List.getElem_replicate]
      by_cases hk : k = 0
      · subst hk; simp
      · simp [hk, Ne.symm hk]
  | i + 1, hi => by
    have ih := certF_certs h i (by omega)
    have hl := (worldValid_parts h).2.2.2.1
    unfold certsTo
    split
    · rename_i g
      have hcb := certBlock_at h g.1 (by omega) g.2
      have e : certF w.tree (certsTo w i ++ [certAt w i]) (certs0 w.tree.blocks.length) = certStep w.tree (certUp w i) (certAt w i) := by
        unfold certF at ih ⊢
        rw [List.foldl_append, ih]; rfl
      rw [e]
      unfold certStep
      rw [hcb]
      by_cases hm : many (vt w i) ≥ 3
      · rw [if_pos hm, if_neg (by omega : ¬ ((i : Int) < 0)), Int.toNat_natCast]
        apply List.ext_getElem
        · simp [certUp_len]
        · intro k h1 h2
          rw [certUp_len] at h2
          rw [certUp_get w _ k h2, List.getElem_set]
          by_cases hk : i = k
          · subst hk; simp [hm]
          · rw [if_neg hk, certUp_get w _ k h2]
            have : decide (k < i) = decide (k < i + 1) := by
              by_cases x : k < i
              · simp [x]; omega
              · have : ¬ k < i + 1 := by omega
                simp [x, this]
            rw [this]
      · rw [if_neg hm]
        rw [if_pos (by decide : (-1 : Int) < 0)]
        apply List.ext_getElem
        · simp [certUp_len]
        · intro k h1 h2
          rw [certUp_len] at h2
          rw [certUp_get w _ k h2, certUp_get w _ k h2]
          by_cases hk : i = k
          · subst hk; simp [hm]
          · have : decide (k < i) = decide (k < i + 1) := by
              by_cases x : k < i
              · simp [x]; omega
              · have : ¬ k < i + 1 := by omega
                simp [x, this]
            rw [this]
    · rename_i g
      rw [ih]
      apply List.ext_getElem
      · simp [certUp_len]
      · intro k h1 h2
        rw [certUp_len] at h2
        rw [certUp_get w _ k h2, certUp_get w _ k h2]
        by_cases hk : i = k
        · subst hk
          by_cases h0 : i = 0
          · subst h0; simp
          · have hnm : ¬ many (vt w i) ≥ 3 := fun hm => g ⟨by omega, many_pos (vt_bd h i) hm⟩
            simp [hnm]
        · have : decide (k < i) = decide (k < i + 1) := by
            by_cases x : k < i
            · simp [x]; omega
            · have : ¬ k < i + 1 := by omega
              simp [x, this]
          rw [this]

theorem certL_world {w : Wld} (h : worldValid w = true) {k : Nat} (hk : k < w.tree.blocks.length) : (certL w.tree (certsTo w w.votes.length)).getD k false = cw w k := by
  have hl := (worldValid_parts h).2.2.2.1
  unfold certL
  rw [certF_certs h _ (Nat.le_refl _), List.getD_eq_getElem?_getD, List.getElem?_eq_getElem (by rw [certUp_len]; exact hk), certUp_get w _ k hk]
  show (k == 0 || _) = _
  unfold cw
  rw [hl]
  simp [hk]

/-! Heads. -/
theorem fltF_mem (p : Nat → Bool) : ∀ (f i : Nat) (x : Int), x ∈ fltF p f i ↔ ∃ k : Nat, i ≤ k ∧ k < i + f ∧ p k = true ∧ x = (k : Int)
  | 0, i, x => by
    simp only [fltF, List.not_mem_nil, false_iff]
    rintro ⟨k, h1, h2, _⟩; omega
  | f + 1, i, x => by
    unfold fltF
    have ih := fltF_mem p f (i + 1) x
    split
    · rename_i hp
      rw [List.mem_cons, ih]
      constructor
      · rintro (rfl | ⟨k, h1, h2, h3, h4⟩)
        · exact ⟨i, Nat.le_refl _, by omega, hp, rfl⟩
        · exact ⟨k, by omega, by omega, h3, h4⟩
      · rintro ⟨k, h1, h2, h3, h4⟩
        by_cases e : k = i
        · left; rw [h4, e]
        · right; exact ⟨k, by omega, by omega, h3, h4⟩
    · rename_i hp
      rw [ih]
      constructor
      · rintro ⟨k, h1, h2, h3, h4⟩; exact ⟨k, by omega, by omega, h3, h4⟩
      · rintro ⟨k, h1, h2, h3, h4⟩
        by_cases e : k = i
        · subst e; exact absurd h3 hp
        · exact ⟨k, by omega, by omega, h3, h4⟩

theorem headsTo_mem (t : Tree) (ce : List Bool) (b : Nat) : ∀ i, (headsTo t ce i).getD b false = true → ∃ d c : Nat, d < i ∧ t.bef d = (c : Int) ∧ t.bef c = (b : Int) ∧ threeB t ce b c d = true
  | 0, h => by
    unfold headsTo at h
    rw [List.getD_eq_getElem?_getD, List.getElem?_replicate] at h
    split at h <;> cases h
  | i + 1, h => by
    unfold headsTo headStep at h
    split at h
    · obtain ⟨d, c, h1, h2⟩ := headsTo_mem t ce b i h
      exact ⟨d, c, by omega, h2⟩
    · rename_i g1
      split at h
      · obtain ⟨d, c, h1, h2⟩ := headsTo_mem t ce b i h
        exact ⟨d, c, by omega, h2⟩
      · rename_i g2
        split at h
        · rename_i g3
          by_cases e : (t.bef (t.bef i).toNat).toNat = b
          · rw [e] at g3
            exact ⟨i, (t.bef i).toNat, by omega, by omega, by omega, g3⟩
          · rw [List.getD_eq_getElem?_getD, List.getElem?_set_ne e, ← List.getD_eq_getElem?_getD] at h
            obtain ⟨d, c, h1, h2⟩ := headsTo_mem t ce b i h
            exact ⟨d, c, by omega, h2⟩
        · obtain ⟨d, c, h1, h2⟩ := headsTo_mem t ce b i h
          exact ⟨d, c, by omega, h2⟩

theorem headsTo_mono (t : Tree) (ce : List Bool) (b : Nat) (i : Nat) : ∀ k, (headsTo t ce i).getD b false = true → (headsTo t ce (i + k)).getD b false = true
  | 0, h => h
  | k + 1, h => by
    have ih := headsTo_mono t ce b i k h
    show (headStep t ce (headsTo t ce (i + k)) (i + k)).getD b false = true
    unfold headStep
    split
    · exact ih
    · split
      · exact ih
      · split
        · exact getD_set_true _ _ _ ih
        · exact ih
theorem headsTo_has {t : Tree} (ht : TreeOk t) {ce : List Bool} {b c d : Nat} (hd : d < t.blocks.length) (h1 : t.bef d = (c : Int)) (h2 : t.bef c = (b : Int)) (h3 : threeB t ce b c d = true) : (headsTo t ce t.blocks.length).getD b false = true := by
  have e : t.blocks.length = d + 1 + (t.blocks.length - (d + 1)) := by omega
  rw [e]
  refine headsTo_mono t ce b (d + 1) _ ?_
  show (headStep t ce (headsTo t ce d) d).getD b false = true
  have hd0 : d ≠ 0 := fun x => by rw [x, ht.bef0] at h1; omega
  have hcd : c < d := by have := (ht.link d (by omega) hd).hi; rw [h1] at this; omega
  have hc0 : c ≠ 0 := fun x => by rw [x, ht.bef0] at h2; omega
  have hbc : b < c := by have := (ht.link c (by omega) (by omega)).hi; rw [h2] at this; omega
  unfold headStep
  rw [h1, Int.toNat_natCast, h2, Int.toNat_natCast, if_neg (by omega), if_neg (by omega), if_pos h3, List.getD_eq_getElem?_getD, List.getElem?_set_self (by rw [headsTo_len]; omega)]
  rfl

theorem heads_iff {t : Tree} (ht : TreeOk t) (ce : List Bool) (x : Int) : x ∈ headsL t ce ↔ ∃ b c d : Nat, x = (b : Int) ∧ d < t.blocks.length ∧ t.bef d = (c : Int) ∧ t.bef c = (b : Int) ∧ threeB t ce b c d = true := by
  unfold headsL
  rw [fltF_mem]
  constructor
  · rintro ⟨b, _, _, h3, rfl⟩
    obtain ⟨d, c, h4, h5, h6, h7⟩ := headsTo_mem t ce b _ h3
    exact ⟨b, c, d, rfl, h4, h5, h6, h7⟩
  · rintro ⟨b, c, d, rfl, h4, h5, h6, h7⟩
    have hd0 : d ≠ 0 := fun x => by rw [x, ht.bef0] at h5; omega
    have hcd : c < d := by have := (ht.link d (by omega) h4).hi; rw [h5] at this; omega
    have hc0 : c ≠ 0 := fun x => by rw [x, ht.bef0] at h6; omega
    have hbc : b < c := by have := (ht.link c (by omega) (by omega)).hi; rw [h6] at this; omega
    exact ⟨b, by omega, by omega, headsTo_has ht h4 h5 h6 h7, rfl⟩

theorem threeB_iff (t : Tree) (ce : List Bool) (b c d : Nat) : threeB t ce b c d = true ↔ ce.getD b false = true ∧ ce.getD c false = true ∧ ce.getD d false = true ∧ (t.blk b).view + 1 = (t.blk c).view ∧ (t.blk c).view + 1 = (t.blk d).view := by
  unfold threeB
  simp only [Bool.and_eq_true, beq_iff_eq]

/-- The heads of a world. -/
theorem headsW_iff {w : Wld} (h : worldValid w = true) (x : Int) : x ∈ headsL w.tree (certL w.tree (certsTo w w.votes.length)) ↔ ∃ b c d : Nat, x = (b : Int) ∧ Three w b c d := by
  have ht := (worldValid_parts h).1
  rw [heads_iff ht]
  constructor
  · rintro ⟨b, c, d, rfl, h4, h5, h6, h7⟩
    have hd0 : d ≠ 0 := fun x => by rw [x, ht.bef0] at h5; omega
    have hcd : c < d := by have := (ht.link d (by omega) h4).hi; rw [h5] at this; omega
    have hc0 : c ≠ 0 := fun x => by rw [x, ht.bef0] at h6; omega
    have hbc : b < c := by have := (ht.link c (by omega) (by omega)).hi; rw [h6] at this; omega
    obtain ⟨g1, g2, g3, g4, g5⟩ := (threeB_iff _ _ _ _ _).1 h7
    rw [certL_world h (by omega)] at g1 g2 g3
    exact ⟨b, c, d, rfl, ⟨h4, h5, h6, g1, g2, g3, g4, g5⟩⟩
  · rintro ⟨b, c, d, rfl, ⟨h4, h5, h6, g1, g2, g3, g4, g5⟩⟩
    have hd0 : d ≠ 0 := fun x => by rw [x, ht.bef0] at h5; omega
    have hcd : c < d := by have := (ht.link d (by omega) h4).hi; rw [h5] at this; omega
    have hc0 : c ≠ 0 := fun x => by rw [x, ht.bef0] at h6; omega
    have hbc : b < c := by have := (ht.link c (by omega) (by omega)).hi; rw [h6] at this; omega
    refine ⟨b, c, d, rfl, h4, h5, h6, (threeB_iff _ _ _ _ _).2 ⟨?_, ?_, ?_, g4, g5⟩⟩
    · rw [certL_world h (by omega)]; exact g1
    · rw [certL_world h (by omega)]; exact g2
    · rw [certL_world h (by omega)]; exact g3

theorem isBefore_of {t : Tree} (ht : TreeOk t) {a b : Nat} (hb : b < t.blocks.length) (h : (a : Int) ∈ back t (b : Int)) : isBefore t (a : Int) (b : Int) = true := by
  unfold isBefore
  rw [pathTo_in (treeValid_true ht) (by omega) (by omega)]
  rw [List.any_eq_true]
  exact ⟨(a : Int), by unfold pathL; exact List.mem_reverse.2 h, by simp⟩

/-- Heads agree. -/
theorem heads_agree {w w' : Wld} (hs : Safe w') (hl : Later w w') (hv : worldValid w = true) {x y : Int} (hx : x ∈ headsL w.tree (certL w.tree (certsTo w w.votes.length))) (hy : y ∈ headsL w'.tree (certL w'.tree (certsTo w' w'.votes.length)))
    (hxy : (w.tree.blk x.toNat).view ≤ (w.tree.blk y.toNat).view) : isBefore w'.tree x y = true := by
  obtain ⟨b, c, d, rfl, h1⟩ := (headsW_iff hv x).1 hx
  obtain ⟨b', c', d', rfl, h2⟩ := (headsW_iff hs.valid y).1 hy
  have ht := (worldValid_parts hs.valid).1
  have e := hl.tree
  have h1' : Three w' b c d := by
    obtain ⟨a1, a2, a3, a4, a5, a6, a7, a8⟩ := h1
    rw [← e] at a1 a2 a3 a7 a8
    exact ⟨a1, a2, a3, hl.cert _ a4, hl.cert _ a5, hl.cert _ a6, a7, a8⟩
  have hb' : b' < w'.tree.blocks.length := by
    have g1 := h2.hd
    have hd0 : d' ≠ 0 := fun x => by have := h2.dc; rw [x, ht.bef0] at this; omega
    have hcd : c' < d' := by have := (ht.link d' (by omega) h2.hd).hi; rw [h2.dc] at this; omega
    have hc0 : c' ≠ 0 := fun x => by have := h2.cb; rw [x, ht.bef0] at this; omega
    have hbc : b' < c' := by have := (ht.link c' (by omega) (by omega)).hi; rw [h2.cb] at this; omega
    omega
  rw [Int.toNat_natCast, Int.toNat_natCast, ← e] at hxy
  exact isBefore_of ht hb' (three_safe hs h1' (b' + 1) b' (by omega) hb' h2.kb hxy)

theorem certsTo_30 {w : Wld} (h : worldValid w = true) : treeValid w.tree = true ∧ (certsTo w w.votes.length).length ≤ 30 := by
  obtain ⟨ht, _, _, hl, _⟩ := worldValid_parts h
  have h1 := certsTo_len w w.votes.length
  have h2 := ht.len
  exact ⟨treeValid_true ht, by omega⟩

/-- From a world in which the votes were given by the rules: of two blocks that are committed one is on the way to the other. -/
theorem safe_agree {w : Wld} (hs : Safe w) : commitsAgree w.tree (worldCerts w) = true := by
  rw [worldCerts_yes hs.valid, commitsAgree_yes (certsTo_30 hs.valid)]
  refine agreeAllB_yes fun i j hj hi => ?_
  have hm : ∀ k, k < (headsL w.tree (certL w.tree (certsTo w w.votes.length))).length → (headsL w.tree (certL w.tree (certsTo w w.votes.length))).getD k 0 ∈ headsL w.tree (certL w.tree (certsTo w w.votes.length)) := fun k hk => by
    have e : (headsL w.tree (certL w.tree (certsTo w w.votes.length))).getD k 0 = (headsL w.tree (certL w.tree (certsTo w w.votes.length)))[k] := by simp [List.getD_eq_getElem?_getD, hk]
    rw [e]; exact List.getElem_mem hk
  have h1 := hm i hi
  have h2 := hm j (by omega)
  unfold agreeB
  rw [Bool.or_eq_true]
  rcases Int.le_total (w.tree.blk ((headsL w.tree (certL w.tree (certsTo w w.votes.length))).getD i 0).toNat).view (w.tree.blk ((headsL w.tree (certL w.tree (certsTo w w.votes.length))).getD j 0).toNat).view with g | g
  · exact .inl (heads_agree hs (Later.refl w) hs.valid h1 h2 g)
  · exact .inr (heads_agree hs (Later.refl w) hs.valid h2 h1 g)

theorem bestF_facts (t : Tree) : ∀ (l : List Int) (b : Int), (bestF t l b = b ∨ bestF t l b ∈ l) ∧ (t.blk b.toNat).view ≤ (t.blk (bestF t l b).toNat).view ∧ ∀ x, x ∈ l → (t.blk x.toNat).view ≤ (t.blk (bestF t l b).toNat).view
  | [], b => ⟨.inl rfl, Int.le_refl _, fun x h => by cases h⟩
  | x :: r, b => by
    unfold bestF
    obtain ⟨h1, h2, h3⟩ := bestF_facts t r (if (t.blk x.toNat).view > (t.blk b.toNat).view then x else b)
    by_cases hg : (t.blk x.toNat).view > (t.blk b.toNat).view
    · rw [if_pos hg] at h1 h2 h3 ⊢
      refine ⟨.inr ?_, by omega, fun y hy => ?_⟩
      · rcases h1 with h1 | h1
        · rw [h1]; exact List.mem_cons_self ..
        · exact List.mem_cons_of_mem _ h1
      · rcases List.mem_cons.1 hy with rfl | hy
        · exact h2
        · exact h3 y hy
    · rw [if_neg hg] at h1 h2 h3 ⊢
      refine ⟨?_, h2, fun y hy => ?_⟩
      · rcases h1 with h1 | h1
        · exact .inl h1
        · exact .inr (List.mem_cons_of_mem _ h1)
      · rcases List.mem_cons.1 hy with rfl | hy
        · omega
        · exact h3 y hy

theorem headW_yes {w : Wld} (h : worldValid w = true) : headW w = bestF w.tree (headsL w.tree (certL w.tree (certsTo w w.votes.length))) 0 := by
  unfold headW; rw [committedTo_yes (certsTo_30 h)]

theorem zero_back {t : Tree} (ht : TreeOk t) : ∀ (m k : Nat), k < m → k < t.blocks.length → (0 : Int) ∈ back t (k : Int)
  | 0, k, h, _ => by omega
  | m + 1, k, h, hk => by
    rcases Nat.eq_zero_or_pos k with rfl | h0
    · exact mem_back_self ht hk
    · have hl := ht.link k h0 hk
      obtain ⟨p, hp⟩ : ∃ p : Nat, t.bef k = (p : Int) := ⟨(t.bef k).toNat, by have := hl.lo; omega⟩
      have hpk : p < k := by have := hl.hi; omega
      exact mem_back_bef ht hk (by rw [hp]; exact zero_back ht m p (by omega) (by omega))

/-- What was committed stays committed. -/
theorem safe_head {w w' : Wld} (hs : Safe w') (hl : Later w w') (hv : worldValid w = true) : isBefore w'.tree (headW w) (headW w') = true := by
  have ht := (worldValid_parts hs.valid).1
  have hb := headW_bd hs.valid
  have e1 := headW_yes hv
  have e2 := headW_yes hs.valid
  obtain ⟨a1, a2, a3⟩ := bestF_facts w.tree (headsL w.tree (certL w.tree (certsTo w w.votes.length))) 0
  obtain ⟨b1, b2, b3⟩ := bestF_facts w'.tree (headsL w'.tree (certL w'.tree (certsTo w' w'.votes.length))) 0
  rw [← e1] at a1 a2 a3
  rw [← e2] at b1 b2 b3
  obtain ⟨k, hk⟩ : ∃ k : Nat, headW w' = (k : Int) := ⟨(headW w').toNat, by omega⟩
  rcases a1 with a1 | a1
  · rw [a1, hk]
    exact isBefore_of (a := 0) ht (by omega) (zero_back ht (k + 1) k (by omega) (by omega))
  · -- the head of the earlier world is one of the later world
    have hx : headW w ∈ headsL w'.tree (certL w'.tree (certsTo w' w'.votes.length)) := by
      obtain ⟨b, c, d, h0, h1⟩ := (headsW_iff hv _).1 a1
      refine (headsW_iff hs.valid _).2 ⟨b, c, d, h0, ?_⟩
      obtain ⟨c1, c2, c3, c4, c5, c6, c7, c8⟩ := h1
      have e := hl.tree
      rw [← e] at c1 c2 c3 c7 c8
      exact ⟨c1, c2, c3, hl.cert _ c4, hl.cert _ c5, hl.cert _ c6, c7, c8⟩
    have hle := b3 _ hx
    rcases b1 with b1 | b1
    · -- then the later head is the first block, and so is the earlier one
      rw [b1] at hle
      obtain ⟨b, c, d, h0, h1⟩ := (headsW_iff hs.valid _).1 hx
      rw [h0, Int.toNat_natCast] at hle
      have hd0 : d ≠ 0 := fun x => by have := h1.dc; rw [x, ht.bef0] at this; omega
      have hcd : c < d := by have := (ht.link d (by omega) h1.hd).hi; rw [h1.dc] at this; omega
      have hc0 : c ≠ 0 := fun x => by have := h1.cb; rw [x, ht.bef0] at this; omega
      have hd1 := h1.hd
      have hbc : b < c := by have := (ht.link c (by omega) (by omega)).hi; rw [h1.cb] at this; omega
      rcases Nat.eq_zero_or_pos b with rfl | hb0
      · rw [h0, b1]
        exact isBefore_of (a := 0) (b := 0) ht (by omega) (mem_back_self ht (by omega))
      · have := view0_lt ht (b + 1) b (by omega) hb0 (by omega)
        rw [show (0 : Int).toNat = 0 from rfl] at hle
        omega
    · exact heads_agree hs (Later.refl w') hs.valid hx b1 hle

end Go.Proofs.YthcfafpjkbbaoaaGreat

/- FnCommittedTo. -/
set_option linter.unusedSimpArgs false
set_option linter.unusedVariables false
set_option maxRecDepth 20000
set_option maxHeartbeats 4000000
namespace Go.Proofs.YthcfafpjkbbaoaaGreat
open Go Go.RowKit

end Go.Proofs.YthcfafpjkbbaoaaGreat

/- Contracts: worlds that grow. -/
set_option linter.unusedSimpArgs false
set_option linter.unusedVariables false
set_option maxRecDepth 20000
set_option maxHeartbeats 4000000
namespace Go.Proofs.YthcfafpjkbbaoaaGreat
open Go Go.RowKit

end Go.Proofs.YthcfafpjkbbaoaaGreat

/- New worlds, grown worlds: what is committed in them: plain. -/
set_option linter.unusedSimpArgs false
set_option linter.unusedVariables false
set_option maxRecDepth 20000
set_option maxHeartbeats 4000000
namespace Go.Proofs.YthcfafpjkbbaoaaGreat
open Go Go.RowKit

end Go.Proofs.YthcfafpjkbbaoaaGreat

/- Contracts: stores that are the same. -/
set_option linter.unusedSimpArgs false
set_option linter.unusedVariables false
set_option maxRecDepth 20000
set_option maxHeartbeats 4000000
namespace Go.Proofs.YthcfafpjkbbaoaaGreat
open Go Go.RowKit

theorem c_laws_sameStore (n1 n2 : Option Bool) (xs : List Entry) (hx : xs.length < 2 ^ 62) : Det Tryz.prog 50 [.sl n1 (rows encE xs), .sl n2 (rows encE xs)] (.bool true) := by
  refine fspec_det tab_ok Tryz.call50 Tryz.func50 rfl 26 Tryz.ntmps50 (of_decide_eq_true rfl) fun B => codeK_sound tab_ok _ _ _ ?_
  have hne : ((xs.length : Int) != (xs.length : Int)) = false := by simp
  simp (config := { maxSteps := 4000000 }) only [go_sem, simprocAttr, ↓dnA, Tryz.f50, rows_length, hne]
  refine semL_for tab_ok (fun i : Nat => ⟨26, [(0, .sl n1 (rows encE xs)), (1, .sl n2 (rows encE xs)), (5, .int .i64 i)], []⟩) (fun i => xs.length - i)
    (fun i => i ≤ xs.length) 0 [] (Weak.of (by rfl) ?_ ?_ (by rfl)) (by omega) ?_
  · trivial
  · simp (config := { maxSteps := 4000000 }) only [go_sem, simprocAttr, ↓dnA, Tryz.f50, rows_length, frW, wk2, wk1, wkL, wkB, hpW, List.mem_cons, Prod.mk.injEq, exists_eq_left, exists_eq_right, exists_eq]
    try rfl
  · rintro i hi
    by_cases h : i < xs.length
    · have hw : IntKind.i64.wrap ((i : Int) + 1) = ((i + 1 : Nat) : Int) := wsucc h (by omega)
      simp (config := { maxSteps := 4000000 }) only [go_sem, simprocAttr, ↓dnA, Tryz.f50, rows_length, nlt h, h, rows_get _ _ _ h, encE, nn0, hw]
      refine semL_draw tab_ok mixed_ rfl (ord := [(0, []), (1, []), (2, []), (3, []), (4, []), (5, []), (6, []), (7, []), (8, [])]) (by dsimp only; decide +kernel) ?_
      simp (config := { maxSteps := 4000000 }) only [go_sem, simprocAttr, ↓dnA, Tryz.f50, rows_length, nlt h, h, rows_get _ _ _ h, encE, nn0, hw]
      simp only [eqCellsK, BEq.rfl, Bool.and_true, Bool.not_true, Bool.false_eq_true, false_implies, true_implies, true_and, forall_const]
      refine ⟨i + 1, [], by omega, by dsimp only; omega, Weak.of (by rfl) ?_ ?_ (by rfl)⟩
      · trivial
      · simp (config := { maxSteps := 4000000 }) only [go_sem, simprocAttr, ↓dnA, Tryz.f50, rows_length, frW, wk2, wk1, wkL, wkB, hpW, List.mem_cons, Prod.mk.injEq, exists_eq_left, exists_eq_right, exists_eq]
    · have hi' : i = xs.length := by omega
      subst hi'
      simp (config := { maxSteps := 4000000 }) only [go_sem, simprocAttr, ↓dnA, Tryz.f50, rows_length, nlf h]

end Go.Proofs.YthcfafpjkbbaoaaGreat

/- Contracts: blocks that are found. -/
set_option linter.unusedSimpArgs false
set_option linter.unusedVariables false
set_option maxRecDepth 20000
set_option maxHeartbeats 4000000
namespace Go.Proofs.YthcfafpjkbbaoaaGreat
open Go Go.RowKit

end Go.Proofs.YthcfafpjkbbaoaaGreat

/- Contracts: what the laws call the same; FindBlock, BlockRight. -/
set_option linter.unusedSimpArgs false
set_option linter.unusedVariables false
set_option maxRecDepth 20000
set_option maxHeartbeats 4000000
namespace Go.Proofs.YthcfafpjkbbaoaaGreat
open Go Go.RowKit

theorem c_laws_sameInts (n1 n2 : Option Bool) (xs : List Int) (hx : xs.length < 2 ^ 62) : Det Tryz.prog 16 [.sl n1 (rows encI xs), .sl n2 (rows encI xs)] (.bool true) := by
  refine fspec_det tab_ok Tryz.call16 Tryz.func16 rfl 26 Tryz.ntmps16 (of_decide_eq_true rfl) fun B => codeK_sound tab_ok _ _ _ ?_
  have hne : ((xs.length : Int) != (xs.length : Int)) = false := by simp
  simp (config := { maxSteps := 4000000 }) only [go_sem, simprocAttr, ↓dnA, Tryz.f16, rows_length, hne]
  refine semL_for tab_ok (fun i : Nat => ⟨26, [(0, .sl n1 (rows encI xs)), (1, .sl n2 (rows encI xs)), (5, .int .i64 i)], []⟩) (fun i => xs.length - i)
    (fun i => i ≤ xs.length) 0 [] (Weak.of (by rfl) ?_ ?_ (by rfl)) (by omega) ?_
  · trivial
  · simp (config := { maxSteps := 4000000 }) only [go_sem, simprocAttr, ↓dnA, Tryz.f16, rows_length, frW, wk2, wk1, wkL, wkB, hpW, List.mem_cons, Prod.mk.injEq, exists_eq_left, exists_eq_right, exists_eq]
    try rfl
  · rintro i hi
    by_cases h : i < xs.length
    · have hw : IntKind.i64.wrap ((i : Int) + 1) = ((i + 1 : Nat) : Int) := wsucc h (by omega)
      have hxx : (xs[i] != xs[i]) = false := by simp
      simp (config := { maxSteps := 4000000 }) only [go_sem, simprocAttr, ↓dnA, Tryz.f16, rows_length, nlt h, h, rows_get _ _ _ h, encI, nn0, hw, hxx]
      refine semL_draw tab_ok mixed_ rfl (ord := [(0, []), (1, []), (2, []), (3, []), (4, []), (5, []), (6, []), (7, []), (8, [])]) (by dsimp only; decide +kernel) ?_
      simp (config := { maxSteps := 4000000 }) only [go_sem, simprocAttr, ↓dnA, Tryz.f16, rows_length, nlt h, h, rows_get _ _ _ h, encI, nn0, hw, hxx]
      refine ⟨i + 1, [], by omega, by dsimp only; omega, Weak.of (by rfl) ?_ ?_ (by rfl)⟩
      · trivial
      · simp (config := { maxSteps := 4000000 }) only [go_sem, simprocAttr, ↓dnA, Tryz.f16, rows_length, frW, wk2, wk1, wkL, wkB, hpW, List.mem_cons, Prod.mk.injEq, exists_eq_left, exists_eq_right, exists_eq]
    · have hi' : i = xs.length := by omega
      subst hi'
      simp (config := { maxSteps := 4000000 }) only [go_sem, simprocAttr, ↓dnA, Tryz.f16, rows_length, nlf h]

theorem c_laws_sameBlock (n1 n2 : Option Bool) (b : Block) (hx : b.list.length < 2 ^ 62) : Det Tryz.prog 94 [.agg (encBk n1 b), .agg (encBk n2 b)] (.bool true) := by
  refine fspec_det tab_ok Tryz.call94 Tryz.func94 rfl 66 Tryz.ntmps94 (of_decide_eq_true rfl) fun B => codeK_sound tab_ok _ _ _ ?_
  obtain ⟨be, he, vi, xs, ro, ef⟩ := b
  dsimp only at hx
  have hne : ((xs.length : Int) != (xs.length : Int)) = false := by simp
  have h1 : (be != be) = false := by simp
  have h2 : (he != he) = false := by simp
  have h3 : (vi != vi) = false := by simp
  have h4 : (ro != ro) = false := by simp
  have h5 : (ef != ef) = false := by simp
  simp (config := { maxSteps := 4000000 }) only [go_sem, simprocAttr, ↓dnA, Tryz.f94, rows_length, hne, encBk, h1, h2, h3, h4, h5]
  refine semL_for tab_ok (fun i : Nat => ⟨66, [(2, .loc 2 0), (3, .loc 3 0), (5, .int .i64 i)], [(2, .var (encBk n1 ⟨be, he, vi, xs, ro, ef⟩)), (3, .var (encBk n2 ⟨be, he, vi, xs, ro, ef⟩))]⟩) (fun i => xs.length - i)
    (fun i => i ≤ xs.length) 0 [(2, 2), (3, 3)] (Weak.of (by rfl) ?_ ?_ (by rfl)) (by omega) ?_
  · simp (config := { maxSteps := 4000000 }) only [go_sem, simprocAttr, ↓dnA, Tryz.f94, rows_length, encBk, frW, wk2, wk1, wkL, wkB, hpW, List.mem_cons, Prod.mk.injEq, exists_eq_left, exists_eq_right, exists_eq]
    try rfl
  · simp (config := { maxSteps := 4000000 }) only [go_sem, simprocAttr, ↓dnA, Tryz.f94, rows_length, encBk, frW, wk2, wk1, wkL, wkB, hpW, List.mem_cons, Prod.mk.injEq, exists_eq_left, exists_eq_right, exists_eq]
    try rfl
  · rintro i hi
    by_cases h : i < xs.length
    · have hw : IntKind.i64.wrap ((i : Int) + 1) = ((i + 1 : Nat) : Int) := wsucc h (by omega)
      simp (config := { maxSteps := 4000000 }) only [go_sem, simprocAttr, ↓dnA, Tryz.f94, rows_length, encBk, nlt h, h, rows_get _ _ _ h, encA, nn0, hw]
      refine semL_draw tab_ok mixed_ rfl (ord := [(0, []), (1, []), (2, []), (3, []), (4, []), (5, []), (6, []), (7, []), (8, []), (9, []), (10, [])]) (by dsimp only; decide +kernel) ?_
      simp (config := { maxSteps := 4000000 }) only [go_sem, simprocAttr, ↓dnA, Tryz.f94, rows_length, encBk, nlt h, h, rows_get _ _ _ h, encA, nn0, hw]
      simp only [eqCellsK, BEq.rfl, Bool.and_true, Bool.not_true, Bool.false_eq_true, false_implies, true_implies, true_and, forall_const]
      refine ⟨i + 1, [(2, 2), (3, 3)], by omega, by dsimp only; omega, Weak.of (by rfl) ?_ ?_ (by rfl)⟩
      · simp (config := { maxSteps := 4000000 }) only [go_sem, simprocAttr, ↓dnA, Tryz.f94, rows_length, encBk, frW, wk2, wk1, wkL, wkB, hpW, List.mem_cons, Prod.mk.injEq, exists_eq_left, exists_eq_right, exists_eq]
        try rfl
      · simp (config := { maxSteps := 4000000 }) only [go_sem, simprocAttr, ↓dnA, Tryz.f94, rows_length, encBk, frW, wk2, wk1, wkL, wkB, hpW, List.mem_cons, Prod.mk.injEq, exists_eq_left, exists_eq_right, exists_eq]
        try rfl
    · have hi' : i = xs.length := by omega
      subst hi'
      simp (config := { maxSteps := 4000000 }) only [go_sem, simprocAttr, ↓dnA, Tryz.f94, rows_length, encBk, nlf h]

theorem c_laws_sameTree (n1 n2 n3 m1 m2 m3 : Option Bool) (t : Tree) (hx : TreeSz t) : Det Tryz.prog 31 [.agg (encT n1 n2 n3 t), .agg (encT m1 m2 m3 t)] (.bool true) := by
  refine fspec_det tab_ok Tryz.call31 Tryz.func31 rfl 48 Tryz.ntmps31 (of_decide_eq_true rfl) fun B => codeK_sound tab_ok _ _ _ ?_
  have hx1 := hx.base
  have hx2 := hx.blocks
  have hx3 := hx.before
  have hne : ((t.blocks.length : Int) != (t.blocks.length : Int)) = false := by simp
  simp (config := { maxSteps := 4000000 }) only [go_sem, simprocAttr, ↓dnA, Tryz.f31, rows_length, encT]
  refine CallTo.det (c_laws_sameStore n1 m1 t.base hx1) fun _ => ?_
  simp (config := { maxSteps := 4000000 }) only [go_sem, simprocAttr, ↓dnA, Tryz.f31, rows_length, encT]
  refine CallTo.det (c_laws_sameInts n3 m3 t.before hx3) fun _ => ?_
  simp (config := { maxSteps := 4000000 }) only [go_sem, simprocAttr, ↓dnA, Tryz.f31, rows_length, encT, hne]
  refine semL_for tab_ok (fun i : Nat => ⟨48, [(2, .loc 2 0), (3, .loc 3 0), (5, .int .i64 i)], [(2, .var (encT n1 n2 n3 t)), (3, .var (encT m1 m2 m3 t))]⟩) (fun i => t.blocks.length - i)
    (fun i => i ≤ t.blocks.length) 0 [(2, 2), (3, 3)] (Weak.of (by rfl) ?_ ?_ (by rfl)) (by omega) ?_
  · simp (config := { maxSteps := 4000000 }) only [go_sem, simprocAttr, ↓dnA, Tryz.f31, rows_length, encT, frW, wk2, wk1, wkL, wkB, hpW, List.mem_cons, Prod.mk.injEq, exists_eq_left, exists_eq_right, exists_eq]
    try rfl
  · simp (config := { maxSteps := 4000000 }) only [go_sem, simprocAttr, ↓dnA, Tryz.f31, rows_length, encT, frW, wk2, wk1, wkL, wkB, hpW, List.mem_cons, Prod.mk.injEq, exists_eq_left, exists_eq_right, exists_eq]
    try rfl
  · rintro i hi
    by_cases h : i < t.blocks.length
    · have hw : IntKind.i64.wrap ((i : Int) + 1) = ((i + 1 : Nat) : Int) := wsucc h (by omega)
      simp (config := { maxSteps := 4000000 }) only [go_sem, simprocAttr, ↓dnA, Tryz.f31, rows_length, encT, nlt h, h, rows_get _ _ _ h, encB1, encBk, nn0, hw]
      refine semL_draw tab_ok mixed_ rfl (ord := [(0, []), (1, []), (2, []), (3, []), (4, []), (5, []), (6, []), (7, []), (8, []), (9, []), (10, []), (11, [])]) (by dsimp only; decide +kernel) ?_
      simp (config := { maxSteps := 4000000 }) only [go_sem, simprocAttr, ↓dnA, Tryz.f31, rows_length, encT, nlt h, h, rows_get _ _ _ h, encB1, encBk, nn0, hw]
      refine CallTo.det (c_laws_sameBlock none none t.blocks[i] (hx.list _ (List.getElem_mem h))) fun _ => ?_
      simp (config := { maxSteps := 4000000 }) only [go_sem, simprocAttr, ↓dnA, Tryz.f31, rows_length, encT, nlt h, h, rows_get _ _ _ h, encB1, encBk, nn0, hw]
      refine ⟨i + 1, [(2, 2), (3, 3)], by omega, by dsimp only; omega, Weak.of (by rfl) ?_ ?_ (by rfl)⟩
      · simp (config := { maxSteps := 4000000 }) only [go_sem, simprocAttr, ↓dnA, Tryz.f31, rows_length, encT, frW, wk2, wk1, wkL, wkB, hpW, List.mem_cons, Prod.mk.injEq, exists_eq_left, exists_eq_right, exists_eq]
        try rfl
      · simp (config := { maxSteps := 4000000 }) only [go_sem, simprocAttr, ↓dnA, Tryz.f31, rows_length, encT, frW, wk2, wk1, wkL, wkB, hpW, List.mem_cons, Prod.mk.injEq, exists_eq_left, exists_eq_right, exists_eq]
        try rfl
    · have hi' : i = t.blocks.length := by omega
      subst hi'
      simp (config := { maxSteps := 4000000 }) only [go_sem, simprocAttr, ↓dnA, Tryz.f31, rows_length, encT, nlf h]

end Go.Proofs.YthcfafpjkbbaoaaGreat

/- Contracts: worlds that are the same. -/
set_option linter.unusedSimpArgs false
set_option linter.unusedVariables false
set_option maxRecDepth 20000
set_option maxHeartbeats 4000000
namespace Go.Proofs.YthcfafpjkbbaoaaGreat
open Go Go.RowKit

theorem c_laws_sameWorld (n1 n2 n3 n4 n5 m1 m2 m3 m4 m5 : Option Bool) (w : Wld) (hx : WldSz w) : Det Tryz.prog 22 [.agg (encW n1 n2 n3 n4 n5 w), .agg (encW m1 m2 m3 m4 m5 w)] (.bool true) := by
  refine fspec_det tab_ok Tryz.call22 Tryz.func22 rfl 47 Tryz.ntmps22 (of_decide_eq_true rfl) fun B => codeK_sound tab_ok _ _ _ ?_
  have hx2 := hx.voters
  have hx3 := hx.votes
  have hne : ((w.voters.length : Int) != (w.voters.length : Int)) = false := by simp
  simp (config := { maxSteps := 4000000 }) only [go_sem, simprocAttr, ↓dnA, Tryz.f22, rows_length, encW]
  refine CallTo.det (c_laws_sameTree n1 n2 n3 m1 m2 m3 w.tree hx.tree) fun _ => ?_
  simp (config := { maxSteps := 4000000 }) only [go_sem, simprocAttr, ↓dnA, Tryz.f22, rows_length, encW]
  refine CallTo.det (c_laws_sameInts n5 m5 w.votes hx3) fun _ => ?_
  simp (config := { maxSteps := 4000000 }) only [go_sem, simprocAttr, ↓dnA, Tryz.f22, rows_length, encW, hne]
  refine semL_for tab_ok (fun i : Nat => ⟨47, [(2, .loc 2 0), (3, .loc 3 0), (5, .int .i64 i)], [(2, .var (encW n1 n2 n3 n4 n5 w)), (3, .var (encW m1 m2 m3 m4 m5 w))]⟩) (fun i => w.voters.length - i)
    (fun i => i ≤ w.voters.length) 0 [(2, 2), (3, 3)] (Weak.of (by rfl) ?_ ?_ (by rfl)) (by omega) ?_
  · simp (config := { maxSteps := 4000000 }) only [go_sem, simprocAttr, ↓dnA, Tryz.f22, rows_length, encW, frW, wk2, wk1, wkL, wkB, hpW, List.mem_cons, Prod.mk.injEq, exists_eq_left, exists_eq_right, exists_eq]
    try rfl
  · simp (config := { maxSteps := 4000000 }) only [go_sem, simprocAttr, ↓dnA, Tryz.f22, rows_length, encW, frW, wk2, wk1, wkL, wkB, hpW, List.mem_cons, Prod.mk.injEq, exists_eq_left, exists_eq_right, exists_eq]
    try rfl
  · rintro i hi
    by_cases h : i < w.voters.length
    · have hw : IntKind.i64.wrap ((i : Int) + 1) = ((i + 1 : Nat) : Int) := wsucc h (by omega)
      simp (config := { maxSteps := 4000000 }) only [go_sem, simprocAttr, ↓dnA, Tryz.f22, rows_length, encW, nlt h, h, rows_get _ _ _ h, encV, nn0, hw]
      refine semL_draw tab_ok mixed_ rfl (ord := [(0, []), (1, []), (2, []), (3, []), (4, []), (5, []), (6, []), (7, []), (8, []), (9, []), (10, [])]) (by dsimp only; decide +kernel) ?_
      simp (config := { maxSteps := 4000000 }) only [go_sem, simprocAttr, ↓dnA, Tryz.f22, rows_length, encW, nlt h, h, rows_get _ _ _ h, encV, nn0, hw]
      simp only [eqCellsK, BEq.rfl, Bool.and_true, Bool.not_true, Bool.false_eq_true, false_implies, true_implies, true_and, forall_const]
      refine ⟨i + 1, [(2, 2), (3, 3)], by omega, by dsimp only; omega, Weak.of (by rfl) ?_ ?_ (by rfl)⟩
      · simp (config := { maxSteps := 4000000 }) only [go_sem, simprocAttr, ↓dnA, Tryz.f22, rows_length, encW, frW, wk2, wk1, wkL, wkB, hpW, List.mem_cons, Prod.mk.injEq, exists_eq_left, exists_eq_right, exists_eq]
        try rfl
      · simp (config := { maxSteps := 4000000 }) only [go_sem, simprocAttr, ↓dnA, Tryz.f22, rows_length, encW, frW, wk2, wk1, wkL, wkB, hpW, List.mem_cons, Prod.mk.injEq, exists_eq_left, exists_eq_right, exists_eq]
        try rfl
    · have hi' : i = w.voters.length := by omega
      subst hi'
      simp (config := { maxSteps := 4000000 }) only [go_sem, simprocAttr, ↓dnA, Tryz.f22, rows_length, encW, nlf h]

end Go.Proofs.YthcfafpjkbbaoaaGreat

/- Contracts: what is committed in a world: its actions, its store. -/
set_option linter.unusedSimpArgs false
set_option linter.unusedVariables false
set_option maxRecDepth 20000
set_option maxHeartbeats 4000000
namespace Go.Proofs.YthcfafpjkbbaoaaGreat
open Go Go.RowKit

end Go.Proofs.YthcfafpjkbbaoaaGreat

/- Contracts: the store that is committed in a world. -/
set_option linter.unusedSimpArgs false
set_option linter.unusedVariables false
set_option maxRecDepth 20000
set_option maxHeartbeats 4000000
namespace Go.Proofs.YthcfafpjkbbaoaaGreat
open Go Go.RowKit

end Go.Proofs.YthcfafpjkbbaoaaGreat

/- Blocks that are right over their stores; the store behind a way: plain. -/
set_option linter.unusedSimpArgs false
set_option linter.unusedVariables false
set_option maxRecDepth 20000
set_option maxHeartbeats 4000000
namespace Go.Proofs.YthcfafpjkbbaoaaGreat
open Go Go.RowKit

/-! The store behind a block. -/
/-! A tree with a further block. -/
/-! All actions on a way, one after the other. -/
end Go.Proofs.YthcfafpjkbbaoaaGreat

/- Votes and runs of votes: plain. -/
set_option linter.unusedSimpArgs false
set_option linter.unusedVariables false
set_option maxRecDepth 20000
set_option maxHeartbeats 4000000
namespace Go.Proofs.YthcfafpjkbbaoaaGreat
open Go Go.RowKit

theorem worldVote_facts {w : Wld} {m n : Int} (h : (worldVote w m n).2 = true) :
    worldValid w = true ∧ VoteOk w m n ∧ worldValid (worldVote w m n).1 = true ∧ (worldVote w m n).1.tree = w.tree ∧ (worldVote w m n).1.votes = voted w m n ∧ (worldVote (worldVote w m n).1 m n).2 = false := by
  cases hv : worldValid w with
  | false => rw [worldVote_no hv] at h; cases h
  | true =>
    rw [worldVote_yes hv] at h ⊢
    by_cases hok : VoteOk w m n
    · obtain ⟨⟨hm0, hm3⟩, ⟨hn1, hn2⟩, hb⟩ := id hok
      have hn : n.toNat < w.votes.length := by omega
      have hval := voteW_valid hv m n
      have key : ∀ vs : List Voter, ¬ VoteOk ⟨w.tree, vs, voted w m n⟩ m n := fun vs g => by
        have g3 := g.2.2
        dsimp only at g3
        rw [vt_voted hn n.toNat, if_pos rfl, (or_facts (vt_bd hv n.toNat) (by omega) (by omega)).1] at g3
        simp at g3
      by_cases h3 : m = 3
      · rw [voteW_3 hok h3] at hval ⊢
        dsimp only at hval ⊢
        refine ⟨rfl, hok, hval, rfl, rfl, ?_⟩
        rw [worldVote_yes hval, voteW_no (key _)]
      · cases hr : (voteR w m n).2 with
        | false => rw [voteW_not hok h3 hr] at h; cases h
        | true =>
          rw [voteW_yes hok h3 hr] at hval ⊢
          dsimp only at hval ⊢
          refine ⟨rfl, hok, hval, rfl, rfl, ?_⟩
          rw [worldVote_yes hval, voteW_no (key _)]
    · rw [voteW_no hok] at h; cases h

theorem foldV_add : ∀ (sc : List Int) (w : Wld) (k : Int), sc.foldl stepV (w, k) = ((sc.foldl stepV (w, 0)).1, k + (sc.foldl stepV (w, 0)).2)
  | [], w, k => by simp
  | x :: r, w, k => by
    show r.foldl stepV (stepV (w, k) x) = ((r.foldl stepV (stepV (w, 0) x)).1, k + (r.foldl stepV (stepV (w, 0) x)).2)
    rw [show stepV (w, k) x = ((stepV (w, k) x).1, (stepV (w, k) x).2) from rfl, show stepV (w, 0) x = ((stepV (w, 0) x).1, (stepV (w, 0) x).2) from rfl, foldV_add r, foldV_add r (stepV (w, 0) x).1 (stepV (w, 0) x).2]
    have e : (stepV (w, k) x).1 = (stepV (w, 0) x).1 := rfl
    have e2 : (stepV (w, k) x).2 = k + (stepV (w, 0) x).2 := by
      unfold stepV
      dsimp only
      split <;> omega
    rw [e, e2]
    dsimp only
    rw [Int.add_assoc]

theorem runW_split (w : Wld) (sc : List Int) (h : Nat) : (runW (runW w (sc.take h)).1 (sc.drop h)).1 = (runW w sc).1 ∧ (runW w (sc.take h)).2 + (runW (runW w (sc.take h)).1 (sc.drop h)).2 = (runW w sc).2 := by
  have e : runW w sc = (sc.drop h).foldl stepV (runW w (sc.take h)) := by
    unfold runW
    rw [← List.foldl_append, List.take_append_drop]
  rw [e, show runW w (sc.take h) = ((runW w (sc.take h)).1, (runW w (sc.take h)).2) from rfl, foldV_add]
  exact ⟨rfl, rfl⟩

theorem ScOk.take {sc : List Int} (h : ScOk sc) (k : Nat) : ScOk (sc.take k) := by
  refine ⟨by rw [List.length_take]; have := h.1; omega, List.all_eq_true.2 fun x hx => ?_⟩
  exact List.all_eq_true.1 h.2 x (List.mem_of_mem_take hx)
theorem ScOk.drop {sc : List Int} (h : ScOk sc) (k : Nat) : ScOk (sc.drop k) := by
  refine ⟨by rw [List.length_drop]; have := h.1; omega, List.all_eq_true.2 fun x hx => ?_⟩
  exact List.all_eq_true.1 h.2 x (List.mem_of_mem_drop hx)

theorem runW_valid {w : Wld} (hv : worldValid w = true) (sc : List Int) : worldValid (runW w sc).1 = true := (later_foldl (p := (w, 0)) hv sc).2
theorem runW_safe {t : Tree} (ht : TreeOk t) (sc : List Int) : Safe (runW (worldOf t) sc).1 := safe_foldl (p := (worldOf t, 0)) (safe_fresh ht) sc

/-- A script from a world in which nobody has voted, in two parts. -/
theorem run_facts {t : Tree} (ht : TreeOk t) {sc : List Int} (hs : ScOk sc) (h : Nat) :
    (worldRun (worldRun (worldOf t) (sc.take h)).1 (sc.drop h)).1 = (worldRun (worldOf t) sc).1 ∧
    (worldRun (worldOf t) (sc.take h)).2 + (worldRun (worldRun (worldOf t) (sc.take h)).1 (sc.drop h)).2 = (worldRun (worldOf t) sc).2 ∧
    worldValid (worldRun (worldOf t) (sc.take h)).1 = true ∧ Safe (worldRun (worldOf t) sc).1 ∧
    commitsAgree (worldRun (worldOf t) sc).1.tree (worldCerts (worldRun (worldOf t) sc).1) = true ∧
    isBefore (worldRun (worldOf t) sc).1.tree (worldHead (worldRun (worldOf t) (sc.take h)).1) (worldHead (worldRun (worldOf t) sc).1) = true := by
  have hv := worldOf_valid ht
  have hva := runW_valid hv (sc.take h)
  have hsf := runW_safe ht sc
  have e1 := worldRun_yes hv (hs.take h)
  have e2 := worldRun_yes hv hs
  rw [e1, e2, worldRun_yes hva (hs.drop h)]
  obtain ⟨s1, s2⟩ := runW_split (worldOf t) sc h
  have hl : Later (runW (worldOf t) (sc.take h)).1 (runW (worldOf t) sc).1 := by
    rw [← s1]
    exact (later_foldl (p := ((runW (worldOf t) (sc.take h)).1, 0)) hva (sc.drop h)).1
  refine ⟨s1, s2, hva, hsf, safe_agree hsf, ?_⟩
  rw [worldHead_yes hva, worldHead_yes hsf.valid]
  exact safe_head hsf hl hva

theorem onceF : ∀ a b : Fin 16, (andI (andI (a.val : Int) (b.val : Int)) 7 != 0) = true → ∃ m : Fin 3, hasB (a.val : Int) m.val = true ∧ hasB (b.val : Int) m.val = true := by decide +kernel
/-- Members that keep to the rules vote once in a view. -/
theorem vote_once {w : Wld} (hs : Safe w) {i j : Nat} (hi : i < w.tree.blocks.length) (hj : j < w.tree.blocks.length) (hij : i ≠ j) (e : (w.tree.blk i).view = (w.tree.blk j).view) : (andI (andI (vt w i) (vt w j)) 7 != 0) = false := by
  cases h : (andI (andI (vt w i) (vt w j)) 7 != 0) with
  | false => rfl
  | true =>
    exfalso
    have b1 := vt_bd hs.valid i
    have b2 := vt_bd hs.valid j
    have e1 : (((vt w i).toNat : Nat) : Int) = vt w i := by omega
    have e2 : (((vt w j).toNat : Nat) : Int) = vt w j := by omega
    have := onceF ⟨(vt w i).toNat, by omega⟩ ⟨(vt w j).toNat, by omega⟩
    dsimp only at this
    rw [e1, e2] at this
    obtain ⟨m, g1, g2⟩ := this h
    exact hij (hs.once m.val i j m.isLt hi hj g1 g2 e)

/-- What an exclusive difference of votes is. -/
def andnI (a b : Int) : Int := IntKind.i64.wrap ((BitVec.ofInt 64 a &&& ~~~ BitVec.ofInt 64 b).toNat : Nat)
theorem lostF : ∀ (a : Fin 16) (m : Fin 4), andnI (a.val : Int) (orB (a.val : Int) m.val) = 0 ∧ andnI (a.val : Int) (a.val : Int) = 0 := by decide +kernel
/-- No vote is lost. -/
theorem vote_kept {w : Wld} {m n : Int} (hv : worldValid w = true) (hok : VoteOk w m n) (k : Nat) : andnI (vt w k) ((voted w m n).getD k 0) = 0 := by
  obtain ⟨⟨hm0, hm3⟩, ⟨hn1, hn2⟩, _⟩ := hok
  have hn : n.toNat < w.votes.length := by omega
  have b1 := vt_bd hv k
  have e1 : (((vt w k).toNat : Nat) : Int) = vt w k := by omega
  have := lostF ⟨(vt w k).toNat, by omega⟩ ⟨m.toNat, by omega⟩
  dsimp only at this
  rw [e1] at this
  rw [vt_voted hn]
  split
  · rename_i e; subst e; exact this.1
  · exact this.2

end Go.Proofs.YthcfafpjkbbaoaaGreat

/- Contracts: the way to a block, an action's effect, a store with what an effect writes (the program's). -/
set_option linter.unusedSimpArgs false
set_option linter.unusedVariables false
set_option maxRecDepth 20000
set_option maxHeartbeats 4000000
namespace Go.Proofs.YthcfafpjkbbaoaaGreat
open Go Go.RowKit

end Go.Proofs.YthcfafpjkbbaoaaGreat

/- Contracts: the values ahead of a block; which blocks are right (the program's). -/
set_option linter.unusedSimpArgs false
set_option linter.unusedVariables false
set_option maxRecDepth 20000
set_option maxHeartbeats 4000000
namespace Go.Proofs.YthcfafpjkbbaoaaGreat
open Go Go.RowKit

end Go.Proofs.YthcfafpjkbbaoaaGreat

/- Heads: where they stand in the list of blocks; marks of a view: plain. -/
namespace Go.Proofs.YthcfafpjkbbaoaaGreat
open Go Go.RowKit

/-- No two blocks with one view are certified in a world that members that keep to the rules have made. -/
theorem marks_once {w : Wld} (hs : Safe w) {i j : Nat} (hi : i < w.tree.blocks.length) (hj : j < i) (e : (w.tree.blk i).view = (w.tree.blk j).view) :
    (certL w.tree (certsTo w w.votes.length)).getD i false = true → (certL w.tree (certsTo w w.votes.length)).getD j false = true → False := by
  intro h1 h2
  rw [certL_world hs.valid hi] at h1
  rw [certL_world hs.valid (show j < w.tree.blocks.length by omega)] at h2
  have := view_once hs hi (show j < w.tree.blocks.length by omega) h1 h2 e
  omega

end Go.Proofs.YthcfafpjkbbaoaaGreat

/- The committed store: the serial run of what is committed: plain. -/
namespace Go.Proofs.YthcfafpjkbbaoaaGreat
open Go Go.RowKit

end Go.Proofs.YthcfafpjkbbaoaaGreat

/- Results of several parts that are owned, taken as read only. -/
namespace Go.Proofs.YthcfafpjkbbaoaaGreat
open Go Go.RowKit

def pureP : AV → AV
  | .agg cs => .agg (cs.map pureC)
  | .osl _ _ es => .sl none es
  | a => a

theorem reads_pureP {w : World} {S : Nat → Prop} {v : Value} {a : AV} (h : Reads w S v a) : Reads w S v (pureP a) := by
  cases h with
  | agg vs cs hl h => exact .agg vs _ (by simpa using hl) fun i hi => by rw [pure_getD]; exact reads_pureC (h i (by simpa using hi))
  | int k n => exact .int k n
  | bool b => exact .bool b
  | fn f vs cs hl h => exact .fn f vs cs hl h
  | tup vs cs hl h => exact .tup vs cs hl h
  | nil nn hn => exact .nil nn hn
  | empty a cap nn hn => exact .empty a cap nn hn
  | slice b o cap sz nn es f hn hsz hz hS hcap hc h => exact .slice b o cap sz nn es f hn hsz hz hS hcap hc h
  | pel cs b o f hl hS hc h => exact .pel cs b o f hl hS hc h
  | mp P k e n D b hS hm => exact .mp P k e n D b hS hm

theorem pureP_getD (cs : List AV) (i : Nat) : (cs.map pureP).getD i .top = pureP (cs.getD i .top) := by
  rw [List.getD_eq_getElem?_getD, List.getD_eq_getElem?_getD, List.getElem?_map]
  cases cs[i]? <;> rfl

theorem BPart.pureP {w : World} {S S' : Nat → Prop} {v : Value} {a : AV} {F : Nat → Prop} (h : BPart w S v a F) (hS : ∀ x, S x → S' x) (hF : ∀ x, F x → S' x) : BPart w S' v (pureP a) (fun _ => False) := by
  cases h with
  | cell v a F h =>
    cases h with
    | pure a F h hF' => exact .cell _ _ _ (.pure _ _ _ ((reads_pureP h).mono hS) (fun _ e => e))
    | osl nn sz es F h => exact .cell _ _ _ (.pure _ _ _ (h.readsN.mono hF) (fun _ e => e))
  | agg vs cs FF F hl h hFF =>
    refine .agg vs _ (fun _ _ => False) _ (by simpa using hl) ⟨fun i hi => ?_, fun i j x _ _ e => e.elim⟩ (fun x => ⟨fun e => e.elim, fun ⟨i, _, e⟩ => e.elim⟩)
    have hi' : i < cs.length := by simpa using hi
    have hc := h.cell i hi'
    have hFi : ∀ x, FF i x → F x := fun x hx => (hFF x).2 ⟨i, hi', hx⟩
    rw [pure_getD]
    generalize cs.getD i .top = a at hc
    generalize FF i = G at hc hFi
    cases hc with
    | pure a F h hF' => exact .pure _ _ _ ((reads_pureC h).mono hS) (fun _ e => e)
    | osl nn sz es F h => exact .pure _ _ _ (h.readsN.mono fun x hx => hF x (hFi x hx)) (fun _ e => e)

/-- Several parts that are owned may be taken as ones that are only read. -/
theorem FSpec.pureTup {P : Program} {k : FuncId} {args : List AV} {hb : Bool} {bx : List AV} {Q Q' : AV → List AV → Prop} (h : FSpec P k args hb bx Q) (hq : ∀ r b, Q r b → ∃ rs, r = .tup rs ∧ Q' (.tup (rs.map pureP)) b) : FSpec P k args hb bx Q' := by
  refine ⟨h.1, fun w S vs b BF h1 h2 h3 h4 => (h.2 w S vs b BF h1 h2 h3 h4).mono ?_⟩
  rintro e w' ⟨v, r, bx1, F, BF', rfl, hQ, g1, g2, g3, g4, g5⟩
  obtain ⟨rs, rfl, hQ'⟩ := hq _ _ hQ
  have hS : ∀ x, (¬ F x ∧ ¬ BoxM hb b bx1 BF' x ∧ (S x ∨ BoxM hb b bx BF x ∨ w.heap.size ≤ x)) → (¬ False ∧ ¬ BoxM hb b bx1 BF' x ∧ (S x ∨ BoxM hb b bx BF x ∨ w.heap.size ≤ x)) := fun x hx => ⟨fun e => e, hx.2⟩
  have hF : ∀ x, F x → (¬ False ∧ ¬ BoxM hb b bx1 BF' x ∧ (S x ∨ BoxM hb b bx BF x ∨ w.heap.size ≤ x)) := fun x hx => ⟨fun e => e, g4 x hx, .inr (g5 x (.inl hx)).1⟩
  refine ⟨v, .tup (rs.map Go.Proofs.YthcfafpjkbbaoaaGreat.pureP), bx1, fun _ => False, BF', rfl, hQ', g1, ?_, fun e => (g3 e).mono hS, fun x e => e.elim, fun x e => ?_⟩
  · generalize ha : AV.tup rs = a at g2
    cases g2 with
    | part v a F h =>
      cases h with
      | cell v a F h =>
        cases h with
        | pure a F h hF' =>
          subst ha
          refine .part _ _ _ (.cell _ _ _ (.pure _ _ _ ?_ (fun _ e => e)))
          cases h with
          | tup vs cs hl h =>
            refine .tup vs _ (by simpa using hl) fun i hi => ?_
            rw [pureP_getD]
            exact (reads_pureP (h i (by simpa using hi))).mono hS
        | osl nn sz es F h => cases ha
      | agg vs cs' FF F hl h hFF => cases ha
    | tup vs rs' FF F hl h hd hFF =>
      injection ha with ha
      subst ha
      refine .tup vs _ (fun _ _ => False) _ (by simpa using hl) (fun i hi => ?_) (fun i j x _ _ e => e.elim) (fun x => ⟨fun e => e.elim, fun ⟨i, _, e⟩ => e.elim⟩)
      have hi' : i < rs.length := by simpa using hi
      rw [pureP_getD]
      exact (h i hi').pureP hS fun x hx => hF x ((hFF x).2 ⟨i, hi', hx⟩)
    | box => cases ha
  · rcases e with e | e
    · exact e.elim
    · exact g5 x (.inr e)

end Go.Proofs.YthcfafpjkbbaoaaGreat

