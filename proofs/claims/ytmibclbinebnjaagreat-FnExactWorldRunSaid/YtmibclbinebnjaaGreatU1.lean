/- Shared texts U (part 1): W27, W29, W33, W36, W37, W38, W35, W39, W66, W68, W34, W30, W31, W67, W70, W42, W95, W74, W46, W47, W48, W49 -/
import Derived.Maps.Views
import Derived.Test.YtmibclbinebnjaaGreatQ5

set_option linter.unusedSimpArgs false
set_option linter.unusedVariables false

/- Contracts: voters after their votes. -/
set_option linter.unusedSimpArgs false
set_option linter.unusedVariables false
set_option maxRecDepth 20000
set_option maxHeartbeats 4000000
namespace Go.Proofs.YtmibclbinebnjaaGreat
open Go Go.RowKit

open Classical in
/-- A voter after its vote. -/
noncomputable def voteFor (v : Voter) (t : Tree) (c : List Bool) (n : Int) : Voter × Bool :=
  if voterValid v.last v.lock then (if mayVote v t c n then
    (⟨(t.blk n.toNat).view, if t.bef (t.bef n.toNat).toNat ≥ 0 then max v.lock (t.blk (t.bef (t.bef n.toNat).toNat).toNat).view else v.lock⟩, true) else (v, false)) else (⟨0, 0⟩, false)

theorem max_if (a b : Int) : (if b > a then b else a) = max a b := by
  rw [Int.max_def]; split <;> split <;> omega

/-- What is needed of the block before the one before. -/
theorem voteFor_ok {v : Voter} {t : Tree} {c : List Bool} {n : Int} (h0 : voterValid v.last v.lock = true) (h : mayVote v t c n = true) :
    ∃ j k : Nat, n = (j : Int) ∧ j < t.blocks.length ∧ j < t.before.length ∧ k < t.before.length ∧ (rows encI t.before).getD j [] = [.int .i64 (k : Int)] ∧ (rows encI t.before).getD k [] = [.int .i64 (t.bef k)] ∧
      (rows encB1 t.blocks).getD j [] = encB1 (t.blk j) ∧
      ((t.bef k < 0 ∧ decide (t.bef k ≥ 0) = false ∧ voteFor v t c n = (⟨(t.blk j).view, v.lock⟩, true)) ∨
       ∃ m : Nat, t.bef k = (m : Int) ∧ m < t.blocks.length ∧ (rows encB1 t.blocks).getD m [] = encB1 (t.blk m) ∧ voteFor v t c n = (⟨(t.blk j).view, max v.lock (t.blk m).view⟩, true)) := by
  have hm := mayOk_of h
  obtain ⟨j, k, rfl, hj0, hj, hjb, hkj, hk, g1, g2, g3, _⟩ := may_facts hm.tree hm.len hm.n1 hm.n2
  have hkb : k < t.before.length := by omega
  have g4 : (rows encI t.before).getD k [] = [.int .i64 (t.bef k)] := by rw [rows_get _ _ k hkb, t.bef_get k hkb]; rfl
  refine ⟨j, k, rfl, hj, hjb, hkb, g1, g4, g2, ?_⟩
  have hv : voteFor v t c (j : Int) = (⟨(t.blk j).view, if t.bef k ≥ 0 then max v.lock (t.blk (t.bef k).toNat).view else v.lock⟩, true) := by
    unfold voteFor
    rw [h0, h, if_pos rfl, if_pos rfl, Int.toNat_natCast, hk, Int.toNat_natCast]
  by_cases hb : t.bef k ≥ 0
  · obtain ⟨m, hmk⟩ : ∃ m : Nat, t.bef k = (m : Int) := ⟨(t.bef k).toNat, by omega⟩
    have hml : m < t.blocks.length := by
      by_cases hk0 : k = 0
      · subst hk0; rw [hm.tree.bef0] at hb; omega
      · have := (hm.tree.link k (by omega) (by omega)).hi; omega
    refine .inr ⟨m, hmk, hml, rows_gd _ _ m hml, ?_⟩
    rw [hv, if_pos hb, hmk, Int.toNat_natCast]
  · exact .inl ⟨by omega, by simp; omega, by rw [hv, if_neg hb]⟩

theorem c_impl_VoteFor (n1 n2 n3 n4 : Option Bool) (v : Voter) (t : Tree) (c : List Bool) (n : Int) (hx : TreeSz t) (hc : c.length < 2 ^ 62) :
    Det Tryz.prog 195 [.agg (encV v), .agg (encT n1 n2 n3 t), .sl n4 (boolRows c), .int .i64 n] (.tup [.agg (encV (voteFor v t c n).1), .bool (voteFor v t c n).2]) := by
  refine fspec_det tab_ok Tryz.call195 Tryz.func195 rfl 51 Tryz.ntmps195 (of_decide_eq_true rfl) fun B => codeK_sound tab_ok _ _ _ ?_
  unfold encT
  simp (config := { maxSteps := 4000000 }) only [go_sem, simprocAttr, ↓dnA, Tryz.f195, encV]
  refine CallTo.det (c_impl_VoterValid _ _) fun _ => ?_
  cases h1 : voterValid v.last v.lock with
  | false =>
    have hv : voteFor v t c n = (⟨0, 0⟩, false) := by unfold voteFor; rw [h1, if_neg Bool.false_ne_true]
    simp (config := { maxSteps := 4000000 }) only [go_sem, simprocAttr, ↓dnA, Tryz.f195, encV, h1, hv]
  | true =>
    simp (config := { maxSteps := 4000000 }) only [go_sem, simprocAttr, ↓dnA, Tryz.f195, encV, h1]
    refine CallTo.det (c_impl_MayVote n1 n2 n3 n4 v t c n hx hc) fun _ => ?_
    cases h2 : mayVote v t c n with
    | false =>
      have hv : voteFor v t c n = (v, false) := by unfold voteFor; rw [h1, h2, if_pos rfl, if_neg Bool.false_ne_true]
      simp (config := { maxSteps := 4000000 }) only [go_sem, simprocAttr, ↓dnA, Tryz.f195, encV, h1, h2, hv]
    | true =>
      obtain ⟨j, k, rfl, hj, hjb, hkb, g1, g4, g2, hcase⟩ := voteFor_ok h1 h2
      simp (config := { maxSteps := 4000000 }) only [go_sem, simprocAttr, ↓dnA, Tryz.f195, encV, h1, h2, rows_length, nn0, nlt hj, nlt hjb, nlt hkb, g1, g2, g4, encB1, encBk]
      refine semL_draw tab_ok mixed_ rfl (ord := [(0, []), (1, []), (2, []), (3, []), (4, []), (5, []), (6, []), (7, []), (8, []), (9, [])]) (by dsimp only; decide +kernel) ?_
      rcases hcase with ⟨hb, hd, hv⟩ | ⟨m, hm, hml, g5, hv⟩
      · simp (config := { maxSteps := 4000000 }) only [go_sem, simprocAttr, ↓dnA, Tryz.f195, encV, h1, h2, rows_length, nn0, nlt hj, nlt hjb, nlt hkb, g1, g2, g4, encB1, encBk, hd, hv]
      · have hd : decide ((m : Int) ≥ 0) = true := by simp
        simp (config := { maxSteps := 4000000 }) only [go_sem, simprocAttr, ↓dnA, Tryz.f195, encV, h1, h2, rows_length, nn0, nlt hj, nlt hjb, nlt hkb, g1, g2, g4, encB1, encBk, hd, hm]
        refine semL_draw tab_ok mixed_ rfl (ord := [(0, []), (1, []), (2, []), (3, []), (4, []), (5, []), (6, []), (7, []), (8, []), (9, []), (10, [])]) (by dsimp only; decide +kernel) ?_
        simp (config := { maxSteps := 4000000 }) only [go_sem, simprocAttr, ↓dnA, Tryz.f195, encV, h1, h2, rows_length, nn0, nlt hml, g5, encB1, encBk, max_if, hv]

theorem c_spec_VoteFor (n1 n2 n3 n4 : Option Bool) (v : Voter) (t : Tree) (c : List Bool) (n : Int) (hx : TreeSz t) (hc : c.length < 2 ^ 62) :
    Det Tryz.prog 141 [.agg (encV v), .agg (encT n1 n2 n3 t), .sl n4 (boolRows c), .int .i64 n] (.tup [.agg (encV (voteFor v t c n).1), .bool (voteFor v t c n).2]) := by
  refine fspec_det tab_ok Tryz.call141 Tryz.func141 rfl 54 Tryz.ntmps141 (of_decide_eq_true rfl) fun B => codeK_sound tab_ok _ _ _ ?_
  unfold encT
  simp (config := { maxSteps := 4000000 }) only [go_sem, simprocAttr, ↓dnA, Tryz.f141, encV]
  refine CallTo.det (c_spec_VoterValid _ _) fun _ => ?_
  cases h1 : voterValid v.last v.lock with
  | false =>
    have hv : voteFor v t c n = (⟨0, 0⟩, false) := by unfold voteFor; rw [h1, if_neg Bool.false_ne_true]
    simp (config := { maxSteps := 4000000 }) only [go_sem, simprocAttr, ↓dnA, Tryz.f141, encV, h1, hv]
  | true =>
    simp (config := { maxSteps := 4000000 }) only [go_sem, simprocAttr, ↓dnA, Tryz.f141, encV, h1]
    refine CallTo.det (c_spec_MayVote n1 n2 n3 n4 v t c n hx hc) fun _ => ?_
    cases h2 : mayVote v t c n with
    | false =>
      have hv : voteFor v t c n = (v, false) := by unfold voteFor; rw [h1, h2, if_pos rfl, if_neg Bool.false_ne_true]
      simp (config := { maxSteps := 4000000 }) only [go_sem, simprocAttr, ↓dnA, Tryz.f141, encV, h1, h2, hv]
    | true =>
      obtain ⟨j, k, rfl, hj, hjb, hkb, g1, g4, g2, hcase⟩ := voteFor_ok h1 h2
      simp (config := { maxSteps := 4000000 }) only [go_sem, simprocAttr, ↓dnA, Tryz.f141, encV, h1, h2, rows_length, nn0, nlt hj, nlt hjb, nlt hkb, g1, g2, g4, encB1, encBk]
      refine semL_draw tab_ok mixed_ rfl (ord := [(0, []), (1, []), (2, []), (3, []), (4, []), (5, []), (6, []), (7, []), (8, []), (9, [0, 1, 2, 3, 4, 5, 6, 7, 8]), (10, [])]) (by dsimp only; decide +kernel) ?_
      simp (config := { maxSteps := 4000000 }) only [go_sem, simprocAttr, ↓dnA, Tryz.f141, encV, h1, h2, rows_length, nn0, nlt hj, nlt hjb, nlt hkb, g1, g2, g4, encB1, encBk]
      refine semL_draw tab_ok mixed_ rfl (ord := [(0, []), (1, []), (2, []), (3, []), (4, []), (5, []), (6, []), (7, []), (8, []), (9, [])]) (by dsimp only; decide +kernel) ?_
      rcases hcase with ⟨hb, hd, hv⟩ | ⟨m, hm, hml, g5, hv⟩
      · simp (config := { maxSteps := 4000000 }) only [go_sem, simprocAttr, ↓dnA, Tryz.f141, encV, h1, h2, rows_length, nn0, nlt hj, nlt hjb, nlt hkb, g1, g2, g4, encB1, encBk, hd, hv]
      · have hd : decide ((m : Int) ≥ 0) = true := by simp
        simp (config := { maxSteps := 4000000 }) only [go_sem, simprocAttr, ↓dnA, Tryz.f141, encV, h1, h2, rows_length, nn0, nlt hj, nlt hjb, nlt hkb, g1, g2, g4, encB1, encBk, hd, hm]
        refine semL_draw tab_ok mixed_ rfl (ord := [(0, []), (1, []), (2, []), (3, []), (4, []), (5, []), (6, []), (7, []), (8, []), (9, []), (10, [])]) (by dsimp only; decide +kernel) ?_
        simp (config := { maxSteps := 4000000 }) only [go_sem, simprocAttr, ↓dnA, Tryz.f141, encV, h1, h2, rows_length, nn0, nlt hml, g5, encB1, encBk, max_if, hv]

theorem voterB (a b : Voter) : ((a.last == b.last) && (a.lock == b.lock)) = decide (a = b) := by
  obtain ⟨a1, a2⟩ := a
  obtain ⟨b1, b2⟩ := b
  rw [Bool.eq_iff_iff]
  simp only [Bool.and_eq_true, beq_iff_eq, decide_eq_true_eq, Voter.mk.injEq]

theorem c_laws_eqVoter (a b : Voter) : Det Tryz.prog 189 [.agg (encV a), .agg (encV b)] (.bool (decide (a = b))) := by
  refine fspec_det tab_ok Tryz.call189 Tryz.func189 rfl 15 Tryz.ntmps189 (of_decide_eq_true rfl) fun B => codeK_sound tab_ok _ _ _ ?_
  unfold encV
  rw [← voterB]
  cases h1 : (a.last == b.last) with
  | false => simp (config := { maxSteps := 4000000 }) only [go_sem, simprocAttr, ↓dnA, Tryz.f189, bne, h1]
  | true =>
    cases h2 : (a.lock == b.lock) with
    | false => simp (config := { maxSteps := 4000000 }) only [go_sem, simprocAttr, ↓dnA, Tryz.f189, bne, h1, h2]
    | true => simp (config := { maxSteps := 4000000 }) only [go_sem, simprocAttr, ↓dnA, Tryz.f189, bne, h1, h2]

end Go.Proofs.YtmibclbinebnjaaGreat

/- Contracts: certificates. -/
set_option linter.unusedSimpArgs false
set_option linter.unusedVariables false
set_option maxRecDepth 20000
set_option maxHeartbeats 4000000
namespace Go.Proofs.YtmibclbinebnjaaGreat
open Go Go.RowKit

structure Cert where
  sum : Int
  view : Int
  signers : Int
deriving DecidableEq, Inhabited

def encC (c : Cert) : List AV := [.int .i64 c.sum, .int .i64 c.view, .int .i64 c.signers]

/-- The members in a mask: the first i of them. -/
def manyTo (n : Int) : Nat → Int
  | 0 => 0
  | i + 1 => manyTo n i + (n / 2 ^ i) % 2
def many (n : Int) : Int := manyTo n 4

theorem many_stepF : ∀ (a : Fin 16) (i : Fin 4), IntKind.i64.wrap (manyTo (a.val : Int) i.val + (((a.val : Int)).fdiv (2 ^ min i.val 64)).tmod 2) = manyTo (a.val : Int) (i.val + 1) := by decide +kernel
theorem many_step {n : Int} (h : 0 ≤ n ∧ n ≤ 15) {i : Nat} (hi : i < 4) : IntKind.i64.wrap (manyTo n i + (n.fdiv (2 ^ min i 64)).tmod 2) = manyTo n (i + 1) := by
  obtain ⟨a, rfl⟩ : ∃ a : Nat, n = (a : Int) := ⟨n.toNat, by omega⟩
  exact many_stepF ⟨a, by omega⟩ ⟨i, hi⟩

def certValid (c : Cert) : Bool := inB c.sum 0 1000002 && inB c.view 0 1000 && inB c.signers 0 15
def certCounts (c : Cert) : Bool := certValid c && decide (many c.signers ≥ 3)

theorem c_spec_l15Many (n : Int) (h : 0 ≤ n ∧ n ≤ 15) : Det Tryz.prog 177 [.int .i64 n] (.int .i64 (many n)) := by
  refine fspec_det tab_ok Tryz.call177 Tryz.func177 rfl 16 Tryz.ntmps177 (of_decide_eq_true rfl) fun B => codeK_sound tab_ok _ _ _ ?_
  simp (config := { maxSteps := 4000000 }) only [go_sem, simprocAttr, ↓dnA, Tryz.f177]
  refine semL_for tab_ok (fun i : Nat => ⟨16, [(0, .int .i64 n), (3, .int .i64 (manyTo n i)), (4, .int .i64 i)], []⟩) (fun i => 4 - i) (fun i => i ≤ 4) 0 [] (Weak.of rfl trivial ?_ rfl) (by omega) ?_
  · simp (config := { maxSteps := 4000000 }) only [go_sem, simprocAttr, ↓dnA, Tryz.f177, manyTo, frW, wk2, wk1, wkL, wkB, hpW, List.mem_cons, Prod.mk.injEq, exists_eq_left, exists_eq_right, exists_eq]
  · rintro i hi
    by_cases h4 : i < 4
    · have hlt : ((i : Int) < 4) = True := by simp; omega
      simp (config := { maxSteps := 4000000 }) only [go_sem, simprocAttr, ↓dnA, Tryz.f177, hlt, nn0, many_step h h4]
      refine ⟨i + 1, [], by omega, by dsimp only; omega, Weak.of rfl trivial ?_ rfl⟩
      simp (config := { maxSteps := 4000000 }) only [go_sem, simprocAttr, ↓dnA, Tryz.f177, wsucc h4 (show 4 < 2 ^ 62 by decide), frW, wk2, wk1, wkL, wkB, hpW, List.mem_cons, Prod.mk.injEq, exists_eq_left, exists_eq_right, exists_eq]
    · have : i = 4 := by omega
      subst this
      simp (config := { maxSteps := 4000000 }) only [go_sem, simprocAttr, ↓dnA, Tryz.f177]
      rfl

theorem c_impl_isSigners (x : Int) : Det Tryz.prog 97 [.int .i64 x] (.bool (inB x 0 15)) := by
  refine fspec_det tab_ok Tryz.call97 Tryz.func97 rfl 5 Tryz.ntmps97 (of_decide_eq_true rfl) fun B => codeK_sound tab_ok _ _ _ ?_
  simp (config := { maxSteps := 4000000 }) only [go_sem, simprocAttr, ↓dnA, Tryz.f97]
  refine CallTo.det (c_in _ _ _) fun _ => ?_
  simp (config := { maxSteps := 4000000 }) only [go_sem, simprocAttr, ↓dnA, Tryz.f97]

theorem c_OnesCount64 (n : Int) (h : 0 ≤ n ∧ n ≤ 15) : Det Tryz.prog 215 [.int .u64 n] (.int .i64 (many n)) := by
  refine fspec_det tab_ok Tryz.call215 Tryz.func215 rfl 35 Tryz.ntmps215 (of_decide_eq_true rfl) fun B => codeK_sound tab_ok _ _ _ ?_
  simp (config := { maxSteps := 4000000 }) only [go_sem, simprocAttr, ↓dnA, Tryz.f215]
  obtain ⟨a, rfl⟩ : ∃ a : Fin 16, n = (a.val : Int) := ⟨⟨n.toNat, by omega⟩, by simp; omega⟩
  clear h
  revert a
  decide +kernel

theorem c_OnesCount (n : Int) (h : 0 ≤ n ∧ n ≤ 15) : Det Tryz.prog 179 [.int .u64 n] (.int .i64 (many n)) := by
  refine fspec_det tab_ok Tryz.call179 Tryz.func179 rfl 8 Tryz.ntmps179 (of_decide_eq_true rfl) fun B => codeK_sound tab_ok _ _ _ ?_
  simp (config := { maxSteps := 4000000 }) only [go_sem, simprocAttr, ↓dnA, Tryz.f179]
  refine CallTo.det (c_OnesCount64 n h) fun _ => ?_
  simp (config := { maxSteps := 4000000 }) only [go_sem, simprocAttr, ↓dnA, Tryz.f179]

theorem c_impl_enough (n : Int) (h : 0 ≤ n ∧ n ≤ 15) : Det Tryz.prog 108 [.int .i64 n] (.bool (decide (many n ≥ 3))) := by
  refine fspec_det tab_ok Tryz.call108 Tryz.func108 rfl 7 Tryz.ntmps108 (of_decide_eq_true rfl) fun B => codeK_sound tab_ok _ _ _ ?_
  have hw : IntKind.u64.wrap n = n := by
    obtain ⟨a, rfl⟩ : ∃ a : Fin 16, n = (a.val : Int) := ⟨⟨n.toNat, by omega⟩, by simp; omega⟩
    clear h
    revert a
    decide +kernel
  simp (config := { maxSteps := 4000000 }) only [go_sem, simprocAttr, ↓dnA, Tryz.f108, hw]
  refine CallTo.det (c_OnesCount n h) fun _ => ?_
  simp (config := { maxSteps := 4000000 }) only [go_sem, simprocAttr, ↓dnA, Tryz.f108]

theorem c_impl_CertValid (c : Cert) : Det Tryz.prog 44 [.agg (encC c)] (.bool (certValid c)) := by
  refine fspec_det tab_ok Tryz.call44 Tryz.func44 rfl 16 Tryz.ntmps44 (of_decide_eq_true rfl) fun B => codeK_sound tab_ok _ _ _ ?_
  unfold certValid
  simp (config := { maxSteps := 4000000 }) only [go_sem, simprocAttr, ↓dnA, Tryz.f44, encC]
  refine CallTo.det (c_impl_isSum _) fun _ => ?_
  cases h1 : inB c.sum 0 1000002 with
  | false => simp (config := { maxSteps := 4000000 }) only [go_sem, simprocAttr, ↓dnA, Tryz.f44, h1]
  | true =>
    simp (config := { maxSteps := 4000000 }) only [go_sem, simprocAttr, ↓dnA, Tryz.f44, h1]
    refine CallTo.det (c_isView _) fun _ => ?_
    cases h2 : inB c.view 0 1000 with
    | false => simp (config := { maxSteps := 4000000 }) only [go_sem, simprocAttr, ↓dnA, Tryz.f44, h1, h2]
    | true =>
      simp (config := { maxSteps := 4000000 }) only [go_sem, simprocAttr, ↓dnA, Tryz.f44, h1, h2]
      refine CallTo.det (c_impl_isSigners _) fun _ => ?_
      simp (config := { maxSteps := 4000000 }) only [go_sem, simprocAttr, ↓dnA, Tryz.f44, h1, h2]

theorem c_spec_CertValid (c : Cert) : Det Tryz.prog 176 [.agg (encC c)] (.bool (certValid c)) := by
  refine fspec_det tab_ok Tryz.call176 Tryz.func176 rfl 16 Tryz.ntmps176 (of_decide_eq_true rfl) fun B => codeK_sound tab_ok _ _ _ ?_
  unfold certValid
  simp (config := { maxSteps := 4000000 }) only [go_sem, simprocAttr, ↓dnA, Tryz.f176, encC]
  refine CallTo.det (c_l1In _ _ _) fun _ => ?_
  cases h1 : inB c.sum 0 1000002 with
  | false => simp (config := { maxSteps := 4000000 }) only [go_sem, simprocAttr, ↓dnA, Tryz.f176, h1]
  | true =>
    simp (config := { maxSteps := 4000000 }) only [go_sem, simprocAttr, ↓dnA, Tryz.f176, h1]
    refine CallTo.det (c_l1In _ _ _) fun _ => ?_
    cases h2 : inB c.view 0 1000 with
    | false => simp (config := { maxSteps := 4000000 }) only [go_sem, simprocAttr, ↓dnA, Tryz.f176, h1, h2]
    | true =>
      simp (config := { maxSteps := 4000000 }) only [go_sem, simprocAttr, ↓dnA, Tryz.f176, h1, h2]
      refine CallTo.det (c_l1In _ _ _) fun _ => ?_
      simp (config := { maxSteps := 4000000 }) only [go_sem, simprocAttr, ↓dnA, Tryz.f176, h1, h2]

theorem certValid_sg {c : Cert} (h : certValid c = true) : 0 ≤ c.signers ∧ c.signers ≤ 15 := by
  unfold certValid at h
  rw [Bool.and_eq_true] at h
  exact inB_iff.1 h.2

theorem c_impl_CertCounts (c : Cert) : Det Tryz.prog 28 [.agg (encC c)] (.bool (certCounts c)) := by
  refine fspec_det tab_ok Tryz.call28 Tryz.func28 rfl 10 Tryz.ntmps28 (of_decide_eq_true rfl) fun B => codeK_sound tab_ok _ _ _ ?_
  unfold certCounts
  simp (config := { maxSteps := 4000000 }) only [go_sem, simprocAttr, ↓dnA, Tryz.f28, encC]
  refine CallTo.det (c_impl_CertValid c) fun _ => ?_
  cases h1 : certValid c with
  | false => simp (config := { maxSteps := 4000000 }) only [go_sem, simprocAttr, ↓dnA, Tryz.f28, h1]
  | true =>
    simp (config := { maxSteps := 4000000 }) only [go_sem, simprocAttr, ↓dnA, Tryz.f28, h1]
    refine CallTo.det (c_impl_enough _ (certValid_sg h1)) fun _ => ?_
    simp (config := { maxSteps := 4000000 }) only [go_sem, simprocAttr, ↓dnA, Tryz.f28, h1]

theorem c_spec_CertCounts (c : Cert) : Det Tryz.prog 105 [.agg (encC c)] (.bool (certCounts c)) := by
  refine fspec_det tab_ok Tryz.call105 Tryz.func105 rfl 11 Tryz.ntmps105 (of_decide_eq_true rfl) fun B => codeK_sound tab_ok _ _ _ ?_
  unfold certCounts
  simp (config := { maxSteps := 4000000 }) only [go_sem, simprocAttr, ↓dnA, Tryz.f105, encC]
  refine CallTo.det (c_spec_CertValid c) fun _ => ?_
  cases h1 : certValid c with
  | false => simp (config := { maxSteps := 4000000 }) only [go_sem, simprocAttr, ↓dnA, Tryz.f105, h1]
  | true =>
    simp (config := { maxSteps := 4000000 }) only [go_sem, simprocAttr, ↓dnA, Tryz.f105, h1]
    refine CallTo.det (c_spec_l15Many _ (certValid_sg h1)) fun _ => ?_
    simp (config := { maxSteps := 4000000 }) only [go_sem, simprocAttr, ↓dnA, Tryz.f105, h1]

/-- The block for which a certificate counts. -/
def certBlock (t : Tree) (c : Cert) : Int :=
  if certCounts c then (if findB t.blocks c.sum < 0 then -1 else if (t.blk (findB t.blocks c.sum).toNat).view = c.view then findB t.blocks c.sum else -1) else -1

theorem c_impl_certBlock (n1 n2 n3 : Option Bool) (t : Tree) (c : Cert) (hx : TreeSz t) : Det Tryz.prog 104 [.agg (encT n1 n2 n3 t), .agg (encC c)] (.int .i64 (certBlock t c)) := by
  refine fspec_det tab_ok Tryz.call104 Tryz.func104 rfl 27 Tryz.ntmps104 (of_decide_eq_true rfl) fun B => codeK_sound tab_ok _ _ _ ?_
  unfold certBlock encT
  simp (config := { maxSteps := 4000000 }) only [go_sem, simprocAttr, ↓dnA, Tryz.f104, encC]
  refine CallTo.det (c_impl_CertCounts c) fun _ => ?_
  cases h1 : certCounts c with
  | false => simp (config := { maxSteps := 4000000 }) only [go_sem, simprocAttr, ↓dnA, Tryz.f104, h1]
  | true =>
    simp (config := { maxSteps := 4000000 }) only [go_sem, simprocAttr, ↓dnA, Tryz.f104, h1]
    refine CallTo.det (c_impl_find n1 n2 n3 t c.sum hx) fun _ => ?_
    simp (config := { maxSteps := 4000000 }) only [go_sem, simprocAttr, ↓dnA, Tryz.f104, h1]
    refine semL_draw tab_ok mixed_ rfl (ord := [(0, []), (1, []), (2, []), (3, []), (4, []), (5, []), (6, []), (7, []), (8, []), (9, []), (10, []), (11, []), (12, [])]) (by dsimp only; decide +kernel) ?_
    rcases findB_cases t c.sum with ⟨hf, _⟩ | ⟨i, hi, hf, _⟩
    · simp (config := { maxSteps := 4000000 }) only [go_sem, simprocAttr, ↓dnA, Tryz.f104, h1, hf]
    · have hd : decide ((i : Int) ≥ 0) = true := by simp
      have hn : ((i : Int) < 0) = False := by simp
      by_cases h2 : (t.blk i).view = c.view
      · have h2' : ((t.blk i).view != c.view) = false := by simp [h2]
        simp (config := { maxSteps := 4000000 }) only [go_sem, simprocAttr, ↓dnA, Tryz.f104, h1, hf, hd, nn0, nlt hi, rows_length, rows_gd _ _ i hi, Tree.blk, encB1, encBk, hn, h2, h2']
        all_goals (try unfold Tree.blk at h2 h2'); (try simp (config := { maxSteps := 4000000 }) only [go_sem, simprocAttr, ↓dnA, Tryz.f104, h1, hf, hd, nn0, nlt hi, rows_length, rows_gd _ _ i hi, encB1, encBk, hn, h2, h2'])
      · have h2' : ((t.blk i).view != c.view) = true := by simp [h2]
        simp (config := { maxSteps := 4000000 }) only [go_sem, simprocAttr, ↓dnA, Tryz.f104, h1, hf, hd, nn0, nlt hi, rows_length, rows_gd _ _ i hi, Tree.blk, encB1, encBk, hn, h2, h2']
        all_goals (try unfold Tree.blk at h2 h2'); (try simp (config := { maxSteps := 4000000 }) only [go_sem, simprocAttr, ↓dnA, Tryz.f104, h1, hf, hd, nn0, nlt hi, rows_length, rows_gd _ _ i hi, encB1, encBk, hn, h2, h2'])

end Go.Proofs.YtmibclbinebnjaaGreat

/- Contracts: the laws' marks. -/
set_option linter.unusedSimpArgs false
set_option linter.unusedVariables false
set_option maxRecDepth 20000
set_option maxHeartbeats 4000000
namespace Go.Proofs.YtmibclbinebnjaaGreat
open Go Go.RowKit

section
variable {α : Type} (e : α → List AV) (mk : α → Int → α) (st : α → Nat)

def stepS : List α → Nat
  | [] => 0
  | x :: r => st x + stepS r

/-- Elements that are marked one after the other, from k on. -/
def markS : List α → Int → List α
  | [], _ => []
  | x :: r, k => mk x k :: markS r (k + st x)

theorem markS_length : ∀ (xs : List α) (k : Int), (markS mk st xs k).length = xs.length
  | [], _ => rfl
  | x :: r, k => by simp [markS, markS_length r]

theorem stepS_take_succ : ∀ (xs : List α) (i : Nat) (h : i < xs.length), stepS st (xs.take (i + 1)) = stepS st (xs.take i) + st xs[i]
  | x :: r, 0, _ => by simp [stepS]
  | x :: r, i + 1, h => by
    have := stepS_take_succ r i (by simpa using h)
    simp only [List.take_succ_cons, stepS, List.getElem_cons_succ] at this ⊢
    omega

theorem stepS_le : ∀ (xs : List α) (i : Nat), stepS st (xs.take i) ≤ stepS st xs
  | [], _ => by simp [stepS]
  | x :: r, 0 => by simp [stepS]
  | x :: r, i + 1 => by
    have := stepS_le r i
    simp only [List.take_succ_cons, stepS]; omega

theorem stepS_lt (xs : List α) (i : Nat) (h : i < xs.length) : stepS st (xs.take i) + st xs[i] ≤ stepS st xs := by
  rw [← stepS_take_succ st xs i h]; exact stepS_le st xs (i + 1)

theorem markS_append : ∀ (xs ys : List α) (k : Int), markS mk st (xs ++ ys) k = markS mk st xs k ++ markS mk st ys (k + stepS st xs)
  | [], ys, k => by simp [markS, stepS]
  | x :: r, ys, k => by
    simp only [List.cons_append, markS, stepS, markS_append r ys]
    rw [show k + (st x : Int) + (stepS st r : Int) = k + ((st x + stepS st r : Nat) : Int) by omega]

theorem markS_take_succ (xs : List α) (i : Nat) (h : i < xs.length) (k : Int) : markS mk st (xs.take (i + 1)) k = markS mk st (xs.take i) k ++ [mk xs[i] (k + stepS st (xs.take i))] := by
  rw [take_snoc xs i h, markS_append]; rfl

theorem markS_get : ∀ (xs : List α) (i : Nat) (h : i < xs.length) (k : Int), (markS mk st xs k)[i]'(by rw [markS_length]; exact h) = mk xs[i] (k + stepS st (xs.take i))
  | x :: r, 0, _, k => by simp [markS, stepS]
  | x :: r, i + 1, h, k => by
    have := markS_get r i (by simpa using h) (k + st x)
    simp only [markS, List.getElem_cons_succ, List.take_succ_cons, stepS, this]
    rw [show k + (st x : Int) + (stepS st (r.take i) : Int) = k + ((st x + stepS st (r.take i) : Nat) : Int) by omega]

theorem markS_rget (xs : List α) (i : Nat) (k : Int) (h : i < xs.length) : (rows e (markS mk st xs k)).getD i [] = e (mk xs[i] (k + stepS st (xs.take i))) := by
  rw [rows_get _ _ _ (by rw [markS_length]; exact h), markS_get]

/-- The first i elements are marked. -/
def midS (xs : List α) (k : Int) (i : Nat) : List α := markS mk st (xs.take i) k ++ xs.drop i

theorem midS_zero (xs : List α) (k : Int) : midS mk st xs k 0 = xs := by simp [midS, markS]
theorem midS_len (xs : List α) (k : Int) : midS mk st xs k xs.length = markS mk st xs k := by simp [midS]
theorem midS_length (xs : List α) (k : Int) (i : Nat) (hi : i ≤ xs.length) : (midS mk st xs k i).length = xs.length := by
  simp [midS, markS_length]; omega
theorem midS_get (xs : List α) (k : Int) (i : Nat) (h : i < xs.length) : (rows e (midS mk st xs k i)).getD i [] = e xs[i] := by
  have hl : (markS mk st (xs.take i) k).length = i := by rw [markS_length, List.length_take]; omega
  have hl' : i < (midS mk st xs k i).length := by rw [midS_length _ _ _ _ _ (by omega)]; exact h
  rw [rows_get _ _ _ hl']
  congr 1
  have : (midS mk st xs k i)[i]? = some xs[i] := by
    unfold midS
    rw [List.getElem?_append_right (by omega), hl, Nat.sub_self]
    simp [h]
  exact Option.some.inj ((List.getElem?_eq_getElem hl').symm.trans this)
theorem midS_set (xs : List α) (k : Int) (i : Nat) (h : i < xs.length) : (rows e (midS mk st xs k i)).set i (e (mk xs[i] (k + stepS st (xs.take i)))) = rows e (midS mk st xs k (i + 1)) := by
  rw [rows_set]
  congr 1
  have hl : (markS mk st (xs.take i) k).length = i := by rw [markS_length, List.length_take]; omega
  unfold midS
  rw [List.set_append_right _ _ (by omega), hl, Nat.sub_self, drop_cons xs i h, List.set_cons_zero, markS_take_succ _ _ _ _ h, List.append_assoc]
  rfl
end

theorem set_same {α : Type} (l : List α) (i : Nat) (d : α) (h : i < l.length) (v : α) : (l.set i v).getD i d = v := by
  rw [set_getD _ _ _ _ _ h, if_pos rfl]

def mkE (_ : Entry) (k : Int) : Entry := ⟨k, k + 1⟩
def stE (_ : Entry) : Nat := 2
def mkA (_ : Action) (k : Int) : Action := ⟨k, k + 1, k + 1 + 1, k + 1 + 1 + 1⟩
def stA (_ : Action) : Nat := 4
def mkI (_ : Int) (k : Int) : Int := k
def stI (_ : Int) : Nat := 1

theorem c_laws_markEntryS (nn : Bool) (sz : Nat) (xs : List Entry) (k : Int) (hs : xs = [] ∨ sz = 2) (hx : xs.length < 2 ^ 62) (hk : 0 ≤ k ∧ k + stepS stE xs < 2 ^ 62) :
    FSpecM Tryz.prog 85 [.row 800 xs.length, .int .i64 k] [.osl nn sz (rows encE xs)] (fun r ls' => r = .int .i64 (k + stepS stE xs) ∧ ls' = [.osl nn sz (rows encE (markS mkE stE xs k))]) := by
  refine fspec_introM tab_ok Tryz.call85 Tryz.func85 rfl 27 Tryz.ntmps85 (of_decide_eq_true rfl) (of_decide_eq_true rfl) fun B => codeK_sound tab_ok _ _ _ ?_
  rcases hs with rfl | rfl
  · simp (config := { maxSteps := 4000000 }) only [go_sem, simprocAttr, ↓dnA, Tryz.f85]
    refine semL_for tab_ok (fun i : Nat => ⟨27, [(0, .row 800 0), (1, .int .i64 k), (5, .int .i64 0)], [(800, .row true nn sz (rows encE ([] : List Entry)))]⟩) (fun i => i) (fun _ => True) 0 [(800, 800)] (Weak.of (by rfl) ?_ ?_ (by rfl)) trivial ?_
    · simp (config := { maxSteps := 4000000 }) only [go_sem, simprocAttr, ↓dnA, Tryz.f85, frW, wk2, wk1, wkL, wkB, hpW, List.mem_cons, Prod.mk.injEq, exists_eq_left, exists_eq_right, exists_eq]
    · simp (config := { maxSteps := 4000000 }) only [go_sem, simprocAttr, ↓dnA, Tryz.f85, List.length_nil, nc0, frW, wk2, wk1, wkL, wkB, hpW, List.mem_cons, Prod.mk.injEq, exists_eq_left, exists_eq_right, exists_eq]
    · rintro i -
      simp (config := { maxSteps := 4000000 }) only [go_sem, simprocAttr, ↓dnA, Tryz.f85, List.length_nil, nc0, rows_length]
      simp [stepS, markS, rows]
  · simp (config := { maxSteps := 4000000 }) only [go_sem, simprocAttr, ↓dnA, Tryz.f85, rows_length]
    refine semL_for tab_ok (fun i : Nat => ⟨27, [(0, .row 800 xs.length), (1, .int .i64 (k + (stepS stE (xs.take i) : Int))), (5, .int .i64 i)], [(800, .row true nn 2 (rows encE (midS mkE stE xs k i)))]⟩) (fun i => xs.length - i)
      (fun i => i ≤ xs.length) 0 [(800, 800)] (Weak.of (by rfl) ?_ ?_ (by rfl)) (by omega) ?_
    · simp (config := { maxSteps := 4000000 }) only [go_sem, simprocAttr, ↓dnA, Tryz.f85, midS_zero, frW, wk2, wk1, wkL, wkB, hpW, List.mem_cons, Prod.mk.injEq, exists_eq_left, exists_eq_right, exists_eq]
    · simp (config := { maxSteps := 4000000 }) only [go_sem, simprocAttr, ↓dnA, Tryz.f85, List.take_zero, stepS, Int.add_zero, nc0, frW, wk2, wk1, wkL, wkB, hpW, List.mem_cons, Prod.mk.injEq, exists_eq_left, exists_eq_right, exists_eq]
    · rintro i hi
      by_cases h : i < xs.length
      · have hb := stepS_lt stE xs i h
        have hm : i < (rows encE (midS mkE stE xs k i)).length := by rw [rows_length, midS_length _ _ _ _ _ hi]; exact h
        have hst : stE xs[i] = 2 := rfl
        have hw1 : IntKind.i64.wrap ((k + (stepS stE (xs.take i) : Int)) + 1) = (k + (stepS stE (xs.take i) : Int)) + 1 := wrap_small _ (by omega) (by omega)
        have hw2 : IntKind.i64.wrap ((k + (stepS stE (xs.take i) : Int)) + 1 + 1) = (k + (stepS stE (xs.take i) : Int)) + 1 + 1 := wrap_small _ (by omega) (by omega)
        have hK : k + (stepS stE (xs.take (i + 1)) : Int) = (k + (stepS stE (xs.take i) : Int)) + 1 + 1 := by rw [stepS_take_succ _ _ _ h, hst]; omega
        simp (config := { maxSteps := 4000000 }) only [go_sem, simprocAttr, ↓dnA, Tryz.f85, rows_length, midS_length _ _ _ _ _ hi, List.length_set, nlt h, h, nn0, midS_get _ _ _ _ _ _ h, encE, set_same _ _ _ hm, List.set_set, spliceL, hw1, hw2, wsucc h hx]
        refine ⟨i + 1, [(800, 800)], by omega, by dsimp only; omega, Weak.of (by rfl) ?_ ?_ (by rfl)⟩
        · simp (config := { maxSteps := 4000000 }) only [go_sem, simprocAttr, ↓dnA, Tryz.f85, frW, wk2, wk1, wkL, wkB, hpW, List.mem_cons, Prod.mk.injEq, exists_eq_left, exists_eq_right, exists_eq]
          exact (midS_set encE mkE stE xs k i h).symm
        · simp (config := { maxSteps := 4000000 }) only [go_sem, simprocAttr, ↓dnA, Tryz.f85, hK, wsucc h hx, frW, wk2, wk1, wkL, wkB, hpW, List.mem_cons, Prod.mk.injEq, exists_eq_left, exists_eq_right, exists_eq]
      · have hi' : i = xs.length := by omega
        subst hi'
        simp (config := { maxSteps := 4000000 }) only [go_sem, simprocAttr, ↓dnA, Tryz.f85, nlf h, rows_length, midS_len, List.take_length, markS_length]

theorem c_laws_heldEntryS (n1 : Option Bool) (xs : List Entry) (k : Int) (hx : xs.length < 2 ^ 62) (hk : 0 ≤ k ∧ k + stepS stE xs < 2 ^ 62) :
    Det Tryz.prog 86 [.sl n1 (rows encE (markS mkE stE xs k)), .int .i64 k] (.int .i64 (k + stepS stE xs)) := by
  refine fspec_det tab_ok Tryz.call86 Tryz.func86 rfl 31 Tryz.ntmps86 (of_decide_eq_true rfl) fun B => codeK_sound tab_ok _ _ _ ?_
  simp (config := { maxSteps := 4000000 }) only [go_sem, simprocAttr, ↓dnA, Tryz.f86]
  refine semL_for tab_ok (fun i : Nat => ⟨31, [(0, .sl n1 (rows encE (markS mkE stE xs k))), (1, .int .i64 (k + (stepS stE (xs.take i) : Int))), (5, .int .i64 i)], []⟩) (fun i => xs.length - i)
    (fun i => i ≤ xs.length) 0 [] (Weak.of rfl trivial ?_ rfl) (by omega) ?_
  · simp (config := { maxSteps := 4000000 }) only [go_sem, simprocAttr, ↓dnA, Tryz.f86, List.take_zero, stepS, Int.add_zero, nc0, frW, wk2, wk1, wkL, wkB, hpW, List.mem_cons, Prod.mk.injEq, exists_eq_left, exists_eq_right, exists_eq]
  · rintro i hi
    by_cases h : i < xs.length
    · have hb := stepS_lt stE xs i h
      have hst : stE xs[i] = 2 := rfl
      have hw1 : IntKind.i64.wrap ((k + (stepS stE (xs.take i) : Int)) + 1) = (k + (stepS stE (xs.take i) : Int)) + 1 := wrap_small _ (by omega) (by omega)
      have hw2 : IntKind.i64.wrap ((k + (stepS stE (xs.take i) : Int)) + 1 + 1) = (k + (stepS stE (xs.take i) : Int)) + 1 + 1 := wrap_small _ (by omega) (by omega)
      have hK : k + (stepS stE (xs.take (i + 1)) : Int) = (k + (stepS stE (xs.take i) : Int)) + 1 + 1 := by rw [stepS_take_succ _ _ _ h, hst]; omega
      simp (config := { maxSteps := 4000000 }) only [go_sem, simprocAttr, ↓dnA, Tryz.f86, rows_length, markS_length, nlt h, h, nn0, markS_rget _ _ _ _ _ _ h, encE, mkE, hw1, hw2, wsucc h hx]
      refine ⟨i + 1, [], by omega, by dsimp only; omega, Weak.of rfl trivial ?_ rfl⟩
      simp (config := { maxSteps := 4000000 }) only [go_sem, simprocAttr, ↓dnA, Tryz.f86, hK, wsucc h hx, frW, wk2, wk1, wkL, wkB, hpW, List.mem_cons, Prod.mk.injEq, exists_eq_left, exists_eq_right, exists_eq]
    · have hi' : i = xs.length := by omega
      subst hi'
      simp (config := { maxSteps := 4000000 }) only [go_sem, simprocAttr, ↓dnA, Tryz.f86, nlf h, rows_length, List.take_length, markS_length]


theorem c_laws_markActionS (nn : Bool) (sz : Nat) (xs : List Action) (k : Int) (hs : xs = [] ∨ sz = 4) (hx : xs.length < 2 ^ 62) (hk : 0 ≤ k ∧ k + stepS stA xs < 2 ^ 62) :
    FSpecM Tryz.prog 70 [.row 800 xs.length, .int .i64 k] [.osl nn sz (rows encA xs)] (fun r ls' => r = .int .i64 (k + stepS stA xs) ∧ ls' = [.osl nn sz (rows encA (markS mkA stA xs k))]) := by
  refine fspec_introM tab_ok Tryz.call70 Tryz.func70 rfl 41 Tryz.ntmps70 (of_decide_eq_true rfl) (of_decide_eq_true rfl) fun B => codeK_sound tab_ok _ _ _ ?_
  rcases hs with rfl | rfl
  · simp (config := { maxSteps := 4000000 }) only [go_sem, simprocAttr, ↓dnA, Tryz.f70]
    refine semL_for tab_ok (fun i : Nat => ⟨41, [(0, .row 800 0), (1, .int .i64 k), (5, .int .i64 0)], [(800, .row true nn sz (rows encA ([] : List Action)))]⟩) (fun i => i) (fun _ => True) 0 [(800, 800)] (Weak.of (by rfl) ?_ ?_ (by rfl)) trivial ?_
    · simp (config := { maxSteps := 4000000 }) only [go_sem, simprocAttr, ↓dnA, Tryz.f70, frW, wk2, wk1, wkL, wkB, hpW, List.mem_cons, Prod.mk.injEq, exists_eq_left, exists_eq_right, exists_eq]
    · simp (config := { maxSteps := 4000000 }) only [go_sem, simprocAttr, ↓dnA, Tryz.f70, List.length_nil, nc0, frW, wk2, wk1, wkL, wkB, hpW, List.mem_cons, Prod.mk.injEq, exists_eq_left, exists_eq_right, exists_eq]
    · rintro i -
      simp (config := { maxSteps := 4000000 }) only [go_sem, simprocAttr, ↓dnA, Tryz.f70, List.length_nil, nc0, rows_length]
      simp [stepS, markS, rows]
  · simp (config := { maxSteps := 4000000 }) only [go_sem, simprocAttr, ↓dnA, Tryz.f70, rows_length]
    refine semL_for tab_ok (fun i : Nat => ⟨41, [(0, .row 800 xs.length), (1, .int .i64 (k + (stepS stA (xs.take i) : Int))), (5, .int .i64 i)], [(800, .row true nn 4 (rows encA (midS mkA stA xs k i)))]⟩) (fun i => xs.length - i)
      (fun i => i ≤ xs.length) 0 [(800, 800)] (Weak.of (by rfl) ?_ ?_ (by rfl)) (by omega) ?_
    · simp (config := { maxSteps := 4000000 }) only [go_sem, simprocAttr, ↓dnA, Tryz.f70, midS_zero, frW, wk2, wk1, wkL, wkB, hpW, List.mem_cons, Prod.mk.injEq, exists_eq_left, exists_eq_right, exists_eq]
    · simp (config := { maxSteps := 4000000 }) only [go_sem, simprocAttr, ↓dnA, Tryz.f70, List.take_zero, stepS, Int.add_zero, nc0, frW, wk2, wk1, wkL, wkB, hpW, List.mem_cons, Prod.mk.injEq, exists_eq_left, exists_eq_right, exists_eq]
    · rintro i hi
      by_cases h : i < xs.length
      · have hb := stepS_lt stA xs i h
        have hm : i < (rows encA (midS mkA stA xs k i)).length := by rw [rows_length, midS_length _ _ _ _ _ hi]; exact h
        have hst : stA xs[i] = 4 := rfl
        have hw1 : IntKind.i64.wrap ((k + (stepS stA (xs.take i) : Int)) + 1) = (k + (stepS stA (xs.take i) : Int)) + 1 := wrap_small _ (by omega) (by omega)
        have hw2 : IntKind.i64.wrap ((k + (stepS stA (xs.take i) : Int)) + 1 + 1) = (k + (stepS stA (xs.take i) : Int)) + 1 + 1 := wrap_small _ (by omega) (by omega)
        have hw3 : IntKind.i64.wrap ((k + (stepS stA (xs.take i) : Int)) + 1 + 1 + 1) = (k + (stepS stA (xs.take i) : Int)) + 1 + 1 + 1 := wrap_small _ (by omega) (by omega)
        have hw4 : IntKind.i64.wrap ((k + (stepS stA (xs.take i) : Int)) + 1 + 1 + 1 + 1) = (k + (stepS stA (xs.take i) : Int)) + 1 + 1 + 1 + 1 := wrap_small _ (by omega) (by omega)
        have hK : k + (stepS stA (xs.take (i + 1)) : Int) = (k + (stepS stA (xs.take i) : Int)) + 1 + 1 + 1 + 1 := by rw [stepS_take_succ _ _ _ h, hst]; omega
        simp (config := { maxSteps := 4000000 }) only [go_sem, simprocAttr, ↓dnA, Tryz.f70, rows_length, midS_length _ _ _ _ _ hi, List.length_set, nlt h, h, nn0, midS_get _ _ _ _ _ _ h, encA, set_same _ _ _ hm, List.set_set, spliceL, hw1, hw2, hw3, hw4, wsucc h hx]
        refine ⟨i + 1, [(800, 800)], by omega, by dsimp only; omega, Weak.of (by rfl) ?_ ?_ (by rfl)⟩
        · simp (config := { maxSteps := 4000000 }) only [go_sem, simprocAttr, ↓dnA, Tryz.f70, frW, wk2, wk1, wkL, wkB, hpW, List.mem_cons, Prod.mk.injEq, exists_eq_left, exists_eq_right, exists_eq]
          exact (midS_set encA mkA stA xs k i h).symm
        · simp (config := { maxSteps := 4000000 }) only [go_sem, simprocAttr, ↓dnA, Tryz.f70, hK, wsucc h hx, frW, wk2, wk1, wkL, wkB, hpW, List.mem_cons, Prod.mk.injEq, exists_eq_left, exists_eq_right, exists_eq]
      · have hi' : i = xs.length := by omega
        subst hi'
        simp (config := { maxSteps := 4000000 }) only [go_sem, simprocAttr, ↓dnA, Tryz.f70, nlf h, rows_length, midS_len, List.take_length, markS_length]

theorem c_laws_heldActionS (n1 : Option Bool) (xs : List Action) (k : Int) (hx : xs.length < 2 ^ 62) (hk : 0 ≤ k ∧ k + stepS stA xs < 2 ^ 62) :
    Det Tryz.prog 71 [.sl n1 (rows encA (markS mkA stA xs k)), .int .i64 k] (.int .i64 (k + stepS stA xs)) := by
  refine fspec_det tab_ok Tryz.call71 Tryz.func71 rfl 49 Tryz.ntmps71 (of_decide_eq_true rfl) fun B => codeK_sound tab_ok _ _ _ ?_
  simp (config := { maxSteps := 4000000 }) only [go_sem, simprocAttr, ↓dnA, Tryz.f71]
  refine semL_for tab_ok (fun i : Nat => ⟨49, [(0, .sl n1 (rows encA (markS mkA stA xs k))), (1, .int .i64 (k + (stepS stA (xs.take i) : Int))), (5, .int .i64 i)], []⟩) (fun i => xs.length - i)
    (fun i => i ≤ xs.length) 0 [] (Weak.of rfl trivial ?_ rfl) (by omega) ?_
  · simp (config := { maxSteps := 4000000 }) only [go_sem, simprocAttr, ↓dnA, Tryz.f71, List.take_zero, stepS, Int.add_zero, nc0, frW, wk2, wk1, wkL, wkB, hpW, List.mem_cons, Prod.mk.injEq, exists_eq_left, exists_eq_right, exists_eq]
  · rintro i hi
    by_cases h : i < xs.length
    · have hb := stepS_lt stA xs i h
      have hst : stA xs[i] = 4 := rfl
      have hw1 : IntKind.i64.wrap ((k + (stepS stA (xs.take i) : Int)) + 1) = (k + (stepS stA (xs.take i) : Int)) + 1 := wrap_small _ (by omega) (by omega)
      have hw2 : IntKind.i64.wrap ((k + (stepS stA (xs.take i) : Int)) + 1 + 1) = (k + (stepS stA (xs.take i) : Int)) + 1 + 1 := wrap_small _ (by omega) (by omega)
      have hw3 : IntKind.i64.wrap ((k + (stepS stA (xs.take i) : Int)) + 1 + 1 + 1) = (k + (stepS stA (xs.take i) : Int)) + 1 + 1 + 1 := wrap_small _ (by omega) (by omega)
      have hw4 : IntKind.i64.wrap ((k + (stepS stA (xs.take i) : Int)) + 1 + 1 + 1 + 1) = (k + (stepS stA (xs.take i) : Int)) + 1 + 1 + 1 + 1 := wrap_small _ (by omega) (by omega)
      have hK : k + (stepS stA (xs.take (i + 1)) : Int) = (k + (stepS stA (xs.take i) : Int)) + 1 + 1 + 1 + 1 := by rw [stepS_take_succ _ _ _ h, hst]; omega
      simp (config := { maxSteps := 4000000 }) only [go_sem, simprocAttr, ↓dnA, Tryz.f71, rows_length, markS_length, nlt h, h, nn0, markS_rget _ _ _ _ _ _ h, encA, mkA, hw1, hw2, hw3, hw4, wsucc h hx]
      refine ⟨i + 1, [], by omega, by dsimp only; omega, Weak.of rfl trivial ?_ rfl⟩
      simp (config := { maxSteps := 4000000 }) only [go_sem, simprocAttr, ↓dnA, Tryz.f71, hK, wsucc h hx, frW, wk2, wk1, wkL, wkB, hpW, List.mem_cons, Prod.mk.injEq, exists_eq_left, exists_eq_right, exists_eq]
    · have hi' : i = xs.length := by omega
      subst hi'
      simp (config := { maxSteps := 4000000 }) only [go_sem, simprocAttr, ↓dnA, Tryz.f71, nlf h, rows_length, List.take_length, markS_length]


theorem c_laws_markIntS (nn : Bool) (sz : Nat) (xs : List Int) (k : Int) (hs : xs = [] ∨ sz = 1) (hx : xs.length < 2 ^ 62) (hk : 0 ≤ k ∧ k + stepS stI xs < 2 ^ 62) :
    FSpecM Tryz.prog 63 [.row 800 xs.length, .int .i64 k] [.osl nn sz (rows encI xs)] (fun r ls' => r = .int .i64 (k + stepS stI xs) ∧ ls' = [.osl nn sz (rows encI (markS mkI stI xs k))]) := by
  refine fspec_introM tab_ok Tryz.call63 Tryz.func63 rfl 19 Tryz.ntmps63 (of_decide_eq_true rfl) (of_decide_eq_true rfl) fun B => codeK_sound tab_ok _ _ _ ?_
  rcases hs with rfl | rfl
  · simp (config := { maxSteps := 4000000 }) only [go_sem, simprocAttr, ↓dnA, Tryz.f63]
    refine semL_for tab_ok (fun i : Nat => ⟨19, [(0, .row 800 0), (1, .int .i64 k), (5, .int .i64 0)], [(800, .row true nn sz (rows encI ([] : List Int)))]⟩) (fun i => i) (fun _ => True) 0 [(800, 800)] (Weak.of (by rfl) ?_ ?_ (by rfl)) trivial ?_
    · simp (config := { maxSteps := 4000000 }) only [go_sem, simprocAttr, ↓dnA, Tryz.f63, frW, wk2, wk1, wkL, wkB, hpW, List.mem_cons, Prod.mk.injEq, exists_eq_left, exists_eq_right, exists_eq]
    · simp (config := { maxSteps := 4000000 }) only [go_sem, simprocAttr, ↓dnA, Tryz.f63, List.length_nil, nc0, frW, wk2, wk1, wkL, wkB, hpW, List.mem_cons, Prod.mk.injEq, exists_eq_left, exists_eq_right, exists_eq]
    · rintro i -
      simp (config := { maxSteps := 4000000 }) only [go_sem, simprocAttr, ↓dnA, Tryz.f63, List.length_nil, nc0, rows_length]
      simp [stepS, markS, rows]
  · simp (config := { maxSteps := 4000000 }) only [go_sem, simprocAttr, ↓dnA, Tryz.f63, rows_length]
    refine semL_for tab_ok (fun i : Nat => ⟨19, [(0, .row 800 xs.length), (1, .int .i64 (k + (stepS stI (xs.take i) : Int))), (5, .int .i64 i)], [(800, .row true nn 1 (rows encI (midS mkI stI xs k i)))]⟩) (fun i => xs.length - i)
      (fun i => i ≤ xs.length) 0 [(800, 800)] (Weak.of (by rfl) ?_ ?_ (by rfl)) (by omega) ?_
    · simp (config := { maxSteps := 4000000 }) only [go_sem, simprocAttr, ↓dnA, Tryz.f63, midS_zero, frW, wk2, wk1, wkL, wkB, hpW, List.mem_cons, Prod.mk.injEq, exists_eq_left, exists_eq_right, exists_eq]
    · simp (config := { maxSteps := 4000000 }) only [go_sem, simprocAttr, ↓dnA, Tryz.f63, List.take_zero, stepS, Int.add_zero, nc0, frW, wk2, wk1, wkL, wkB, hpW, List.mem_cons, Prod.mk.injEq, exists_eq_left, exists_eq_right, exists_eq]
    · rintro i hi
      by_cases h : i < xs.length
      · have hb := stepS_lt stI xs i h
        have hm : i < (rows encI (midS mkI stI xs k i)).length := by rw [rows_length, midS_length _ _ _ _ _ hi]; exact h
        have hst : stI xs[i] = 1 := rfl
        have hw1 : IntKind.i64.wrap ((k + (stepS stI (xs.take i) : Int)) + 1) = (k + (stepS stI (xs.take i) : Int)) + 1 := wrap_small _ (by omega) (by omega)
        have hK : k + (stepS stI (xs.take (i + 1)) : Int) = (k + (stepS stI (xs.take i) : Int)) + 1 := by rw [stepS_take_succ _ _ _ h, hst]; omega
        simp (config := { maxSteps := 4000000 }) only [go_sem, simprocAttr, ↓dnA, Tryz.f63, rows_length, midS_length _ _ _ _ _ hi, List.length_set, nlt h, h, nn0, midS_get _ _ _ _ _ _ h, encI, set_same _ _ _ hm, List.set_set, spliceL, hw1, wsucc h hx]
        refine ⟨i + 1, [(800, 800)], by omega, by dsimp only; omega, Weak.of (by rfl) ?_ ?_ (by rfl)⟩
        · simp (config := { maxSteps := 4000000 }) only [go_sem, simprocAttr, ↓dnA, Tryz.f63, frW, wk2, wk1, wkL, wkB, hpW, List.mem_cons, Prod.mk.injEq, exists_eq_left, exists_eq_right, exists_eq]
          exact (midS_set encI mkI stI xs k i h).symm
        · simp (config := { maxSteps := 4000000 }) only [go_sem, simprocAttr, ↓dnA, Tryz.f63, hK, wsucc h hx, frW, wk2, wk1, wkL, wkB, hpW, List.mem_cons, Prod.mk.injEq, exists_eq_left, exists_eq_right, exists_eq]
      · have hi' : i = xs.length := by omega
        subst hi'
        simp (config := { maxSteps := 4000000 }) only [go_sem, simprocAttr, ↓dnA, Tryz.f63, nlf h, rows_length, midS_len, List.take_length, markS_length]

theorem c_laws_heldIntS (n1 : Option Bool) (xs : List Int) (k : Int) (hx : xs.length < 2 ^ 62) (hk : 0 ≤ k ∧ k + stepS stI xs < 2 ^ 62) :
    Det Tryz.prog 64 [.sl n1 (rows encI (markS mkI stI xs k)), .int .i64 k] (.int .i64 (k + stepS stI xs)) := by
  refine fspec_det tab_ok Tryz.call64 Tryz.func64 rfl 21 Tryz.ntmps64 (of_decide_eq_true rfl) fun B => codeK_sound tab_ok _ _ _ ?_
  simp (config := { maxSteps := 4000000 }) only [go_sem, simprocAttr, ↓dnA, Tryz.f64]
  refine semL_for tab_ok (fun i : Nat => ⟨21, [(0, .sl n1 (rows encI (markS mkI stI xs k))), (1, .int .i64 (k + (stepS stI (xs.take i) : Int))), (5, .int .i64 i)], []⟩) (fun i => xs.length - i)
    (fun i => i ≤ xs.length) 0 [] (Weak.of rfl trivial ?_ rfl) (by omega) ?_
  · simp (config := { maxSteps := 4000000 }) only [go_sem, simprocAttr, ↓dnA, Tryz.f64, List.take_zero, stepS, Int.add_zero, nc0, frW, wk2, wk1, wkL, wkB, hpW, List.mem_cons, Prod.mk.injEq, exists_eq_left, exists_eq_right, exists_eq]
  · rintro i hi
    by_cases h : i < xs.length
    · have hb := stepS_lt stI xs i h
      have hst : stI xs[i] = 1 := rfl
      have hw1 : IntKind.i64.wrap ((k + (stepS stI (xs.take i) : Int)) + 1) = (k + (stepS stI (xs.take i) : Int)) + 1 := wrap_small _ (by omega) (by omega)
      have hK : k + (stepS stI (xs.take (i + 1)) : Int) = (k + (stepS stI (xs.take i) : Int)) + 1 := by rw [stepS_take_succ _ _ _ h, hst]; omega
      simp (config := { maxSteps := 4000000 }) only [go_sem, simprocAttr, ↓dnA, Tryz.f64, rows_length, markS_length, nlt h, h, nn0, markS_rget _ _ _ _ _ _ h, encI, mkI, hw1, wsucc h hx]
      refine ⟨i + 1, [], by omega, by dsimp only; omega, Weak.of rfl trivial ?_ rfl⟩
      simp (config := { maxSteps := 4000000 }) only [go_sem, simprocAttr, ↓dnA, Tryz.f64, hK, wsucc h hx, frW, wk2, wk1, wkL, wkB, hpW, List.mem_cons, Prod.mk.injEq, exists_eq_left, exists_eq_right, exists_eq]
    · have hi' : i = xs.length := by omega
      subst hi'
      simp (config := { maxSteps := 4000000 }) only [go_sem, simprocAttr, ↓dnA, Tryz.f64, nlf h, rows_length, List.take_length, markS_length]


end Go.Proofs.YtmibclbinebnjaaGreat

/- Contracts: reversed lists, the way to a block. -/
set_option linter.unusedSimpArgs false
set_option linter.unusedVariables false
set_option maxRecDepth 20000
set_option maxHeartbeats 4000000
namespace Go.Proofs.YtmibclbinebnjaaGreat
open Go Go.RowKit

theorem semL_ghost {P : Program} {B : Base} {c : Code} {s t : AState} {Kx : Exit → AState → Prop} (hg : Ghost s t) (h : @SemL P B c t ⟨Kx⟩) : @SemL P B c s ⟨Kx⟩ := by
  intro X a w hB hR
  obtain ⟨X', e, hR'⟩ := hg X a w hR
  exact h X' a w (e.trans hB) hR'

/-- The first i elements are exchanged with the last i. -/
def revTo {α : Type} (xs : List α) (i : Nat) : List α := (xs.drop (xs.length - i)).reverse ++ ((xs.take (xs.length - i)).drop i) ++ (xs.take i).reverse

theorem revTo_zero {α : Type} (xs : List α) : revTo xs 0 = xs := by simp [revTo]
theorem revTo_length {α : Type} (xs : List α) (i : Nat) (h : 2 * i ≤ xs.length) : (revTo xs i).length = xs.length := by
  simp only [revTo, List.length_append, List.length_reverse, List.length_drop, List.length_take]; omega
theorem revTo_getElem {α : Type} (xs : List α) (i k : Nat) (h : 2 * i ≤ xs.length) (hk : k < xs.length) :
    (revTo xs i)[k]? = if k < i ∨ xs.length - i ≤ k then xs[xs.length - 1 - k]? else xs[k]? := by
  unfold revTo
  have l1 : ((xs.drop (xs.length - i)).reverse).length = i := by rw [List.length_reverse, List.length_drop]; omega
  have l2 : ((xs.take (xs.length - i)).drop i).length = xs.length - i - i := by rw [List.length_drop, List.length_take]; omega
  by_cases h1 : k < i
  · rw [if_pos (.inl h1), List.append_assoc, List.getElem?_append_left (by omega), List.getElem?_reverse (by rw [List.length_drop]; omega), List.length_drop, List.getElem?_drop]
    congr 1; omega
  · by_cases h2 : xs.length - i ≤ k
    · rw [if_pos (.inr h2), List.getElem?_append_right (by rw [List.length_append]; omega), List.length_append, l1, l2, List.getElem?_reverse (by rw [List.length_take]; omega), List.length_take, List.getElem?_take, if_pos (by omega)]
      congr 1; omega
    · rw [if_neg (by omega), List.append_assoc, List.getElem?_append_right (by omega), List.getElem?_append_left (by omega), List.getElem?_drop, List.getElem?_take, l1, if_pos (by omega)]
      congr 1; omega
theorem revTo_step {α : Type} (xs : List α) (i : Nat) (h : i < xs.length - 1 - i) :
    ((revTo xs i).set i (xs[xs.length - 1 - i]'(by omega))).set (xs.length - 1 - i) (xs[i]'(by omega)) = revTo xs (i + 1) := by
  apply List.ext_getElem?
  intro k
  have hl := revTo_length xs i (by omega)
  have hl' := revTo_length xs (i + 1) (by omega)
  by_cases hk : k < xs.length
  · rw [List.getElem?_set, List.getElem?_set, revTo_getElem xs i k (by omega) hk, revTo_getElem xs (i + 1) k (by omega) hk]
    simp only [List.length_set, hl]
    by_cases h1 : xs.length - 1 - i = k
    · subst h1
      rw [if_pos rfl, if_pos (by omega), if_pos (.inr (by omega)), show xs.length - 1 - (xs.length - 1 - i) = i by omega, List.getElem?_eq_getElem (by omega)]
    · rw [if_neg h1]
      by_cases h2 : i = k
      · subst h2
        rw [if_pos rfl, if_pos (by omega), if_pos (.inl (by omega)), List.getElem?_eq_getElem (by omega)]
      · rw [if_neg h2]
        by_cases h3 : k < i ∨ xs.length - i ≤ k
        · rw [if_pos h3, if_pos (by omega)]
        · rw [if_neg h3, if_neg (by omega)]
  · rw [List.getElem?_eq_none (by simp; omega), List.getElem?_eq_none (by omega)]
theorem revTo_full {α : Type} (xs : List α) (i : Nat) (h : ¬ i < xs.length - 1 - i) (h2 : 2 * i ≤ xs.length) : revTo xs i = xs.reverse := by
  apply List.ext_getElem?
  intro k
  by_cases hk : k < xs.length
  · rw [revTo_getElem xs i k h2 hk, List.getElem?_reverse hk]
    split
    · rfl
    · rw [show xs.length - 1 - k = k by omega]
  · rw [List.getElem?_eq_none (by rw [revTo_length xs i h2]; omega), List.getElem?_eq_none (by simp; omega)]

theorem c_slices_Reverse_int (nn : Bool) (xs : List Int) (hx : xs.length < 2 ^ 62) :
    FSpecM Tryz.prog 192 [.row 800 xs.length] [.osl nn 1 (rows encI xs)] (fun r ls' => r = .tup [] ∧ ls' = [.osl nn 1 (rows encI xs.reverse)]) := by
  refine fspec_introM tab_ok Tryz.call192 Tryz.func192 rfl 28 Tryz.ntmps192 (of_decide_eq_true rfl) (of_decide_eq_true rfl) fun B => codeK_sound tab_ok _ _ _ ?_
  have hw0 : IntKind.i64.wrap ((xs.length : Int) - 1) = (xs.length : Int) - 1 := wrap_small _ (by omega) (by omega)
  simp (config := { maxSteps := 4000000 }) only [go_sem, simprocAttr, ↓dnA, Tryz.f192, rows_length, hw0]
  refine semL_for tab_ok (fun i : Nat => ⟨28, [(0, .row 800 xs.length), (2, .int .i64 i), (3, .int .i64 ((xs.length : Int) - 1 - i))], [(800, .row true nn 1 (rows encI (revTo xs i)))]⟩) (fun i => xs.length - i)
    (fun i => 2 * i ≤ xs.length) 0 [(800, 800)] (Weak.of (by rfl) ?_ ?_ (by rfl)) (by omega) ?_
  · simp (config := { maxSteps := 4000000 }) only [go_sem, simprocAttr, ↓dnA, Tryz.f192, revTo_zero, frW, wk2, wk1, wkL, wkB, hpW, List.mem_cons, Prod.mk.injEq, exists_eq_left, exists_eq_right, exists_eq]
  · simp (config := { maxSteps := 4000000 }) only [go_sem, simprocAttr, ↓dnA, Tryz.f192, nc0, Int.sub_zero, frW, wk2, wk1, wkL, wkB, hpW, List.mem_cons, Prod.mk.injEq, exists_eq_left, exists_eq_right, exists_eq]
  · rintro i hi
    have hl := revTo_length xs i hi
    by_cases h : (i : Int) < (xs.length : Int) - 1 - i
    · have hi1 : i < xs.length := by omega
      obtain ⟨j, hj⟩ : ∃ j : Nat, (xs.length : Int) - 1 - i = (j : Int) := ⟨((xs.length : Int) - 1 - i).toNat, by omega⟩
      have hj1 : j < xs.length := by omega
      have hje : j = xs.length - 1 - i := by omega
      have hij : ((i : Int) < (j : Int)) = True := by simp; omega
      have gi : (rows encI (revTo xs i)).getD i [] = encI xs[i] := by
        have := revTo_getElem xs i i hi hi1
        rw [if_neg (by omega), List.getElem?_eq_getElem hi1, List.getElem?_eq_getElem (by omega)] at this
        rw [rows_get _ _ _ (by omega), Option.some.inj this]
      have gj : (rows encI (revTo xs i)).getD j [] = encI xs[j] := by
        have := revTo_getElem xs i j hi hj1
        rw [if_neg (by omega), List.getElem?_eq_getElem hj1, List.getElem?_eq_getElem (by omega)] at this
        rw [rows_get _ _ _ (by omega), Option.some.inj this]
      have hs : ((rows encI (revTo xs i)).set i [.int .i64 xs[j]]).set j [.int .i64 xs[i]] = rows encI (revTo xs (i + 1)) := by
        have h3 := revTo_step xs i (by omega)
        subst hje
        rw [← h3, ← rows_set, ← rows_set]
        rfl
      have hj2 : ((rows encI (revTo xs i)).set i [.int .i64 xs[j]]).getD j [] = encI xs[j] := by
        rw [set_getD _ _ _ _ _ (by rw [rows_length, hl]; exact hi1), if_neg (by omega)]; exact gj
      have hw1 : IntKind.i64.wrap ((j : Int) - 1) = (xs.length : Int) - 1 - ((i + 1 : Nat) : Int) := by rw [wrap_small _ (by omega) (by omega)]; omega
      simp (config := { maxSteps := 4000000 }) only [go_sem, simprocAttr, ↓dnA, Tryz.f192, hj, hij, rows_length, hl]
      refine semL_draw tab_ok mixed_ rfl (ord := [(0, []), (1, []), (2, []), (3, []), (4, []), (5, []), (6, []), (7, []), (8, []), (9, []), (10, []), (11, []), (12, []), (13, [2, 3]), (14, []), (15, [])]) (by dsimp only; decide +kernel) ?_
      simp (config := { maxSteps := 4000000 }) only [go_sem, simprocAttr, ↓dnA, Tryz.f192, hj, rows_length, hl, List.length_set, nlt hi1, nlt hj1, hi1, hj1, nn0, gi, gj, encI, spliceL, hj2, hw1, wsucc hi1 hx]
      refine ⟨i + 1, [(800, 800)], by omega, by dsimp only; omega, Weak.of (by rfl) ?_ ?_ (by rfl)⟩
      · simp (config := { maxSteps := 4000000 }) only [go_sem, simprocAttr, ↓dnA, Tryz.f192, frW, wk2, wk1, wkL, wkB, hpW, List.mem_cons, Prod.mk.injEq, exists_eq_left, exists_eq_right, exists_eq]
        exact hs.symm
      · simp (config := { maxSteps := 4000000 }) only [go_sem, simprocAttr, ↓dnA, Tryz.f192, frW, wk2, wk1, wkL, wkB, hpW, List.mem_cons, Prod.mk.injEq, exists_eq_left, exists_eq_right, exists_eq]
    · simp (config := { maxSteps := 4000000 }) only [go_sem, simprocAttr, ↓dnA, Tryz.f192, eq_false h, rows_length, hl, revTo_full xs i (by omega) hi, List.length_reverse]

end Go.Proofs.YtmibclbinebnjaaGreat

/- Contracts: the way to a block. -/
set_option linter.unusedSimpArgs false
set_option linter.unusedVariables false
set_option maxRecDepth 20000
set_option maxHeartbeats 4000000
namespace Go.Proofs.YtmibclbinebnjaaGreat
open Go Go.RowKit

/-- The numbers of the blocks from one back to the first, at most f of them. -/
def backF (t : Tree) : Nat → Int → List Int
  | 0, _ => []
  | f + 1, n => if n < 0 then [] else n :: backF t f (t.bef n.toNat)
def back (t : Tree) (n : Int) : List Int := backF t (n.toNat + 1) n
def pathL (t : Tree) (n : Int) : List Int := (back t n).reverse

theorem backF_eq {t : Tree} (ht : TreeOk t) : ∀ (f : Nat) (n : Int), n < t.blocks.length → n + 1 ≤ f → backF t f n = back t n
  | 0, n, _, hf => by
    unfold back
    rw [show backF t 0 n = [] from rfl]
    unfold backF
    rw [if_pos (by omega)]
  | f + 1, n, hn, hf => by
    unfold back
    by_cases h : n < 0
    · unfold backF; rw [if_pos h, if_pos h]
    · unfold backF
      rw [if_neg h, if_neg h]
      obtain ⟨k, rfl⟩ : ∃ k : Nat, n = (k : Int) := ⟨n.toNat, by omega⟩
      rw [Int.toNat_natCast]
      have hb : t.bef k < k := by
        by_cases hk : k = 0
        · subst hk; rw [ht.bef0]; omega
        · exact (ht.link k (by omega) (by omega)).hi
      congr 1
      by_cases h2 : t.bef k < 0
      · have h0 : ∀ g, backF t g (t.bef k) = [] := fun g => by
          cases g with
          | zero => rfl
          | succ g => unfold backF; rw [if_pos h2]
        rw [h0, h0]
      · rw [backF_eq ht f (t.bef k) (by omega) (by omega), backF_eq ht k (t.bef k) (by omega) (by omega)]
termination_by f => f

theorem back_neg (t : Tree) (n : Int) (h : n < 0) : back t n = [] := by unfold back backF; rw [if_pos h]
theorem back_cons {t : Tree} (ht : TreeOk t) (k : Nat) (h : k < t.blocks.length) : back t (k : Int) = (k : Int) :: back t (t.bef k) ∧ t.bef k < k ∧ (t.bef k = -1 ∨ 0 ≤ t.bef k) := by
  have hb : t.bef k < k ∧ (t.bef k = -1 ∨ 0 ≤ t.bef k) := by
    by_cases hk : k = 0
    · subst hk; rw [ht.bef0]; omega
    · have := ht.link k (by omega) h
      exact ⟨this.hi, .inr this.lo⟩
  refine ⟨?_, hb⟩
  conv => lhs; unfold back backF
  rw [if_neg (by omega), Int.toNat_natCast]
  congr 1
  by_cases h2 : t.bef k < 0
  · rw [back_neg _ _ h2]
    cases k with
    | zero => rfl
    | succ k => unfold backF; rw [if_pos h2]
  · exact backF_eq ht k _ (by omega) (by omega)

theorem back_len {t : Tree} (ht : TreeOk t) : ∀ (m : Nat) (n : Int), n < m → n < t.blocks.length → ((back t n).length : Int) ≤ n + 1 ∨ n < 0
  | 0, n, h, _ => .inr (by omega)
  | m + 1, n, h, hn => by
    by_cases h0 : n < 0
    · exact .inr h0
    · obtain ⟨k, rfl⟩ : ∃ k : Nat, n = (k : Int) := ⟨n.toNat, by omega⟩
      obtain ⟨h1, h2, h3⟩ := back_cons ht k (by omega)
      rw [h1, List.length_cons]
      rcases back_len ht m (t.bef k) (by omega) (by omega) with h4 | h4
      · exact .inl (by omega)
      · rw [back_neg _ _ h4]; exact .inl (by simp; omega)

theorem pathL_len {t : Tree} (ht : TreeOk t) {n : Int} (hn : n < t.blocks.length) : (pathL t n).length ≤ 14 := by
  have h1 := back_len ht (n.toNat + 1) n (by omega) hn
  have h2 := ht.len
  unfold pathL
  rw [List.length_reverse]
  rcases h1 with h1 | h1
  · omega
  · rw [back_neg _ _ h1]; simp

theorem back_bd {t : Tree} (ht : TreeOk t) : ∀ (m : Nat) (n : Int), n < m → n < t.blocks.length → ∀ x, x ∈ back t n → 0 ≤ x ∧ x ≤ n
  | 0, n, h, _, x, hx => by rw [back_neg _ _ (by omega)] at hx; cases hx
  | m + 1, n, h, hn, x, hx => by
    by_cases h0 : n < 0
    · rw [back_neg _ _ h0] at hx; cases hx
    · obtain ⟨k, rfl⟩ : ∃ k : Nat, n = (k : Int) := ⟨n.toNat, by omega⟩
      obtain ⟨h1, h2, h3⟩ := back_cons ht k (by omega)
      rw [h1] at hx
      rcases List.mem_cons.1 hx with e | e
      · omega
      · have := back_bd ht m (t.bef k) (by omega) (by omega) x e
        omega
theorem pathL_bd {t : Tree} (ht : TreeOk t) {n : Int} (hn : n < t.blocks.length) : ∀ x, x ∈ pathL t n → 0 ≤ x ∧ x ≤ n := by
  intro x hx
  unfold pathL at hx
  rw [List.mem_reverse] at hx
  exact back_bd ht (n.toNat + 1) n (by omega) hn x hx

theorem c_impl_path (n1 n2 n3 : Option Bool) (t : Tree) (n : Int) (ht : TreeOk t) (hx : TreeSz t) (hn : n < t.blocks.length) :
    Det Tryz.prog 138 [.agg (encT n1 n2 n3 t), .int .i64 n] (.osl false 1 (rows encI (pathL t n))) := by
  refine fspec_det tab_ok Tryz.call138 Tryz.func138 rfl 20 Tryz.ntmps138 (of_decide_eq_true rfl) fun B => codeK_sound tab_ok _ _ _ ?_
  have hlen := ht.len
  simp (config := { maxSteps := 4000000 }) only [go_sem, simprocAttr, ↓dnA, Tryz.f138, encT]
  refine semL_nilA 5 5 1 true (by rfl) (by rfl) (by decide) (by decide) ?_
  refine semL_for tab_ok (fun p : Int × List Int => ⟨20, [(1, .int .i64 p.1), (2, .loc 2 0), (5, .row 5 p.2.length)], [(2, .var (encT n1 n2 n3 t)), (5, .row true false 1 (rows encI p.2))]⟩) (fun p => (p.1 + 1).toNat)
    (fun p => p.1 < t.blocks.length ∧ p.2.length + (p.1 + 1).toNat ≤ 30 ∧ p.2 ++ back t p.1 = back t n) (n, []) [(2, 2), (5, 5)] (Weak.of (by rfl) ?_ ?_ (by rfl)) ⟨hn, by simp; omega, rfl⟩ ?_
  · simp (config := { maxSteps := 4000000 }) only [go_sem, simprocAttr, ↓dnA, Tryz.f138, encT, frW, wk2, wk1, wkL, wkB, hpW, List.mem_cons, Prod.mk.injEq, exists_eq_left, exists_eq_right, exists_eq]
    rfl
  · simp (config := { maxSteps := 4000000 }) only [go_sem, simprocAttr, ↓dnA, Tryz.f138, frW, wk2, wk1, wkL, wkB, hpW, List.mem_cons, Prod.mk.injEq, exists_eq_left, exists_eq_right, exists_eq]
  · rintro ⟨m, acc⟩ ⟨hm, hac, hp⟩
    dsimp only at hm hac hp
    have htk := take_rows encI acc acc.length rfl
    by_cases h : m < 0
    · have hd : decide (m ≥ 0) = false := by simp; omega
      rw [back_neg _ _ h, List.append_nil] at hp
      subst hp
      simp (config := { maxSteps := 4000000 }) only [go_sem, simprocAttr, ↓dnA, Tryz.f138, hd, rows_length, List.nodup_cons]
      refine CallMTo.of (c_slices_Reverse_int false (back t n) (by omega)) ?_
      rintro r ls' ⟨rfl, rfl⟩
      simp (config := { maxSteps := 4000000 }) only [go_sem, simprocAttr, ↓dnA, Tryz.f138, rows_length, List.length_reverse, pathL]
    · have hd : decide (m ≥ 0) = true := by simp; omega
      obtain ⟨k, rfl⟩ : ∃ k : Nat, m = (k : Int) := ⟨m.toNat, by omega⟩
      have hk : k < t.blocks.length := by omega
      have hkb : k < t.before.length := by rw [ht.bef]; exact hk
      obtain ⟨h1, h2, h3⟩ := back_cons ht k hk
      have g1 : (rows encI t.before).getD k [] = encI (t.bef k) := by rw [rows_get _ _ k hkb, t.bef_get k hkb]
      simp (config := { maxSteps := 4000000 }) only [go_sem, simprocAttr, ↓dnA, Tryz.f138, encT, hd, rows_length, htk, nn0, nlt hkb, g1, encI]
      repeat refine And.intro (by first | omega | (simp; done) | (simp; omega) | assumption) ?_
      refine ⟨(t.bef k, acc ++ [(k : Int)]), [(2, 2), (16, 5)], ⟨by dsimp only; omega, by simp; omega, by rw [← hp, h1]; simp⟩, by dsimp only; omega, Weak.of (by rfl) ?_ ?_ (by rfl)⟩
      · simp (config := { maxSteps := 4000000 }) only [go_sem, simprocAttr, ↓dnA, Tryz.f138, encT, frW, wk2, wk1, wkL, wkB, hpW, List.mem_cons, Prod.mk.injEq, exists_eq_left, exists_eq_right, exists_eq]
        exact (rows_snoc encI _ _).symm
      · simp (config := { maxSteps := 4000000 }) only [go_sem, simprocAttr, ↓dnA, Tryz.f138, List.length_append, frW, wk2, wk1, wkL, wkB, hpW, List.mem_cons, Prod.mk.injEq, exists_eq_left, exists_eq_right, exists_eq]

theorem flatI (xs : List Int) : ((rows encI xs).all fun r => r.all AV.flat) = true := by
  simp [rows, encI, AV.flat]
theorem oneI (xs : List Int) : ((rows encI xs).all fun r => r.all AV.one) = true := by
  simp [rows, encI, AV.one]
theorem sz0I (xs : List Int) : xs.length = 0 ∨ ((rows encI xs).getD 0 []).length = 1 := by
  cases xs with
  | nil => exact .inl rfl
  | cons x r => exact .inr rfl

open Classical in
/-- The way to a block of a valid tree. -/
noncomputable def pathTo (t : Tree) (n : Int) : List Int := if treeValid t = true ∧ 0 ≤ n ∧ n < t.blocks.length then pathL t n else []

theorem pathTo_in {t : Tree} (h : treeValid t = true) {n : Int} (h1 : 0 ≤ n) (h2 : n < t.blocks.length) : pathTo t n = pathL t n := by
  unfold pathTo; rw [if_pos ⟨h, h1, h2⟩]

theorem c_spec_PathTo (n1 n2 n3 : Option Bool) (t : Tree) (n : Int) (hx : TreeSz t) :
    Det Tryz.prog 137 [.agg (encT n1 n2 n3 t), .int .i64 n] (.osl true 1 (rows encI (pathTo t n))) := by
  refine fspec_det tab_ok Tryz.call137 Tryz.func137 rfl 27 Tryz.ntmps137 (of_decide_eq_true rfl) fun B => codeK_sound tab_ok _ _ _ ?_
  have hb := hx.blocks
  have hw : IntKind.i64.wrap ((t.blocks.length : Int) - 1) = (t.blocks.length : Int) - 1 := wrap_small _ (by omega) (by omega)
  simp (config := { maxSteps := 4000000 }) only [go_sem, simprocAttr, ↓dnA, Tryz.f137, encT]
  by_cases hok : treeValid t = true ∧ 0 ≤ n ∧ n < t.blocks.length
  · obtain ⟨h0, hn0, hn⟩ := hok
    have ht := treeOk_of h0
    have hlen := ht.len
    have hp0 : pathTo t n = pathL t n := by unfold pathTo; rw [if_pos ⟨h0, hn0, hn⟩]
    rw [hp0]
    refine semL_for tab_ok (fun p : Int × List Int => ⟨27, [(1, .int .i64 p.1), (2, .loc 2 0), (5, .row 6 p.2.length)], [(2, .var (encT n1 n2 n3 t)), (6, .row true true 1 (rows encI p.2))]⟩) (fun p => (p.1 + 1).toNat)
      (fun p => p.1 < t.blocks.length ∧ (p.1 = -1 ∨ 0 ≤ p.1) ∧ p.2.length + (p.1 + 1).toNat ≤ 30 ∧ (back t p.1).reverse ++ p.2 = pathL t n) (n, []) [(2, 2), (6, 6)] (Weak.of (by rfl) ?_ ?_ (by rfl)) ⟨hn, .inr hn0, by simp; omega, by simp [pathL]⟩ ?_
    · simp (config := { maxSteps := 4000000 }) only [go_sem, simprocAttr, ↓dnA, Tryz.f137, encT, frW, wk2, wk1, wkL, wkB, hpW, List.mem_cons, Prod.mk.injEq, exists_eq_left, exists_eq_right, exists_eq]
      rfl
    · simp (config := { maxSteps := 4000000 }) only [go_sem, simprocAttr, ↓dnA, Tryz.f137, frW, wk2, wk1, wkL, wkB, hpW, List.mem_cons, Prod.mk.injEq, exists_eq_left, exists_eq_right, exists_eq]
    · rintro ⟨m, acc⟩ ⟨hm, hm1, hac, hp⟩
      dsimp only at hm hm1 hac hp
      have htk := take_rows encI acc acc.length rfl
      simp (config := { maxSteps := 4000000 }) only [go_sem, simprocAttr, ↓dnA, Tryz.f137, encT]
      refine CallTo.det (c_spec_BlockTreeValid n1 n2 n3 t hx) fun _ => ?_
      simp (config := { maxSteps := 4000000 }) only [go_sem, simprocAttr, ↓dnA, Tryz.f137, encT, h0, rows_length, hw]
      refine CallTo.det (c_l1In _ _ _) fun _ => ?_
      rcases hm1 with rfl | hm1
      · have hd : inB (-1) 0 ((t.blocks.length : Int) - 1) = false := by simp [inB]
        rw [back_neg _ _ (by omega), List.reverse_nil, List.nil_append] at hp
        simp (config := { maxSteps := 4000000 }) only [go_sem, simprocAttr, ↓dnA, Tryz.f137, encT, h0, rows_length, hw, hd, hp]
      · have hd : inB m 0 ((t.blocks.length : Int) - 1) = true := inB_iff.2 (by omega)
        obtain ⟨k, rfl⟩ : ∃ k : Nat, m = (k : Int) := ⟨m.toNat, by omega⟩
        have hk : k < t.blocks.length := by omega
        have hkb : k < t.before.length := by rw [ht.bef]; exact hk
        obtain ⟨h1, h2, h3⟩ := back_cons ht k hk
        have g1 : (rows encI t.before).getD k [] = encI (t.bef k) := by rw [rows_get _ _ k hkb, t.bef_get k hkb]
        have hfl := flatI acc
        have hon := oneI acc
        have hsz := sz0I acc
        simp (config := { maxSteps := 4000000 }) only [go_sem, simprocAttr, ↓dnA, Tryz.f137, encT, h0, rows_length, hw, hd, htk, nn0, nlt hkb, g1, encI]
        repeat refine And.intro (by first | omega | (simp; done) | (simp; omega) | assumption) ?_
        refine ⟨(t.bef k, (k : Int) :: acc), [(2, 2), (20, 6)], ⟨by dsimp only; omega, h3, by simp; omega, by rw [← hp, h1]; simp⟩, by dsimp only; omega, Weak.of (by rfl) ?_ ?_ (by rfl)⟩
        · simp (config := { maxSteps := 4000000 }) only [go_sem, simprocAttr, ↓dnA, Tryz.f137, encT, frW, wk2, wk1, wkL, wkB, hpW, List.mem_cons, Prod.mk.injEq, exists_eq_left, exists_eq_right, exists_eq]
          try rfl
        · simp (config := { maxSteps := 4000000 }) only [go_sem, simprocAttr, ↓dnA, Tryz.f137, List.length_cons, frW, wk2, wk1, wkL, wkB, hpW, List.mem_cons, Prod.mk.injEq, exists_eq_left, exists_eq_right, exists_eq]
          rw [Nat.add_comm]
  · have hp0 : pathTo t n = [] := by unfold pathTo; rw [if_neg hok]
    rw [hp0]
    refine semL_for tab_ok (fun _ : Nat => ⟨27, [(1, .int .i64 n), (2, .loc 2 0), (5, .row 6 0)], [(2, .var (encT n1 n2 n3 t)), (6, .row true true 1 (rows encI []))]⟩) (fun i => i) (fun _ => True) 0 [(2, 2), (6, 6)] (Weak.of (by rfl) ?_ ?_ (by rfl)) trivial ?_
    · simp (config := { maxSteps := 4000000 }) only [go_sem, simprocAttr, ↓dnA, Tryz.f137, encT, frW, wk2, wk1, wkL, wkB, hpW, List.mem_cons, Prod.mk.injEq, exists_eq_left, exists_eq_right, exists_eq]
      rfl
    · simp (config := { maxSteps := 4000000 }) only [go_sem, simprocAttr, ↓dnA, Tryz.f137, frW, wk2, wk1, wkL, wkB, hpW, List.mem_cons, Prod.mk.injEq, exists_eq_left, exists_eq_right, exists_eq]
    · rintro i -
      simp (config := { maxSteps := 4000000 }) only [go_sem, simprocAttr, ↓dnA, Tryz.f137, encT]
      refine CallTo.det (c_spec_BlockTreeValid n1 n2 n3 t hx) fun _ => ?_
      cases h0 : treeValid t with
      | false => simp (config := { maxSteps := 4000000 }) only [go_sem, simprocAttr, ↓dnA, Tryz.f137, encT, h0, rows_length, List.length_nil]
      | true =>
        simp (config := { maxSteps := 4000000 }) only [go_sem, simprocAttr, ↓dnA, Tryz.f137, encT, h0, rows_length, hw]
        refine CallTo.det (c_l1In _ _ _) fun _ => ?_
        have hd : inB n 0 ((t.blocks.length : Int) - 1) = false := by
          cases e : inB n 0 ((t.blocks.length : Int) - 1) with
          | false => rfl
          | true =>
            have := inB_iff.1 e
            exact absurd ⟨h0, by omega, by omega⟩ hok
        simp (config := { maxSteps := 4000000 }) only [go_sem, simprocAttr, ↓dnA, Tryz.f137, encT, h0, rows_length, hw, hd, List.length_nil]

noncomputable def isBefore (t : Tree) (a b : Int) : Bool := (pathTo t b).any fun x => a == x

theorem pathTo_len (t : Tree) (n : Int) : (pathTo t n).length ≤ 14 := by
  unfold pathTo
  split
  · rename_i h
    exact pathL_len (treeOk_of h.1) h.2.2
  · simp

theorem c_spec_IsBefore (n1 n2 n3 : Option Bool) (t : Tree) (a b : Int) (hx : TreeSz t) :
    Det Tryz.prog 133 [.agg (encT n1 n2 n3 t), .int .i64 a, .int .i64 b] (.bool (isBefore t a b)) := by
  refine fspec_det tab_ok Tryz.call133 Tryz.func133 rfl 24 Tryz.ntmps133 (of_decide_eq_true rfl) fun B => codeK_sound tab_ok _ _ _ ?_
  have hlen := pathTo_len t b
  simp (config := { maxSteps := 4000000 }) only [go_sem, simprocAttr, ↓dnA, Tryz.f133, encT]
  refine CallTo.det (c_spec_PathTo n1 n2 n3 t b hx) fun _ => ?_
  simp (config := { maxSteps := 4000000 }) only [go_sem, simprocAttr, ↓dnA, Tryz.f133, encT, rows_length]
  unfold isBefore
  generalize pathTo t b = xs at hlen ⊢
  refine semL_for tab_ok (fun i : Nat => ⟨24, [(1, .int .i64 a), (7, .row 12000 xs.length), (8, .int .i64 i)], [(12000, .row true true 1 (rows encI xs))]⟩) (fun i => xs.length - i)
    (fun i => i ≤ xs.length ∧ (xs.drop i).any (fun x => a == x) = xs.any fun x => a == x) 0 [(12000, 12000)] (Weak.of (by rfl) ?_ ?_ (by rfl)) ⟨by omega, rfl⟩ ?_
  · simp (config := { maxSteps := 4000000 }) only [go_sem, simprocAttr, ↓dnA, Tryz.f133, frW, wk2, wk1, wkL, wkB, hpW, List.mem_cons, Prod.mk.injEq, exists_eq_left, exists_eq_right, exists_eq]
  · simp (config := { maxSteps := 4000000 }) only [go_sem, simprocAttr, ↓dnA, Tryz.f133, frW, wk2, wk1, wkL, wkB, hpW, List.mem_cons, Prod.mk.injEq, exists_eq_left, exists_eq_right, exists_eq]
  · rintro i ⟨hi, hp⟩
    by_cases h : i < xs.length
    · rw [drop_cons xs i h, List.any_cons] at hp
      cases h1 : (xs[i] == a) with
      | true =>
        have h2 : (a == xs[i]) = true := by rw [beq_iff_eq] at h1 ⊢; exact h1.symm
        rw [h2, Bool.true_or] at hp
        simp (config := { maxSteps := 4000000 }) only [go_sem, simprocAttr, ↓dnA, Tryz.f133, rows_length, rows_get _ _ _ h, encI, nlt h, h, nn0, h1, ← hp]
      | false =>
        have h2 : (a == xs[i]) = false := by
          rw [beq_eq_false_iff_ne] at h1 ⊢; exact fun e => h1 e.symm
        rw [h2, Bool.false_or] at hp
        simp (config := { maxSteps := 4000000 }) only [go_sem, simprocAttr, ↓dnA, Tryz.f133, rows_length, rows_get _ _ _ h, encI, nlt h, h, nn0, h1, wsucc h (show xs.length < 2 ^ 62 by omega)]
        refine ⟨i + 1, [(12000, 12000)], ⟨by omega, hp⟩, by dsimp only; omega, Weak.of (by rfl) ?_ ?_ (by rfl)⟩
        · simp (config := { maxSteps := 4000000 }) only [go_sem, simprocAttr, ↓dnA, Tryz.f133, frW, wk2, wk1, wkL, wkB, hpW, List.mem_cons, Prod.mk.injEq, exists_eq_left, exists_eq_right, exists_eq]
        · simp (config := { maxSteps := 4000000 }) only [go_sem, simprocAttr, ↓dnA, Tryz.f133, frW, wk2, wk1, wkL, wkB, hpW, List.mem_cons, Prod.mk.injEq, exists_eq_left, exists_eq_right, exists_eq]
    · have hi' : i = xs.length := by omega
      subst hi'
      rw [List.drop_length, List.any_nil] at hp
      simp (config := { maxSteps := 4000000 }) only [go_sem, simprocAttr, ↓dnA, Tryz.f133, rows_length, nlf h, ← hp]

end Go.Proofs.YtmibclbinebnjaaGreat

/- Contracts: leaves, and the blocks that are kept. -/
set_option linter.unusedSimpArgs false
set_option linter.unusedVariables false
set_option maxRecDepth 20000
set_option maxHeartbeats 4000000
namespace Go.Proofs.YtmibclbinebnjaaGreat
open Go Go.RowKit

/-- The numbers from i on, f of them, for which p holds. -/
def fltF (p : Nat → Bool) : Nat → Nat → List Int
  | 0, _ => []
  | f + 1, i => if p i then (i : Int) :: fltF p f (i + 1) else fltF p f (i + 1)

theorem fltF_len (p : Nat → Bool) : ∀ (f i : Nat), (fltF p f i).length ≤ f
  | 0, _ => by simp [fltF]
  | f + 1, i => by
    have := fltF_len p f (i + 1)
    unfold fltF
    split
    · simp; omega
    · omega

theorem fltF_step (p : Nat → Bool) (n i : Nat) (h : i < n) : fltF p (n - i) i = (if p i then [(i : Int)] else []) ++ fltF p (n - (i + 1)) (i + 1) := by
  rw [show n - i = (n - (i + 1)) + 1 by omega]
  conv => lhs; unfold fltF
  split <;> simp

def leafB (t : Tree) (n : Nat) : Bool := !t.before.any fun x => (n : Int) == x
noncomputable def leaves_ (t : Tree) : List Int := if treeValid t then fltF (leafB t) t.blocks.length 0 else []

end Go.Proofs.YtmibclbinebnjaaGreat

/- Contracts: the laws' marks of blocks and trees. -/
set_option linter.unusedSimpArgs false
set_option linter.unusedVariables false
set_option maxRecDepth 20000
set_option maxHeartbeats 4000000
namespace Go.Proofs.YtmibclbinebnjaaGreat
open Go Go.RowKit

theorem stepS_const {α : Type} (st : α → Nat) (c : Nat) (h : ∀ x, st x = c) : ∀ xs : List α, stepS st xs = c * xs.length
  | [] => by simp [stepS]
  | x :: r => by rw [stepS, stepS_const st c h r, h x, List.length_cons, Nat.mul_add, Nat.mul_one, Nat.add_comm]

theorem sz_of {α : Type} (e : α → List AV) (xs : List α) (n sz : Nat) (he : ∀ x, (e x).length = n) (h : ∀ r ∈ rows e xs, r.length = sz) : xs = [] ∨ sz = n := by
  cases xs with
  | nil => exact .inl rfl
  | cons x r => exact .inr ((h (e x) (by simp [rows])).symm.trans (he x))

def mkB (b : Block) (k : Int) : Block :=
  ⟨k, k + 1, k + 1 + 1, markS mkA stA b.list (k + 1 + 1 + 1), k + 1 + 1 + 1 + (stepS stA b.list : Int), k + 1 + 1 + 1 + (stepS stA b.list : Int) + 1⟩
def stB (b : Block) : Nat := 5 + stepS stA b.list

theorem c_laws_markBlockS (nn : Bool) (xs : List Block) (k : Int) (hx : xs.length < 2 ^ 62) (hk : 0 ≤ k ∧ k + stepS stB xs < 2 ^ 62) :
    FSpecM Tryz.prog 129 [.row 800 xs.length, .int .i64 k] [.osl nn 6 (rows encB1 xs)] (fun r ls' => r = .int .i64 (k + stepS stB xs) ∧ ls' = [.osl nn 6 (rows encB1 (markS mkB stB xs k))]) := by
  refine fspec_introM tab_ok Tryz.call129 Tryz.func129 rfl 55 Tryz.ntmps129 (of_decide_eq_true rfl) (of_decide_eq_true rfl) fun B => codeK_sound tab_ok _ _ _ ?_
  simp (config := { maxSteps := 4000000 }) only [go_sem, simprocAttr, ↓dnA, Tryz.f129, rows_length]
  refine semL_for tab_ok (fun i : Nat => ⟨55, [(0, .row 800 xs.length), (1, .int .i64 (k + (stepS stB (xs.take i) : Int))), (5, .int .i64 i)], [(800, .row true nn 6 (rows encB1 (midS mkB stB xs k i)))]⟩) (fun i => xs.length - i)
    (fun i => i ≤ xs.length) 0 [(800, 800)] (Weak.of (by rfl) ?_ ?_ (by rfl)) (by omega) ?_
  · simp (config := { maxSteps := 4000000 }) only [go_sem, simprocAttr, ↓dnA, Tryz.f129, midS_zero, frW, wk2, wk1, wkL, wkB, hpW, List.mem_cons, Prod.mk.injEq, exists_eq_left, exists_eq_right, exists_eq]
  · simp (config := { maxSteps := 4000000 }) only [go_sem, simprocAttr, ↓dnA, Tryz.f129, List.take_zero, stepS, Int.add_zero, nc0, frW, wk2, wk1, wkL, wkB, hpW, List.mem_cons, Prod.mk.injEq, exists_eq_left, exists_eq_right, exists_eq]
  · rintro i hi
    by_cases h : i < xs.length
    · have hb := stepS_lt stB xs i h
      have hm : i < (rows encB1 (midS mkB stB xs k i)).length := by rw [rows_length, midS_length _ _ _ _ _ hi]; exact h
      have hst : stB xs[i] = 5 + stepS stA xs[i].list := rfl
      have hl4 := stepS_const stA 4 (fun _ => rfl) xs[i].list
      have hK : k + (stepS stB (xs.take (i + 1)) : Int) = k + (stepS stB (xs.take i) : Int) + 1 + 1 + 1 + (stepS stA xs[i].list : Int) + 1 + 1 := by rw [stepS_take_succ _ _ _ h, hst]; omega
      have hs := midS_set encB1 mkB stB xs k i h
      unfold mkB at hs
      generalize hKe : k + (stepS stB (xs.take i) : Int) = K at *
      have hw1 : IntKind.i64.wrap (K + 1) = K + 1 := wrap_small _ (by omega) (by omega)
      have hw2 : IntKind.i64.wrap (K + 1 + 1) = K + 1 + 1 := wrap_small _ (by omega) (by omega)
      have hw3 : IntKind.i64.wrap (K + 1 + 1 + 1) = K + 1 + 1 + 1 := wrap_small _ (by omega) (by omega)
      have hw4 : IntKind.i64.wrap (K + 1 + 1 + 1 + (stepS stA xs[i].list : Int) + 1) = K + 1 + 1 + 1 + (stepS stA xs[i].list : Int) + 1 := wrap_small _ (by omega) (by omega)
      have hw5 : IntKind.i64.wrap (K + 1 + 1 + 1 + (stepS stA xs[i].list : Int) + 1 + 1) = K + 1 + 1 + 1 + (stepS stA xs[i].list : Int) + 1 + 1 := wrap_small _ (by omega) (by omega)
      simp (config := { maxSteps := 4000000 }) only [go_sem, simprocAttr, ↓dnA, Tryz.f129, rows_length, midS_length _ _ _ _ _ hi, List.length_set, nlt h, h, nn0, midS_get _ _ _ _ _ _ h, encB1, encBk, set_same _ _ _ hm, List.set_set, spliceL, hw1, hw2, hw3]
      intro sz2 hz2 hl2
      refine CallMTo.of (c_laws_markActionS false sz2 xs[i].list (K + 1 + 1 + 1) (sz_of encA xs[i].list 4 sz2 (fun _ => rfl) hl2) (by omega) (by omega)) ?_
      rintro r ls' ⟨rfl, rfl⟩ es2' he
      simp only [List.cons.injEq, AV.osl.injEq, and_true, true_and] at he
      subst he
      have hs' : (rows encB1 (midS mkB stB xs k i)).set i [.int .i64 K, .int .i64 (K + 1), .int .i64 (K + 1 + 1), .sl none (rows encA (markS mkA stA xs[i].list (K + 1 + 1 + 1))), .int .i64 (K + 1 + 1 + 1 + (stepS stA xs[i].list : Int)), .int .i64 (K + 1 + 1 + 1 + (stepS stA xs[i].list : Int) + 1)] = rows encB1 (midS mkB stB xs k (i + 1)) := hs
      simp (config := { maxSteps := 4000000 }) only [go_sem, simprocAttr, ↓dnA, Tryz.f129, rows_length, midS_length _ _ _ _ _ hi, List.length_set, nlt h, h, nn0, midS_get _ _ _ _ _ _ h, encB1, encBk, set_same _ _ _ hm, List.set_set, spliceL, hw4, hw5, wsucc h hx]
      refine ⟨i + 1, [(800, 800)], by omega, by dsimp only; omega, Weak.of (by rfl) ?_ ?_ (by rfl)⟩
      · simp (config := { maxSteps := 4000000 }) only [go_sem, simprocAttr, ↓dnA, Tryz.f129, frW, wk2, wk1, wkL, wkB, hpW, List.mem_cons, Prod.mk.injEq, exists_eq_left, exists_eq_right, exists_eq]
        exact hs'.symm
      · simp (config := { maxSteps := 4000000 }) only [go_sem, simprocAttr, ↓dnA, Tryz.f129, hK, wsucc h hx, frW, wk2, wk1, wkL, wkB, hpW, List.mem_cons, Prod.mk.injEq, exists_eq_left, exists_eq_right, exists_eq]
    · have hi' : i = xs.length := by omega
      subst hi'
      simp (config := { maxSteps := 4000000 }) only [go_sem, simprocAttr, ↓dnA, Tryz.f129, nlf h, rows_length, midS_len, List.take_length, markS_length]

theorem c_laws_heldBlockS (n1 : Option Bool) (xs : List Block) (k : Int) (hx : xs.length < 2 ^ 62) (hk : 0 ≤ k ∧ k + stepS stB xs < 2 ^ 62) :
    Det Tryz.prog 153 [.sl n1 (rows encB1 (markS mkB stB xs k)), .int .i64 k] (.int .i64 (k + stepS stB xs)) := by
  refine fspec_det tab_ok Tryz.call153 Tryz.func153 rfl 67 Tryz.ntmps153 (of_decide_eq_true rfl) fun B => codeK_sound tab_ok _ _ _ ?_
  simp (config := { maxSteps := 4000000 }) only [go_sem, simprocAttr, ↓dnA, Tryz.f153]
  refine semL_for tab_ok (fun i : Nat => ⟨67, [(0, .sl n1 (rows encB1 (markS mkB stB xs k))), (1, .int .i64 (k + (stepS stB (xs.take i) : Int))), (5, .int .i64 i)], []⟩) (fun i => xs.length - i)
    (fun i => i ≤ xs.length) 0 [] (Weak.of rfl trivial ?_ rfl) (by omega) ?_
  · simp (config := { maxSteps := 4000000 }) only [go_sem, simprocAttr, ↓dnA, Tryz.f153, List.take_zero, stepS, Int.add_zero, nc0, frW, wk2, wk1, wkL, wkB, hpW, List.mem_cons, Prod.mk.injEq, exists_eq_left, exists_eq_right, exists_eq]
  · rintro i hi
    by_cases h : i < xs.length
    · have hb := stepS_lt stB xs i h
      have hst : stB xs[i] = 5 + stepS stA xs[i].list := rfl
      have hl4 := stepS_const stA 4 (fun _ => rfl) xs[i].list
      have hK : k + (stepS stB (xs.take (i + 1)) : Int) = k + (stepS stB (xs.take i) : Int) + 1 + 1 + 1 + (stepS stA xs[i].list : Int) + 1 + 1 := by rw [stepS_take_succ _ _ _ h, hst]; omega
      have hg := markS_rget encB1 mkB stB xs i k h
      generalize hKe : k + (stepS stB (xs.take i) : Int) = K at *
      have hw1 : IntKind.i64.wrap (K + 1) = K + 1 := wrap_small _ (by omega) (by omega)
      have hw2 : IntKind.i64.wrap (K + 1 + 1) = K + 1 + 1 := wrap_small _ (by omega) (by omega)
      have hw3 : IntKind.i64.wrap (K + 1 + 1 + 1) = K + 1 + 1 + 1 := wrap_small _ (by omega) (by omega)
      have hw4 : IntKind.i64.wrap (K + 1 + 1 + 1 + (stepS stA xs[i].list : Int) + 1) = K + 1 + 1 + 1 + (stepS stA xs[i].list : Int) + 1 := wrap_small _ (by omega) (by omega)
      have hw5 : IntKind.i64.wrap (K + 1 + 1 + 1 + (stepS stA xs[i].list : Int) + 1 + 1) = K + 1 + 1 + 1 + (stepS stA xs[i].list : Int) + 1 + 1 := wrap_small _ (by omega) (by omega)
      have hd : decide (K + 1 + 1 + 1 + (stepS stA xs[i].list : Int) < 0) = false := by simp; omega
      simp (config := { maxSteps := 4000000 }) only [go_sem, simprocAttr, ↓dnA, Tryz.f153, rows_length, markS_length, nlt h, h, nn0, hg, encB1, encBk, mkB, hw1, hw2, hw3]
      refine CallTo.det (c_laws_heldActionS none xs[i].list (K + 1 + 1 + 1) (by omega) (by omega)) fun _ => ?_
      simp (config := { maxSteps := 4000000 }) only [go_sem, simprocAttr, ↓dnA, Tryz.f153, rows_length, markS_length, nlt h, h, nn0, hg, encB1, encBk, mkB, hw4, hw5, hd, wsucc h hx]
      refine ⟨i + 1, [], by omega, by dsimp only; omega, Weak.of rfl trivial ?_ rfl⟩
      simp (config := { maxSteps := 4000000 }) only [go_sem, simprocAttr, ↓dnA, Tryz.f153, hK, wsucc h hx, frW, wk2, wk1, wkL, wkB, hpW, List.mem_cons, Prod.mk.injEq, exists_eq_left, exists_eq_right, exists_eq]
    · have hi' : i = xs.length := by omega
      subst hi'
      simp (config := { maxSteps := 4000000 }) only [go_sem, simprocAttr, ↓dnA, Tryz.f153, nlf h, rows_length, List.take_length, markS_length]

def stT (t : Tree) : Nat := stepS stE t.base + stepS stB t.blocks + stepS stI t.before
def mkT (t : Tree) (k : Int) : Tree :=
  ⟨markS mkE stE t.base k, markS mkB stB t.blocks (k + (stepS stE t.base : Int)), markS mkI stI t.before (k + (stepS stE t.base : Int) + (stepS stB t.blocks : Int))⟩

theorem c_laws_markBlockTree (n1 n2 n3 : Bool) (t : Tree) (k : Int) (hx : TreeSz t) (hk : 0 ≤ k ∧ k + stT t < 2 ^ 62) :
    FSpecM Tryz.prog 52 [.agg [.row 800 t.base.length, .row 801 t.blocks.length, .row 802 t.before.length], .int .i64 k] [.osl n1 2 (rows encE t.base), .osl n2 6 (rows encB1 t.blocks), .osl n3 1 (rows encI t.before)]
      (fun r ls' => r = .int .i64 (k + stT t) ∧ ls' = [.osl n1 2 (rows encE (mkT t k).base), .osl n2 6 (rows encB1 (mkT t k).blocks), .osl n3 1 (rows encI (mkT t k).before)]) := by
  refine fspec_introM tab_ok Tryz.call52 Tryz.func52 rfl 18 Tryz.ntmps52 (of_decide_eq_true rfl) (of_decide_eq_true rfl) fun B => codeK_sound tab_ok _ _ _ ?_
  unfold stT at hk ⊢
  have he : k + ((stepS stE t.base + stepS stB t.blocks + stepS stI t.before : Nat) : Int) = k + (stepS stE t.base : Int) + (stepS stB t.blocks : Int) + (stepS stI t.before : Int) := by omega
  simp (config := { maxSteps := 4000000 }) only [go_sem, simprocAttr, ↓dnA, Tryz.f52, List.nodup_cons, rows_length]
  refine CallMTo.of (c_laws_markEntryS n1 2 t.base k (.inr rfl) hx.base ⟨hk.1, by omega⟩) ?_
  rintro r ls' ⟨rfl, rfl⟩
  simp (config := { maxSteps := 4000000 }) only [go_sem, simprocAttr, ↓dnA, Tryz.f52, List.nodup_cons, rows_length]
  refine CallMTo.of (c_laws_markBlockS n2 t.blocks _ hx.blocks ⟨by omega, by omega⟩) ?_
  rintro r ls' ⟨rfl, rfl⟩
  simp (config := { maxSteps := 4000000 }) only [go_sem, simprocAttr, ↓dnA, Tryz.f52, List.nodup_cons, rows_length]
  refine CallMTo.of (c_laws_markIntS n3 1 t.before _ (.inr rfl) hx.before ⟨by omega, by omega⟩) ?_
  rintro r ls' ⟨rfl, rfl⟩
  simp (config := { maxSteps := 4000000 }) only [go_sem, simprocAttr, ↓dnA, Tryz.f52, List.nodup_cons, rows_length, markS_length, mkT, he]

theorem c_laws_heldBlockTree (n1 n2 n3 : Option Bool) (t : Tree) (k : Int) (hx : TreeSz t) (hk : 0 ≤ k ∧ k + stT t < 2 ^ 62) :
    Det Tryz.prog 78 [.agg (encT n1 n2 n3 (mkT t k)), .int .i64 k] (.int .i64 (k + stT t)) := by
  refine fspec_det tab_ok Tryz.call78 Tryz.func78 rfl 24 Tryz.ntmps78 (of_decide_eq_true rfl) fun B => codeK_sound tab_ok _ _ _ ?_
  unfold stT at hk ⊢
  have he : k + ((stepS stE t.base + stepS stB t.blocks + stepS stI t.before : Nat) : Int) = k + (stepS stE t.base : Int) + (stepS stB t.blocks : Int) + (stepS stI t.before : Int) := by omega
  have d1 : decide (k + (stepS stE t.base : Int) < 0) = false := by simp; omega
  have d2 : decide (k + (stepS stE t.base : Int) + (stepS stB t.blocks : Int) < 0) = false := by simp; omega
  have d3 : decide (k + (stepS stE t.base : Int) + (stepS stB t.blocks : Int) + (stepS stI t.before : Int) < 0) = false := by simp; omega
  unfold encT mkT
  simp (config := { maxSteps := 4000000 }) only [go_sem, simprocAttr, ↓dnA, Tryz.f78, List.nodup_cons]
  refine CallTo.det (c_laws_heldEntryS n1 t.base k hx.base ⟨hk.1, by omega⟩) fun _ => ?_
  simp (config := { maxSteps := 4000000 }) only [go_sem, simprocAttr, ↓dnA, Tryz.f78, List.nodup_cons, d1]
  refine CallTo.det (c_laws_heldBlockS n2 t.blocks _ hx.blocks ⟨by omega, by omega⟩) fun _ => ?_
  simp (config := { maxSteps := 4000000 }) only [go_sem, simprocAttr, ↓dnA, Tryz.f78, List.nodup_cons, d1, d2]
  refine CallTo.det (c_laws_heldIntS n3 t.before _ hx.before ⟨by omega, by omega⟩) fun _ => ?_
  simp (config := { maxSteps := 4000000 }) only [go_sem, simprocAttr, ↓dnA, Tryz.f78, List.nodup_cons, d1, d2, d3, he]

end Go.Proofs.YtmibclbinebnjaaGreat

/- Contracts: FnExactLeavesOf. -/
set_option linter.unusedSimpArgs false
set_option linter.unusedVariables false
set_option maxRecDepth 20000
set_option maxHeartbeats 4000000
namespace Go.Proofs.YtmibclbinebnjaaGreat
open Go Go.RowKit

theorem stB_sum : ∀ bs : List Block, stepS stB bs = 5 * bs.length + 4 * lsum bs
  | [] => rfl
  | b :: r => by
    have h1 := stepS_const stA 4 (fun _ => rfl) b.list
    have h2 := stB_sum r
    unfold stepS lsum
    rw [h2, List.length_cons]
    show 5 + stepS stA b.list + _ = _
    rw [h1]; omega

/-- The marks of a tree of a law's size stay small. -/
theorem stT_small {t : Tree} (h : TreeS32 t) : stT t ≤ 5 * 1048576 := by
  have h0 := h.sum
  unfold tsz at h0
  unfold stT
  rw [stepS_const stE 2 (fun _ => rfl), stepS_const stI 1 (fun _ => rfl), stB_sum]
  omega

theorem intsEq (xs : List Int) : decide (xs = xs) = true := by simp

end Go.Proofs.YtmibclbinebnjaaGreat

/- Blocks that are certified, blocks that are committed: plain. -/
set_option linter.unusedSimpArgs false
set_option linter.unusedVariables false
set_option maxRecDepth 20000
set_option maxHeartbeats 4000000
namespace Go.Proofs.YtmibclbinebnjaaGreat
open Go Go.RowKit

def certStep (t : Tree) (l : List Bool) (c : Cert) : List Bool := if certBlock t c < 0 then l else l.set (certBlock t c).toNat true
/-- Which blocks certificates count for, besides those of a list. -/
def certF (t : Tree) (cs : List Cert) (l : List Bool) : List Bool := cs.foldl (certStep t) l
def certs0 (n : Nat) : List Bool := (List.replicate n false).set 0 true
def certL (t : Tree) (cs : List Cert) : List Bool := certF t cs (certs0 t.blocks.length)
open Classical in
noncomputable def certified (t : Tree) (cs : List Cert) : List Bool := if treeValid t = true ∧ cs.length ≤ 30 then certL t cs else []

theorem certBlock_cases (t : Tree) (c : Cert) : certBlock t c = -1 ∨ ∃ i : Nat, i < t.blocks.length ∧ certBlock t c = (i : Int) := by
  unfold certBlock
  split
  · rcases findB_cases t c.sum with ⟨hf, _⟩ | ⟨i, hi, hf, _⟩
    · rw [hf]; exact .inl rfl
    · rw [hf, if_neg (by omega)]
      split
      · exact .inr ⟨i, hi, rfl⟩
      · exact .inl rfl
  · exact .inl rfl

theorem certStep_len (t : Tree) (l : List Bool) (c : Cert) : (certStep t l c).length = l.length := by
  unfold certStep; split
  · rfl
  · simp
theorem certF_len (t : Tree) : ∀ (cs : List Cert) (l : List Bool), (certF t cs l).length = l.length
  | [], l => rfl
  | c :: cs, l => by
    show (certF t cs (certStep t l c)).length = _
    rw [certF_len t cs, certStep_len]
theorem certL_len (t : Tree) (cs : List Cert) : (certL t cs).length = t.blocks.length := by
  unfold certL; rw [certF_len]; simp [certs0]
theorem certF_drop (t : Tree) (cs : List Cert) (i : Nat) (h : i < cs.length) (l : List Bool) : certF t (cs.drop i) l = certF t (cs.drop (i + 1)) (certStep t l cs[i]) := by
  rw [drop_cons cs i h]; rfl

theorem boolRows_rep (n : Nat) (b : Bool) : boolRows (List.replicate n b) = List.replicate n [.bool b] := by
  simp [boolRows]

theorem view_bd {b : Block} (h : blockValid b = true) : 0 ≤ b.view ∧ b.view ≤ 1000 := by
  unfold blockValid at h
  simp only [Bool.and_eq_true] at h
  obtain ⟨⟨⟨⟨⟨_, _⟩, _⟩, _⟩, h5⟩, _⟩ := h
  exact inB_iff.1 h5
/-- The block d, with those before it, commits. -/
def threeB (t : Tree) (ce : List Bool) (b c d : Nat) : Bool :=
  ce.getD b false && (ce.getD c false && (ce.getD d false && (((t.blk b).view + 1 == (t.blk c).view) && ((t.blk c).view + 1 == (t.blk d).view))))
def headStep (t : Tree) (ce : List Bool) (l : List Bool) (d : Nat) : List Bool :=
  if t.bef d < 0 then l else if t.bef (t.bef d).toNat < 0 then l else
  if threeB t ce (t.bef (t.bef d).toNat).toNat (t.bef d).toNat d then l.set (t.bef (t.bef d).toNat).toNat true else l
/-- The blocks that are committed by the first d blocks. -/
def headsTo (t : Tree) (ce : List Bool) : Nat → List Bool
  | 0 => List.replicate t.blocks.length false
  | d + 1 => headStep t ce (headsTo t ce d) d
def headsB (t : Tree) (ce : List Bool) (i : Nat) : Bool := (headsTo t ce t.blocks.length).getD i false
/-- The numbers of the blocks that are committed at once. -/
def headsL (t : Tree) (ce : List Bool) : List Int := fltF (headsB t ce) t.blocks.length 0
noncomputable def commitHeads (t : Tree) (cs : List Cert) : List Int := if certified t cs = [] then [] else headsL t (certified t cs)

theorem headStep_len (t : Tree) (ce l : List Bool) (d : Nat) : (headStep t ce l d).length = l.length := by
  unfold headStep; split
  · rfl
  · split
    · rfl
    · split
      · simp
      · rfl
theorem headsTo_len (t : Tree) (ce : List Bool) : ∀ d, (headsTo t ce d).length = t.blocks.length
  | 0 => by simp [headsTo]
  | d + 1 => by unfold headsTo; rw [headStep_len, headsTo_len t ce d]

theorem fltF_bd (p : Nat → Bool) : ∀ (f i : Nat), ∀ x, x ∈ fltF p f i → (i : Int) ≤ x ∧ x < ((i + f : Nat) : Int)
  | 0, i, x, h => by simp [fltF] at h
  | f + 1, i, x, h => by
    unfold fltF at h
    split at h
    · rcases List.mem_cons.1 h with rfl | h
      · omega
      · have := fltF_bd p f (i + 1) x h; omega
    · have := fltF_bd p f (i + 1) x h; omega

theorem headsL_bd (t : Tree) (ce : List Bool) : ∀ x, x ∈ headsL t ce → 0 ≤ x ∧ x < t.blocks.length := fun x h => by
  have := fltF_bd _ _ _ x h; omega

/-- The first block of a valid tree has the least view. -/
theorem view0_lt {t : Tree} (ht : TreeOk t) : ∀ (m k : Nat), k < m → 0 < k → k < t.blocks.length → (t.blk 0).view < (t.blk k).view
  | 0, k, h, _, _ => by omega
  | m + 1, k, h, h0, hk => by
    have hl := ht.link k h0 hk
    have h1 := hl.lo
    have h2 := hl.hi
    have h3 := hl.view
    rcases Nat.eq_zero_or_pos (t.bef k).toNat with e | e
    · rw [e] at h3; exact h3
    · have := view0_lt ht m (t.bef k).toNat (by omega) e (by omega)
      omega

def bestF (t : Tree) : List Int → Int → Int
  | [], b => b
  | x :: r, b => bestF t r (if (t.blk x.toNat).view > (t.blk b.toNat).view then x else b)
noncomputable def committedTo (t : Tree) (cs : List Cert) : Int := if certified t cs = [] then -1 else bestF t (headsL t (certified t cs)) 0

theorem bestF_bd (t : Tree) (m : Nat) : ∀ (l : List Int) (b : Int), (∀ x, x ∈ l → 0 ≤ x ∧ x < (m : Int)) → 0 ≤ b ∧ b < (m : Int) → 0 ≤ bestF t l b ∧ bestF t l b < (m : Int)
  | [], b, _, hb => hb
  | x :: r, b, h, hb => bestF_bd t m r _ (fun y hy => h y (List.mem_cons_of_mem _ hy)) (by split; exact h x (List.mem_cons_self ..); exact hb)

noncomputable def agreeB (t : Tree) (a b : Int) : Bool := isBefore t a b || isBefore t b a
theorem agreeB_symm (t : Tree) (a b : Int) : agreeB t a b = agreeB t b a := Bool.or_comm _ _
/-- Of every two numbers of a list one is on the way to the other. -/
def AgreeAll (t : Tree) (l : List Int) : Prop := ∀ i j, j < i → i < l.length → agreeB t (l.getD i 0) (l.getD j 0) = true
open Classical in
noncomputable def agreeAllB (t : Tree) (l : List Int) : Bool := decide (AgreeAll t l)
theorem agreeAllB_yes {t : Tree} {l : List Int} (h : AgreeAll t l) : agreeAllB t l = true := by simp [agreeAllB, h]
theorem agreeAllB_no {t : Tree} {l : List Int} (h : ¬ AgreeAll t l) : agreeAllB t l = false := by simp [agreeAllB, h]
noncomputable def commitsAgree (t : Tree) (cs : List Cert) : Bool := if certified t cs = [] then false else agreeAllB t (headsL t (certified t cs))

theorem certified_ne {t : Tree} {cs : List Cert} (ht : treeValid t = true) (h : cs.length ≤ 30) : certified t cs = certL t cs ∧ certified t cs ≠ [] := by
  have e : certified t cs = certL t cs := by unfold certified; rw [if_pos ⟨ht, h⟩]
  refine ⟨e, fun h0 => ?_⟩
  have h1 := certL_len t cs
  rw [← e, h0] at h1
  have := (treeOk_of ht).len
  simp at h1; omega

end Go.Proofs.YtmibclbinebnjaaGreat

/- How much a tree is: plain. -/
set_option linter.unusedSimpArgs false
set_option linter.unusedVariables false
set_option maxRecDepth 20000
set_option maxHeartbeats 4000000
namespace Go.Proofs.YtmibclbinebnjaaGreat
open Go Go.RowKit

theorem stT_le (t : Tree) : stT t ≤ 5 * tsz t := by
  unfold stT tsz
  rw [stepS_const stE 2 (fun _ => rfl), stepS_const stI 1 (fun _ => rfl), stB_sum]
  omega
theorem tsz_sz {t : Tree} {m : Nat} (h : tsz t ≤ m) (hm : m < 2 ^ 62) : TreeSz t :=
  ⟨by unfold tsz at h; omega, by unfold tsz at h; omega, by unfold tsz at h; omega, fun b hb => by have := lsum_mem t.blocks b hb; unfold tsz at h; omega⟩
theorem lsum_snoc : ∀ (bs : List Block) (b : Block), lsum (bs ++ [b]) = lsum bs + b.list.length
  | [], b => by simp [lsum]
  | c :: r, b => by
    simp only [List.cons_append, lsum, lsum_snoc r b]
    omega

end Go.Proofs.YtmibclbinebnjaaGreat

/- Contracts: FnExactCertBlock. -/
set_option linter.unusedSimpArgs false
set_option linter.unusedVariables false
set_option maxRecDepth 20000
set_option maxHeartbeats 4000000
namespace Go.Proofs.YtmibclbinebnjaaGreat
open Go Go.RowKit

theorem c_laws_toCert (c : Cert) : Det Tryz.prog 116 [.agg (encC c)] (.agg (encC c)) := by
  refine fspec_det tab_ok Tryz.call116 Tryz.func116 rfl 14 Tryz.ntmps116 (of_decide_eq_true rfl) fun B => codeK_sound tab_ok _ _ _ ?_
  simp (config := { maxSteps := 4000000 }) only [go_sem, simprocAttr, ↓dnA, Tryz.f116, encC]

theorem c_impl_CertBlock (n1 n2 n3 : Option Bool) (t : Tree) (c : Cert) (hx : TreeSz t) : Det Tryz.prog 25 [.agg (encT n1 n2 n3 t), .agg (encC c)] (.int .i64 (if treeValid t then certBlock t c else -1)) := by
  refine fspec_det tab_ok Tryz.call25 Tryz.func25 rfl 11 Tryz.ntmps25 (of_decide_eq_true rfl) fun B => codeK_sound tab_ok _ _ _ ?_
  unfold encT
  simp (config := { maxSteps := 4000000 }) only [go_sem, simprocAttr, ↓dnA, Tryz.f25, encC]
  refine CallTo.det (c_impl_BlockTreeValid n1 n2 n3 t hx) fun _ => ?_
  cases h1 : treeValid t with
  | false => simp (config := { maxSteps := 4000000 }) only [go_sem, simprocAttr, ↓dnA, Tryz.f25, h1]
  | true =>
    simp (config := { maxSteps := 4000000 }) only [go_sem, simprocAttr, ↓dnA, Tryz.f25, h1]
    refine CallTo.det (c_impl_certBlock n1 n2 n3 t c hx) fun _ => ?_
    simp (config := { maxSteps := 4000000 }) only [go_sem, simprocAttr, ↓dnA, Tryz.f25, h1]

theorem c_spec_CertBlock (n1 n2 n3 : Option Bool) (t : Tree) (c : Cert) (hx : TreeSz t) : Det Tryz.prog 26 [.agg (encT n1 n2 n3 t), .agg (encC c)] (.int .i64 (if treeValid t then certBlock t c else -1)) := by
  refine fspec_det tab_ok Tryz.call26 Tryz.func26 rfl 32 Tryz.ntmps26 (of_decide_eq_true rfl) fun B => codeK_sound tab_ok _ _ _ ?_
  unfold certBlock encT
  simp (config := { maxSteps := 4000000 }) only [go_sem, simprocAttr, ↓dnA, Tryz.f26, encC]
  refine CallTo.det (c_spec_BlockTreeValid n1 n2 n3 t hx) fun _ => ?_
  cases h0 : treeValid t with
  | false => simp (config := { maxSteps := 4000000 }) only [go_sem, simprocAttr, ↓dnA, Tryz.f26, h0]
  | true =>
  simp (config := { maxSteps := 4000000 }) only [go_sem, simprocAttr, ↓dnA, Tryz.f26, h0]
  refine CallTo.det (c_spec_CertCounts c) fun _ => ?_
  cases h1 : certCounts c with
  | false => simp (config := { maxSteps := 4000000 }) only [go_sem, simprocAttr, ↓dnA, Tryz.f26, h0, h1]
  | true =>
    simp (config := { maxSteps := 4000000 }) only [go_sem, simprocAttr, ↓dnA, Tryz.f26, h0, h1]
    refine CallTo.det (c_spec_find n1 n2 n3 t c.sum hx) fun _ => ?_
    simp (config := { maxSteps := 4000000 }) only [go_sem, simprocAttr, ↓dnA, Tryz.f26, h0, h1]
    refine semL_draw tab_ok mixed_ rfl (ord := [(0, []), (1, []), (2, []), (3, []), (4, []), (5, []), (6, []), (7, []), (8, []), (9, []), (10, []), (11, []), (12, [])]) (by dsimp only; decide +kernel) ?_
    rcases findB_cases t c.sum with ⟨hf, _⟩ | ⟨i, hi, hf, _⟩
    · simp (config := { maxSteps := 4000000 }) only [go_sem, simprocAttr, ↓dnA, Tryz.f26, h0, h1, hf]
    · have hd : decide ((i : Int) < 0) = false := by simp
      have hn : ((i : Int) < 0) = False := by simp
      by_cases h2 : (t.blk i).view = c.view
      · have h2' : ((t.blk i).view != c.view) = false := by simp [h2]
        unfold Tree.blk at h2 h2'
        simp (config := { maxSteps := 4000000 }) only [go_sem, simprocAttr, ↓dnA, Tryz.f26, h0, h1, hf, hd, nn0, nlt hi, rows_length, rows_gd _ _ i hi, Tree.blk, encB1, encBk, hn, h2, h2']
      · have h2' : ((t.blk i).view != c.view) = true := by simp [h2]
        unfold Tree.blk at h2 h2'
        simp (config := { maxSteps := 4000000 }) only [go_sem, simprocAttr, ↓dnA, Tryz.f26, h0, h1, hf, hd, nn0, nlt hi, rows_length, rows_gd _ _ i hi, Tree.blk, encB1, encBk, hn, h2, h2']

end Go.Proofs.YtmibclbinebnjaaGreat

/- Contracts: worlds, and when they are valid. -/
set_option linter.unusedSimpArgs false
set_option linter.unusedVariables false
set_option maxRecDepth 20000
set_option maxHeartbeats 4000000
namespace Go.Proofs.YtmibclbinebnjaaGreat
open Go Go.RowKit

structure Wld where
  tree : Tree
  voters : List Voter
  votes : List Int
deriving DecidableEq, Inhabited

def encW (n1 n2 n3 n4 n5 : Option Bool) (w : Wld) : List AV :=
  [.sl n1 (rows encE w.tree.base), .sl n2 (rows encB1 w.tree.blocks), .sl n3 (rows encI w.tree.before), .sl n4 (rows encV w.voters), .sl n5 (rows encI w.votes)]
def encWO (w : Wld) : List AV :=
  [.osl true 2 (rows encE w.tree.base), .osl true 6 (rows encB1 w.tree.blocks), .osl true 1 (rows encI w.tree.before), .osl true 2 (rows encV w.voters), .osl true 1 (rows encI w.votes)]

structure WldSz (w : Wld) : Prop where
  tree : TreeSz w.tree
  voters : w.voters.length < 2 ^ 62
  votes : w.votes.length < 2 ^ 62

def voterOk (v : Voter) : Bool := voterValid v.last v.lock
noncomputable def worldValid (w : Wld) : Bool := ((((treeValid w.tree && decide (w.voters.length = 4)) && w.voters.all voterOk) && decide (w.votes.length = w.tree.blocks.length)) && w.votes.all fun n => inB n 0 15)

theorem c_impl_WorldValid1 (v : Voter) : Det Tryz.prog 93 [.agg (encV v)] (.bool (!voterOk v)) := by
  refine fspec_det tab_ok Tryz.call93 Tryz.func93 rfl 6 Tryz.ntmps93 (of_decide_eq_true rfl) fun B => codeK_sound tab_ok _ _ _ ?_
  simp (config := { maxSteps := 4000000 }) only [go_sem, simprocAttr, ↓dnA, Tryz.f93, encV]
  refine CallTo.det (c_impl_VoterValid _ _) fun _ => ?_
  simp (config := { maxSteps := 4000000 }) only [go_sem, simprocAttr, ↓dnA, Tryz.f93, encV, voterOk]

theorem c_impl_WorldValid2 (n : Int) : Det Tryz.prog 96 [.int .i64 n] (.bool (!inB n 0 15)) := by
  refine fspec_det tab_ok Tryz.call96 Tryz.func96 rfl 6 Tryz.ntmps96 (of_decide_eq_true rfl) fun B => codeK_sound tab_ok _ _ _ ?_
  simp (config := { maxSteps := 4000000 }) only [go_sem, simprocAttr, ↓dnA, Tryz.f96]
  refine CallTo.det (c_impl_isSigners _) fun _ => ?_
  simp (config := { maxSteps := 4000000 }) only [go_sem, simprocAttr, ↓dnA, Tryz.f96]

theorem c_slices_IndexFunc_Voter (n1 : Option Bool) (xs : List Voter) (k : FuncId) (p : Voter → Bool) (hx : xs.length < 2 ^ 62) (hm : mutB k = false) (hp : ∀ x, x ∈ xs → Det Tryz.prog k [.agg (encV x)] (.bool (p x))) :
    Det Tryz.prog 164 [.sl n1 (rows encV xs), .fn k []] (.int .i64 (idxF p xs 0)) := by
  simp only [mutB] at hm
  refine fspec_det tab_ok Tryz.call164 Tryz.func164 rfl 19 Tryz.ntmps164 (of_decide_eq_true rfl) fun B => codeK_sound tab_ok _ _ _ ?_
  simp (config := { maxSteps := 4000000 }) only [go_sem, simprocAttr, ↓dnA, Tryz.f164, rows_length, hm]
  refine semL_for tab_ok (fun i : Nat => ⟨19, [(0, .sl n1 (rows encV xs)), (1, .fn k []), (7, .int .i64 xs.length), (8, .int .i64 i)], []⟩) (fun i => xs.length - i)
    (fun i => i ≤ xs.length ∧ idxF p (xs.drop i) i = idxF p xs 0) 0 [] (Weak.of rfl trivial ?_ rfl) ⟨by omega, rfl⟩ ?_
  · simp (config := { maxSteps := 4000000 }) only [go_sem, simprocAttr, ↓dnA, Tryz.f164, frW, wk2, wk1, wkL, wkB, hpW, List.mem_cons, Prod.mk.injEq, exists_eq_left, exists_eq_right, exists_eq]
  · rintro i ⟨hi, hp'⟩
    by_cases h : i < xs.length
    · simp (config := { maxSteps := 4000000 }) only [go_sem, simprocAttr, ↓dnA, Tryz.f164, rows_length, rows_get _ _ _ h, encV, nlt h, nn0, hm]
      refine CallTo.det (hp _ (List.getElem_mem h)) fun _ => ?_
      rw [drop_cons xs i h] at hp'
      simp (config := { maxSteps := 4000000 }) only [go_sem, simprocAttr, ↓dnA, Tryz.f164, rows_length, rows_get _ _ _ h, encV, nlt h, hm]
      refine ⟨fun h => ?_, fun h' => ?_⟩
      · rw [← hp']; simp [idxF, h]
      · refine ⟨i + 1, [], ⟨by omega, ?_⟩, by dsimp only; omega, Weak.of rfl trivial ?_ rfl⟩
        · rw [← hp']; simp [idxF, h']
        · simp (config := { maxSteps := 4000000 }) only [go_sem, simprocAttr, ↓dnA, Tryz.f164, wsucc h hx, frW, wk2, wk1, wkL, wkB, hpW, List.mem_cons, Prod.mk.injEq, exists_eq_left, exists_eq_right, exists_eq]
    · have : i = xs.length := by omega
      subst this
      rw [List.drop_length] at hp'
      simp (config := { maxSteps := 4000000 }) only [go_sem, simprocAttr, ↓dnA, Tryz.f164, nlf h, hm]
      rw [← hp']
      rfl

theorem c_slices_ContainsFunc_Voter (n1 : Option Bool) (xs : List Voter) (k : FuncId) (p : Voter → Bool) (hx : xs.length < 2 ^ 62) (hm : mutB k = false) (hp : ∀ x, x ∈ xs → Det Tryz.prog k [.agg (encV x)] (.bool (p x))) :
    Det Tryz.prog 92 [.sl n1 (rows encV xs), .fn k []] (.bool (xs.any p)) := by
  refine fspec_det tab_ok Tryz.call92 Tryz.func92 rfl 9 Tryz.ntmps92 (of_decide_eq_true rfl) fun B => codeK_sound tab_ok _ _ _ ?_
  simp (config := { maxSteps := 4000000 }) only [go_sem, simprocAttr, ↓dnA, Tryz.f92]
  refine CallTo.det (c_slices_IndexFunc_Voter _ _ _ _ hx hm hp) fun _ => ?_
  simp (config := { maxSteps := 4000000 }) only [go_sem, simprocAttr, ↓dnA, Tryz.f92, idxF_any]


theorem eqN (a b : Nat) : (((a : Int)) == (b : Int)) = decide (a = b) := by
  rw [Bool.eq_iff_iff]; simp; omega

theorem eqN4 (a : Nat) : (((a : Int)) == 4) = decide (a = 4) := by
  rw [Bool.eq_iff_iff]; simp; omega

theorem c_impl_WorldValid (n1 n2 n3 n4 n5 : Option Bool) (w : Wld) (hx : WldSz w) : Det Tryz.prog 21 [.agg (encW n1 n2 n3 n4 n5 w)] (.bool (worldValid w)) := by
  refine fspec_det tab_ok Tryz.call21 Tryz.func21 rfl 34 Tryz.ntmps21 (of_decide_eq_true rfl) fun B => codeK_sound tab_ok _ _ _ ?_
  unfold worldValid
  have e1 : w.voters.any (fun v => !voterOk v) = !w.voters.all voterOk := any_not _ _
  have e2 : w.votes.any (fun n => !inB n 0 15) = !w.votes.all fun n => inB n 0 15 := any_not _ _
  simp (config := { maxSteps := 4000000 }) only [go_sem, simprocAttr, ↓dnA, Tryz.f21, encW]
  refine CallTo.det (c_impl_BlockTreeValid n1 n2 n3 w.tree hx.tree) fun _ => ?_
  cases h1 : treeValid w.tree with
  | false => simp (config := { maxSteps := 4000000 }) only [go_sem, simprocAttr, ↓dnA, Tryz.f21, h1]
  | true =>
    cases h2 : decide (w.voters.length = 4) with
    | false => simp (config := { maxSteps := 4000000 }) only [go_sem, simprocAttr, ↓dnA, Tryz.f21, h1, rows_length, eqN4, h2]
    | true =>
      simp (config := { maxSteps := 4000000 }) only [go_sem, simprocAttr, ↓dnA, Tryz.f21, h1, rows_length, eqN4, h2]
      refine CallTo.det (c_slices_ContainsFunc_Voter n4 w.voters _ _ hx.voters rfl fun v _ => c_impl_WorldValid1 v) fun _ => ?_
      cases h3 : w.voters.all voterOk with
      | false => simp (config := { maxSteps := 4000000 }) only [go_sem, simprocAttr, ↓dnA, Tryz.f21, h1, rows_length, eqN4, h2, e1, h3]
      | true =>
        cases h4 : decide (w.votes.length = w.tree.blocks.length) with
        | false => simp (config := { maxSteps := 4000000 }) only [go_sem, simprocAttr, ↓dnA, Tryz.f21, h1, rows_length, eqN4, h2, e1, h3, eqN, h4]
        | true =>
          simp (config := { maxSteps := 4000000 }) only [go_sem, simprocAttr, ↓dnA, Tryz.f21, h1, rows_length, eqN4, h2, e1, h3, eqN, h4]
          refine CallTo.det (c_slices_ContainsFunc_int n5 w.votes _ _ hx.votes rfl fun v _ => c_impl_WorldValid2 v) fun _ => ?_
          simp (config := { maxSteps := 4000000 }) only [go_sem, simprocAttr, ↓dnA, Tryz.f21, h1, rows_length, eqN4, h2, e1, h3, eqN, h4, e2, Bool.not_not]

theorem c_spec_WorldValid (n1 n2 n3 n4 n5 : Option Bool) (w : Wld) (hx : WldSz w) : Det Tryz.prog 22 [.agg (encW n1 n2 n3 n4 n5 w)] (.bool (worldValid w)) := by
  refine fspec_det tab_ok Tryz.call22 Tryz.func22 rfl 52 Tryz.ntmps22 (of_decide_eq_true rfl) fun B => codeK_sound tab_ok _ _ _ ?_
  have hf1 : w.voters.all voterOk = false → worldValid w = false := fun h => by unfold worldValid; rw [h]; simp
  have hf2 : w.votes.all (fun n => inB n 0 15) = false → worldValid w = false := fun h => by unfold worldValid; rw [h]; simp
  simp (config := { maxSteps := 4000000 }) only [go_sem, simprocAttr, ↓dnA, Tryz.f22, encW]
  refine semL_for tab_ok (fun i : Nat => ⟨52, [(1, .loc 1 0), (3, .int .i64 i)], [(1, .var (encW n1 n2 n3 n4 n5 w))]⟩) (fun i => w.voters.length - i)
    (fun i => i ≤ w.voters.length ∧ (w.voters.drop i).all voterOk = w.voters.all voterOk) 0 [(1, 1)] (Weak.of (by rfl) ?_ ?_ (by rfl)) ⟨by omega, rfl⟩ ?_
  · simp (config := { maxSteps := 4000000 }) only [go_sem, simprocAttr, ↓dnA, Tryz.f22, encW, frW, wk2, wk1, wkL, wkB, hpW, List.mem_cons, Prod.mk.injEq, exists_eq_left, exists_eq_right, exists_eq]
  · simp (config := { maxSteps := 4000000 }) only [go_sem, simprocAttr, ↓dnA, Tryz.f22, encW, frW, wk2, wk1, wkL, wkB, hpW, List.mem_cons, Prod.mk.injEq, exists_eq_left, exists_eq_right, exists_eq]
  rintro i ⟨hi, hp⟩
  by_cases h : i < w.voters.length
  · rw [drop_cons w.voters i h, List.all_cons] at hp
    simp (config := { maxSteps := 4000000 }) only [go_sem, simprocAttr, ↓dnA, Tryz.f22, encW, rows_length, rows_get _ _ _ h, encV, nlt h, nn0]
    refine CallTo.det (c_spec_VoterValid _ _) fun _ => ?_
    cases h1 : voterOk w.voters[i] with
    | false =>
      rw [h1, Bool.false_and] at hp
      have h1' : voterValid w.voters[i].last w.voters[i].lock = false := h1
      simp (config := { maxSteps := 4000000 }) only [go_sem, simprocAttr, ↓dnA, Tryz.f22, h1', hf1 hp.symm]
    | true =>
      rw [h1, Bool.true_and] at hp
      have h1' : voterValid w.voters[i].last w.voters[i].lock = true := h1
      simp (config := { maxSteps := 4000000 }) only [go_sem, simprocAttr, ↓dnA, Tryz.f22, h1']
      refine ⟨i + 1, [(1, 1)], ⟨by omega, hp⟩, by dsimp only; omega, Weak.of (by rfl) ?_ ?_ (by rfl)⟩
      · simp (config := { maxSteps := 4000000 }) only [go_sem, simprocAttr, ↓dnA, Tryz.f22, encW, frW, wk2, wk1, wkL, wkB, hpW, List.mem_cons, Prod.mk.injEq, exists_eq_left, exists_eq_right, exists_eq]
      · simp (config := { maxSteps := 4000000 }) only [go_sem, simprocAttr, ↓dnA, Tryz.f22, encW, wsucc h hx.voters, frW, wk2, wk1, wkL, wkB, hpW, List.mem_cons, Prod.mk.injEq, exists_eq_left, exists_eq_right, exists_eq]
  have hi' : i = w.voters.length := by omega
  subst hi'
  simp only [List.drop_length, List.all_nil] at hp
  simp (config := { maxSteps := 4000000 }) only [go_sem, simprocAttr, ↓dnA, Tryz.f22, encW, rows_length, nlf h]
  refine semL_for tab_ok (fun i : Nat => ⟨52, [(1, .loc 1 0), (4, .int .i64 i)], [(1, .var (encW n1 n2 n3 n4 n5 w))]⟩) (fun i => w.votes.length - i)
    (fun i => i ≤ w.votes.length ∧ (w.votes.drop i).all (fun n => inB n 0 15) = w.votes.all fun n => inB n 0 15) 0 [(1, 1)] (Weak.of (by rfl) ?_ ?_ (by rfl)) ⟨by omega, rfl⟩ ?_
  · simp (config := { maxSteps := 4000000 }) only [go_sem, simprocAttr, ↓dnA, Tryz.f22, encW, frW, wk2, wk1, wkL, wkB, hpW, List.mem_cons, Prod.mk.injEq, exists_eq_left, exists_eq_right, exists_eq]
  · simp (config := { maxSteps := 4000000 }) only [go_sem, simprocAttr, ↓dnA, Tryz.f22, encW, frW, wk2, wk1, wkL, wkB, hpW, List.mem_cons, Prod.mk.injEq, exists_eq_left, exists_eq_right, exists_eq]
  rintro i ⟨hi, hq⟩
  by_cases h : i < w.votes.length
  · rw [drop_cons w.votes i h, List.all_cons] at hq
    simp (config := { maxSteps := 4000000 }) only [go_sem, simprocAttr, ↓dnA, Tryz.f22, encW, rows_length, rows_get _ _ _ h, encI, nlt h, nn0]
    refine CallTo.det (c_l1In _ _ _) fun _ => ?_
    cases h1 : inB w.votes[i] 0 15 with
    | false =>
      rw [h1, Bool.false_and] at hq
      simp (config := { maxSteps := 4000000 }) only [go_sem, simprocAttr, ↓dnA, Tryz.f22, h1, hf2 hq.symm]
    | true =>
      rw [h1, Bool.true_and] at hq
      simp (config := { maxSteps := 4000000 }) only [go_sem, simprocAttr, ↓dnA, Tryz.f22, h1]
      refine ⟨i + 1, [(1, 1)], ⟨by omega, hq⟩, by dsimp only; omega, Weak.of (by rfl) ?_ ?_ (by rfl)⟩
      · simp (config := { maxSteps := 4000000 }) only [go_sem, simprocAttr, ↓dnA, Tryz.f22, encW, frW, wk2, wk1, wkL, wkB, hpW, List.mem_cons, Prod.mk.injEq, exists_eq_left, exists_eq_right, exists_eq]
      · simp (config := { maxSteps := 4000000 }) only [go_sem, simprocAttr, ↓dnA, Tryz.f22, encW, wsucc h hx.votes, frW, wk2, wk1, wkL, wkB, hpW, List.mem_cons, Prod.mk.injEq, exists_eq_left, exists_eq_right, exists_eq]
  have hi' : i = w.votes.length := by omega
  subst hi'
  simp only [List.drop_length, List.all_nil] at hq
  have hw : worldValid w = ((treeValid w.tree && decide (w.voters.length = 4)) && decide (w.votes.length = w.tree.blocks.length)) := by
    unfold worldValid; rw [← hp, ← hq]; simp
  rw [hw]
  simp (config := { maxSteps := 4000000 }) only [go_sem, simprocAttr, ↓dnA, Tryz.f22, encW, rows_length, nlf h]
  refine CallTo.det (c_spec_BlockTreeValid n1 n2 n3 w.tree hx.tree) fun _ => ?_
  cases h1 : treeValid w.tree with
  | false => simp (config := { maxSteps := 4000000 }) only [go_sem, simprocAttr, ↓dnA, Tryz.f22, encW, h1]
  | true =>
    cases h2 : decide (w.voters.length = 4) with
    | false => simp (config := { maxSteps := 4000000 }) only [go_sem, simprocAttr, ↓dnA, Tryz.f22, encW, h1, rows_length, eqN4, h2]
    | true => simp (config := { maxSteps := 4000000 }) only [go_sem, simprocAttr, ↓dnA, Tryz.f22, encW, h1, rows_length, eqN4, h2, eqN]

end Go.Proofs.YtmibclbinebnjaaGreat

/- Contracts: FnExactWorldValid. -/
set_option linter.unusedSimpArgs false
set_option linter.unusedVariables false
set_option maxRecDepth 20000
set_option maxHeartbeats 4000000
namespace Go.Proofs.YtmibclbinebnjaaGreat
open Go Go.RowKit

structure WldLen (w : Wld) : Prop where
  tree : TreeLen w.tree
  voters : w.voters.length ≤ 9223372036854775807
  votes : w.votes.length ≤ 9223372036854775807

/-- How much a world is. -/
def wsz (w : Wld) : Nat := tsz w.tree + w.voters.length + w.votes.length
structure WldS32 (w : Wld) : Prop where
  sum : wsz w ≤ 1048576
theorem WldS32.tree {w : Wld} (h : WldS32 w) : TreeS32 w.tree := ⟨by have := h.sum; unfold wsz at this; omega⟩
theorem WldS32.voters {w : Wld} (h : WldS32 w) : w.voters.length < 2 ^ 32 := by have := h.sum; unfold wsz at this; omega
theorem WldS32.votes {w : Wld} (h : WldS32 w) : w.votes.length < 2 ^ 32 := by have := h.sum; unfold wsz at this; omega

theorem WldS32.sz {w : Wld} (h : WldS32 w) : WldSz w := ⟨h.tree.sz, by have := h.voters; omega, by have := h.votes; omega⟩

theorem c_laws_szVoterS (n1 : Option Bool) (xs : List Voter) (left : Int) (hx : xs.length ≤ 9223372036854775807) (hl : 0 ≤ left ∧ left ≤ 1048576) : Det Tryz.prog 125 [.sl n1 (rows encV xs), .int .i64 left] (.int .i64 (szI left xs.length)) := by
  refine fspec_det tab_ok Tryz.call125 Tryz.func125 rfl 12 Tryz.ntmps125 (of_decide_eq_true rfl) fun B => codeK_sound tab_ok _ _ _ ?_
  have hw : IntKind.i64.wrap (left - (xs.length : Int)) = left - xs.length := wrap_small _ (by omega) (by omega)
  by_cases h : left - (xs.length : Int) < 0
  · simp (config := { maxSteps := 4000000 }) only [go_sem, simprocAttr, ↓dnA, Tryz.f125, rows_length, hw, decide_eq_true h, szI, h]
  · simp (config := { maxSteps := 4000000 }) only [go_sem, simprocAttr, ↓dnA, Tryz.f125, rows_length, hw, decide_eq_false h, szI, h]

theorem c_laws_szWorld (n1 n2 n3 n4 n5 : Option Bool) (w : Wld) (left : Int) (hx : WldLen w) (hl : 0 ≤ left ∧ left ≤ 1048576) :
    ∃ r : Int, Det Tryz.prog 45 [.agg (encW n1 n2 n3 n4 n5 w), .int .i64 left] (.int .i64 r) ∧ r ≤ 1048576 ∧ (0 ≤ r → WldS32 w) ∧ (0 ≤ r → r + (wsz w : Int) = left) := by
  obtain ⟨r, hr, hr1, _, hr2⟩ := c_laws_szBlockTree n1 n2 n3 w.tree left hx.tree hl
  by_cases g1 : r < 0
  · refine ⟨-1, ?_, by omega, by omega, by omega⟩
    refine fspec_det tab_ok Tryz.call45 Tryz.func45 rfl 24 Tryz.ntmps45 (of_decide_eq_true rfl) fun B => codeK_sound tab_ok _ _ _ ?_
    simp (config := { maxSteps := 4000000 }) only [go_sem, simprocAttr, ↓dnA, Tryz.f45, encW]
    refine CallTo.det hr fun _ => ?_
    simp (config := { maxSteps := 4000000 }) only [go_sem, simprocAttr, ↓dnA, Tryz.f45, encW, decide_eq_true g1]
  · have hb1 := szI_bd (n := w.voters.length) hr1
    by_cases g2 : szI r w.voters.length < 0
    · refine ⟨-1, ?_, by omega, by omega, by omega⟩
      refine fspec_det tab_ok Tryz.call45 Tryz.func45 rfl 24 Tryz.ntmps45 (of_decide_eq_true rfl) fun B => codeK_sound tab_ok _ _ _ ?_
      simp (config := { maxSteps := 4000000 }) only [go_sem, simprocAttr, ↓dnA, Tryz.f45, encW]
      refine CallTo.det hr fun _ => ?_
      simp (config := { maxSteps := 4000000 }) only [go_sem, simprocAttr, ↓dnA, Tryz.f45, encW, decide_eq_false g1]
      refine CallTo.det (c_laws_szVoterS _ _ r hx.voters ⟨by omega, hr1⟩) fun _ => ?_
      simp (config := { maxSteps := 4000000 }) only [go_sem, simprocAttr, ↓dnA, Tryz.f45, encW, decide_eq_true g2]
    · have hb2 := szI_bd (n := w.votes.length) hb1.1
      have hall : ∀ c : Bool, decide (szI (szI r w.voters.length) w.votes.length < 0) = c → Det Tryz.prog 45 [.agg (encW n1 n2 n3 n4 n5 w), .int .i64 left] (.int .i64 (if c then -1 else szI (szI r w.voters.length) w.votes.length)) := by
        intro c hc
        refine fspec_det tab_ok Tryz.call45 Tryz.func45 rfl 24 Tryz.ntmps45 (of_decide_eq_true rfl) fun B => codeK_sound tab_ok _ _ _ ?_
        simp (config := { maxSteps := 4000000 }) only [go_sem, simprocAttr, ↓dnA, Tryz.f45, encW]
        refine CallTo.det hr fun _ => ?_
        simp (config := { maxSteps := 4000000 }) only [go_sem, simprocAttr, ↓dnA, Tryz.f45, encW, decide_eq_false g1]
        refine CallTo.det (c_laws_szVoterS _ _ r hx.voters ⟨by omega, hr1⟩) fun _ => ?_
        simp (config := { maxSteps := 4000000 }) only [go_sem, simprocAttr, ↓dnA, Tryz.f45, encW, decide_eq_false g2]
        refine CallTo.det (c_laws_szIntS _ _ _ hx.votes ⟨by omega, hb1.1⟩) fun _ => ?_
        cases c with
        | false => simp (config := { maxSteps := 4000000 }) only [go_sem, simprocAttr, ↓dnA, Tryz.f45, encW, hc]
        | true => simp (config := { maxSteps := 4000000 }) only [go_sem, simprocAttr, ↓dnA, Tryz.f45, encW, hc]
      by_cases g3 : szI (szI r w.voters.length) w.votes.length < 0
      · exact ⟨-1, hall true (decide_eq_true g3), by omega, by omega, by omega⟩
      · have hsum : szI (szI r w.voters.length) w.votes.length + (wsz w : Int) = left := by
          have e0 := hr2 (by omega)
          have e1 := szI_eq (left := r) (n := w.voters.length) (by omega)
          have e2 := szI_eq (left := szI r w.voters.length) (n := w.votes.length) (by omega)
          unfold wsz; omega
        exact ⟨_, hall false (decide_eq_false g3), hb2.1, fun _ => ⟨by omega⟩, fun _ => hsum⟩

theorem c_laws_toVoterS (n1 : Option Bool) (xs : List Voter) (hx : xs.length < 2 ^ 32) :
    Det Tryz.prog 126 [.sl n1 (rows encV xs)] (.osl true 2 (rows encV xs)) := by
  refine fspec_det tab_ok Tryz.call126 Tryz.func126 rfl 23 Tryz.ntmps126 (of_decide_eq_true rfl) fun B => codeK_sound tab_ok _ _ _ ?_
  have hx62 : xs.length < 2 ^ 62 := by omega
  simp (config := { maxSteps := 4000000 }) only [go_sem, simprocAttr, ↓dnA, Tryz.f126, rows_length]
  repeat refine And.intro (by first | omega | (simp; done) | (simp; omega) | assumption) ?_
  refine semL_for tab_ok (fun i : Nat => ⟨23, [(0, .sl n1 (rows encV xs)), (3, .row 7 xs.length), (4, .int .i64 i)], [(7, .row true true 2 (rows encV (xs.take i ++ List.replicate (xs.length - i) (⟨0, 0⟩ : Voter))))]⟩) (fun i => xs.length - i)
    (fun i => i ≤ xs.length) 0 [(7, 7)] (Weak.of (by rfl) ?_ ?_ (by rfl)) (by omega) ?_
  · simp (config := { maxSteps := 4000000 }) only [go_sem, simprocAttr, ↓dnA, Tryz.f126, frW, wk2, wk1, wkL, wkB, hpW, List.mem_cons, Prod.mk.injEq, exists_eq_left, exists_eq_right, exists_eq]
    simp [rows, encV, encBk]
  · simp (config := { maxSteps := 4000000 }) only [go_sem, simprocAttr, ↓dnA, Tryz.f126, frW, wk2, wk1, wkL, wkB, hpW, List.mem_cons, Prod.mk.injEq, exists_eq_left, exists_eq_right, exists_eq]
  · rintro i hi
    by_cases h : i < xs.length
    · have hm : i < (xs.take i ++ List.replicate (xs.length - i) (⟨0, 0⟩ : Voter)).length := by simp; omega
      simp (config := { maxSteps := 4000000 }) only [go_sem, simprocAttr, ↓dnA, Tryz.f126, rows_length, rows_get _ _ _ h, encV, encBk, nlt h, nn0]
      refine CallTo.det (c_laws_toVoter xs[i].last xs[i].lock) fun _ => ?_
      simp (config := { maxSteps := 4000000 }) only [go_sem, simprocAttr, ↓dnA, Tryz.f126, rows_length, rows_get _ _ _ h, rows_get _ _ _ hm, hm, encV, encBk, encBkO, nlt h, nn0, wsucc h hx62]
      repeat refine And.intro (by first | omega | (simp; done) | (simp; omega) | assumption) ?_
      refine ⟨i + 1, [(7, 7)], by omega, by dsimp only; omega, Weak.of (by rfl) ?_ ?_ (by rfl)⟩
      · simp (config := { maxSteps := 4000000 }) only [go_sem, simprocAttr, ↓dnA, Tryz.f126, frW, wk2, wk1, wkL, wkB, hpW, List.mem_cons, Prod.mk.injEq, exists_eq_left, exists_eq_right, exists_eq]
        first
          | done
          | (refine (congrArg (rows encV) (fill_step xs (⟨0, 0⟩ : Voter) (⟨0, 0⟩ : Voter) i h)).symm.trans ?_; rw [← rows_set, getD_at _ _ _ h]; rfl)
      · simp (config := { maxSteps := 4000000 }) only [go_sem, simprocAttr, ↓dnA, Tryz.f126, wsucc h hx62, frW, wk2, wk1, wkL, wkB, hpW, List.mem_cons, Prod.mk.injEq, exists_eq_left, exists_eq_right, exists_eq]
    · have : i = xs.length := by omega
      subst this
      simp (config := { maxSteps := 4000000 }) only [go_sem, simprocAttr, ↓dnA, Tryz.f126, rows_length, nlf h]
      simp


theorem c_laws_toWorld (n1 n2 n3 n4 n5 : Option Bool) (w : Wld) (hx : WldS32 w) : Det Tryz.prog 46 [.agg (encW n1 n2 n3 n4 n5 w)] (.agg (encWO w)) := by
  refine fspec_det tab_ok Tryz.call46 Tryz.func46 rfl 17 Tryz.ntmps46 (of_decide_eq_true rfl) fun B => codeK_sound tab_ok _ _ _ ?_
  simp (config := { maxSteps := 4000000 }) only [go_sem, simprocAttr, ↓dnA, Tryz.f46, encW, encWO, encTO, rows_length, encW, encWO]
  refine CallTo.det (c_laws_toBlockTree n1 n2 n3 w.tree hx.tree) fun _ => ?_
  simp (config := { maxSteps := 4000000 }) only [go_sem, simprocAttr, ↓dnA, Tryz.f46, encW, encWO, encTO, rows_length, rows_length, encTO]
  refine CallTo.det (c_laws_toVoterS _ _ hx.voters) fun _ => ?_
  simp (config := { maxSteps := 4000000 }) only [go_sem, simprocAttr, ↓dnA, Tryz.f46, encW, encWO, encTO, rows_length, rows_length]
  refine CallTo.det (c_laws_toIntS _ _ hx.votes) fun _ => ?_
  simp (config := { maxSteps := 4000000 }) only [go_sem, simprocAttr, ↓dnA, Tryz.f46, encW, encWO, encTO, rows_length, rows_length]
  try simp

theorem c_laws_eqVoterS (n1 n2 : Option Bool) (xs ys : List Voter) (hx : xs.length < 2 ^ 62) (hy : ys.length < 2 ^ 62)  :
    Det Tryz.prog 127 [.sl n1 (rows encV xs), .sl n2 (rows encV ys)] (.bool (decide (xs = ys))) := by
  refine fspec_det tab_ok Tryz.call127 Tryz.func127 rfl 27 Tryz.ntmps127 (of_decide_eq_true rfl) fun B => codeK_sound tab_ok _ _ _ ?_
  by_cases hl : xs.length = ys.length
  · have hd : (((xs.length : Int) != (ys.length : Int))) = false := by simp [hl]
    simp (config := { maxSteps := 4000000 }) only [go_sem, simprocAttr, ↓dnA, Tryz.f127, rows_length, hd]
    refine semL_for tab_ok (fun i : Nat => ⟨27, [(0, .sl n1 (rows encV xs)), (1, .sl n2 (rows encV ys)), (5, .int .i64 i)], []⟩) (fun i => xs.length - i)
      (fun i => i ≤ xs.length ∧ decide (xs.drop i = ys.drop i) = decide (xs = ys)) 0 [] (Weak.of (by rfl) trivial ?_ (by rfl)) ⟨by omega, rfl⟩ ?_
    · simp (config := { maxSteps := 4000000 }) only [go_sem, simprocAttr, ↓dnA, Tryz.f127, rows_length, frW, wk2, wk1, wkL, wkB, hpW, List.mem_cons, Prod.mk.injEq, exists_eq_left, exists_eq_right, exists_eq]
    · rintro i ⟨hi, hp⟩
      by_cases h : i < xs.length
      · have h2 : i < ys.length := by omega
        rw [eq_drop xs ys i hl h] at hp
        simp (config := { maxSteps := 4000000 }) only [go_sem, simprocAttr, ↓dnA, Tryz.f127, rows_length, nlt h]
        refine semL_draw tab_ok mixed_ rfl (ord := [(0, []), (1, []), (2, []), (3, []), (4, []), (5, []), (6, []), (7, []), (8, []), (9, [])]) (by dsimp only; decide +kernel) ?_
        simp (config := { maxSteps := 4000000 }) only [go_sem, simprocAttr, ↓dnA, Tryz.f127, rows_length, rows_get _ _ _ h, rows_get _ _ _ h2, encV, encBk, nn0, nlt h, nlt h2]
        refine CallTo.det (c_laws_eqVoter xs[i] ys[i]) fun _ => ?_
        cases he : decide (xs[i] = ys[i]) with
        | false =>
          have he' : decide (xs[i] = ys[i]) = false := he
          rw [he', Bool.false_and] at hp
          simp (config := { maxSteps := 4000000 }) only [go_sem, simprocAttr, ↓dnA, Tryz.f127, rows_length, rows_get _ _ _ h, rows_get _ _ _ h2, encV, encBk, nn0, nlt h, nlt h2, he, ← hp]
        | true =>
          have he' : decide (xs[i] = ys[i]) = true := he
          rw [he', Bool.true_and] at hp
          simp (config := { maxSteps := 4000000 }) only [go_sem, simprocAttr, ↓dnA, Tryz.f127, rows_length, rows_get _ _ _ h, rows_get _ _ _ h2, encV, encBk, nn0, nlt h, nlt h2, he]
          refine ⟨i + 1, [], ⟨by omega, hp⟩, by dsimp only; omega, Weak.of (by rfl) trivial ?_ (by rfl)⟩
          simp (config := { maxSteps := 4000000 }) only [go_sem, simprocAttr, ↓dnA, Tryz.f127, wsucc h hx, frW, wk2, wk1, wkL, wkB, hpW, List.mem_cons, Prod.mk.injEq, exists_eq_left, exists_eq_right, exists_eq]
      · have : i = xs.length := by omega
        subst this
        rw [List.drop_length, List.drop_of_length_le (by omega)] at hp
        simp (config := { maxSteps := 4000000 }) only [go_sem, simprocAttr, ↓dnA, Tryz.f127, rows_length, nlf h, ← hp]
  · have hd : (((xs.length : Int) != (ys.length : Int))) = true := by simp; omega
    have hne : xs ≠ ys := fun e => hl (by rw [e])
    simp (config := { maxSteps := 4000000 }) only [go_sem, simprocAttr, ↓dnA, Tryz.f127, rows_length, hd, decide_eq_false hne]


theorem c_laws_eqWorld (n1 n2 n3 n4 n5 m1 m2 m3 m4 m5 : Option Bool) (t u : Wld) (hx : WldSz t) (hy : WldSz u) : Det Tryz.prog 47 [.agg (encW n1 n2 n3 n4 n5 t), .agg (encW m1 m2 m3 m4 m5 u)] (.bool (decide (t = u))) := by
  refine fspec_det tab_ok Tryz.call47 Tryz.func47 rfl 23 Tryz.ntmps47 (of_decide_eq_true rfl) fun B => codeK_sound tab_ok _ _ _ ?_
  have he : decide (t = u) = (decide (t.tree = u.tree) && (decide (t.voters = u.voters) && decide (t.votes = u.votes))) := by
    obtain ⟨a, b, c⟩ := t
    obtain ⟨d, e, f⟩ := u
    rw [Bool.eq_iff_iff]
    simp only [Bool.and_eq_true, decide_eq_true_eq, Wld.mk.injEq]
  rw [he]
  simp (config := { maxSteps := 4000000 }) only [go_sem, simprocAttr, ↓dnA, Tryz.f47, encW]
  refine CallTo.det (c_laws_eqBlockTree _ _ _ _ _ _ t.tree u.tree hx.tree hy.tree) fun _ => ?_
  cases h1 : decide (t.tree = u.tree) with
  | false => simp (config := { maxSteps := 4000000 }) only [go_sem, simprocAttr, ↓dnA, Tryz.f47, encW, h1]
  | true =>
    simp (config := { maxSteps := 4000000 }) only [go_sem, simprocAttr, ↓dnA, Tryz.f47, encW, h1]
    refine CallTo.det (c_laws_eqVoterS _ _ _ _ hx.voters hy.voters) fun _ => ?_
    cases h2 : decide (t.voters = u.voters) with
    | false => simp (config := { maxSteps := 4000000 }) only [go_sem, simprocAttr, ↓dnA, Tryz.f47, encW, h1, h2]
    | true =>
      simp (config := { maxSteps := 4000000 }) only [go_sem, simprocAttr, ↓dnA, Tryz.f47, encW, h1, h2]
      refine CallTo.det (c_laws_eqIntS _ _ _ _ hx.votes hy.votes) fun _ => ?_
      cases h3 : decide (t.votes = u.votes) with
      | false => simp (config := { maxSteps := 4000000 }) only [go_sem, simprocAttr, ↓dnA, Tryz.f47, encW, h1, h2, h3]
      | true => simp (config := { maxSteps := 4000000 }) only [go_sem, simprocAttr, ↓dnA, Tryz.f47, encW, h1, h2, h3]

end Go.Proofs.YtmibclbinebnjaaGreat

/- Contracts: copies, sizes, tests and marks of certificates, bools, worlds. -/
set_option linter.unusedSimpArgs false
set_option linter.unusedVariables false
set_option maxRecDepth 20000
set_option maxHeartbeats 4000000
namespace Go.Proofs.YtmibclbinebnjaaGreat
open Go Go.RowKit

theorem c_laws_toCertS (n1 : Option Bool) (xs : List Cert) (hx : xs.length < 2 ^ 32) :
    Det Tryz.prog 36 [.sl n1 (rows encC xs)] (.osl true 3 (rows encC xs)) := by
  refine fspec_det tab_ok Tryz.call36 Tryz.func36 rfl 23 Tryz.ntmps36 (of_decide_eq_true rfl) fun B => codeK_sound tab_ok _ _ _ ?_
  have hx62 : xs.length < 2 ^ 62 := by omega
  simp (config := { maxSteps := 4000000 }) only [go_sem, simprocAttr, ↓dnA, Tryz.f36, rows_length]
  repeat refine And.intro (by first | omega | (simp; done) | (simp; omega) | assumption) ?_
  refine semL_for tab_ok (fun i : Nat => ⟨23, [(0, .sl n1 (rows encC xs)), (3, .row 7 xs.length), (4, .int .i64 i)], [(7, .row true true 3 (rows encC (xs.take i ++ List.replicate (xs.length - i) (⟨0, 0, 0⟩ : Cert))))]⟩) (fun i => xs.length - i)
    (fun i => i ≤ xs.length) 0 [(7, 7)] (Weak.of (by rfl) ?_ ?_ (by rfl)) (by omega) ?_
  · simp (config := { maxSteps := 4000000 }) only [go_sem, simprocAttr, ↓dnA, Tryz.f36, frW, wk2, wk1, wkL, wkB, hpW, List.mem_cons, Prod.mk.injEq, exists_eq_left, exists_eq_right, exists_eq]
    simp [rows, encC, encBk]
  · simp (config := { maxSteps := 4000000 }) only [go_sem, simprocAttr, ↓dnA, Tryz.f36, frW, wk2, wk1, wkL, wkB, hpW, List.mem_cons, Prod.mk.injEq, exists_eq_left, exists_eq_right, exists_eq]
  · rintro i hi
    by_cases h : i < xs.length
    · have hm : i < (xs.take i ++ List.replicate (xs.length - i) (⟨0, 0, 0⟩ : Cert)).length := by simp; omega
      simp (config := { maxSteps := 4000000 }) only [go_sem, simprocAttr, ↓dnA, Tryz.f36, rows_length, rows_get _ _ _ h, encC, encBk, nlt h, nn0]
      refine CallTo.det (c_laws_toCert xs[i]) fun _ => ?_
      simp (config := { maxSteps := 4000000 }) only [go_sem, simprocAttr, ↓dnA, Tryz.f36, rows_length, rows_get _ _ _ h, rows_get _ _ _ hm, hm, encC, encBk, encBkO, nlt h, nn0, wsucc h hx62]
      repeat refine And.intro (by first | omega | (simp; done) | (simp; omega) | assumption) ?_
      refine ⟨i + 1, [(7, 7)], by omega, by dsimp only; omega, Weak.of (by rfl) ?_ ?_ (by rfl)⟩
      · simp (config := { maxSteps := 4000000 }) only [go_sem, simprocAttr, ↓dnA, Tryz.f36, frW, wk2, wk1, wkL, wkB, hpW, List.mem_cons, Prod.mk.injEq, exists_eq_left, exists_eq_right, exists_eq]
        first
          | done
          | (refine (congrArg (rows encC) (fill_step xs (⟨0, 0, 0⟩ : Cert) (⟨0, 0, 0⟩ : Cert) i h)).symm.trans ?_; rw [← rows_set, getD_at _ _ _ h]; rfl)
      · simp (config := { maxSteps := 4000000 }) only [go_sem, simprocAttr, ↓dnA, Tryz.f36, wsucc h hx62, frW, wk2, wk1, wkL, wkB, hpW, List.mem_cons, Prod.mk.injEq, exists_eq_left, exists_eq_right, exists_eq]
    · have : i = xs.length := by omega
      subst this
      simp (config := { maxSteps := 4000000 }) only [go_sem, simprocAttr, ↓dnA, Tryz.f36, rows_length, nlf h]
      simp


theorem certB (a b : Cert) : ((a.sum == b.sum) && ((a.view == b.view) && (a.signers == b.signers))) = decide (a = b) := by
  obtain ⟨a1, a2, a3⟩ := a
  obtain ⟨b1, b2, b3⟩ := b
  rw [Bool.eq_iff_iff]
  simp only [Bool.and_eq_true, beq_iff_eq, decide_eq_true_eq, Cert.mk.injEq]

theorem c_laws_eqCert (a b : Cert) : Det Tryz.prog 119 [.agg (encC a), .agg (encC b)] (.bool (decide (a = b))) := by
  refine fspec_det tab_ok Tryz.call119 Tryz.func119 rfl 20 Tryz.ntmps119 (of_decide_eq_true rfl) fun B => codeK_sound tab_ok _ _ _ ?_
  unfold encC
  rw [← certB]
  cases h1 : (a.sum == b.sum) with
  | false => simp (config := { maxSteps := 4000000 }) only [go_sem, simprocAttr, ↓dnA, Tryz.f119, bne, h1]
  | true =>
    cases h2 : (a.view == b.view) with
    | false => simp (config := { maxSteps := 4000000 }) only [go_sem, simprocAttr, ↓dnA, Tryz.f119, bne, h1, h2]
    | true =>
      cases h3 : (a.signers == b.signers) with
      | false => simp (config := { maxSteps := 4000000 }) only [go_sem, simprocAttr, ↓dnA, Tryz.f119, bne, h1, h2, h3]
      | true => simp (config := { maxSteps := 4000000 }) only [go_sem, simprocAttr, ↓dnA, Tryz.f119, bne, h1, h2, h3]

theorem c_laws_eqCertS (n1 n2 : Option Bool) (xs ys : List Cert) (hx : xs.length < 2 ^ 62) (hy : ys.length < 2 ^ 62)  :
    Det Tryz.prog 39 [.sl n1 (rows encC xs), .sl n2 (rows encC ys)] (.bool (decide (xs = ys))) := by
  refine fspec_det tab_ok Tryz.call39 Tryz.func39 rfl 27 Tryz.ntmps39 (of_decide_eq_true rfl) fun B => codeK_sound tab_ok _ _ _ ?_
  by_cases hl : xs.length = ys.length
  · have hd : (((xs.length : Int) != (ys.length : Int))) = false := by simp [hl]
    simp (config := { maxSteps := 4000000 }) only [go_sem, simprocAttr, ↓dnA, Tryz.f39, rows_length, hd]
    refine semL_for tab_ok (fun i : Nat => ⟨27, [(0, .sl n1 (rows encC xs)), (1, .sl n2 (rows encC ys)), (5, .int .i64 i)], []⟩) (fun i => xs.length - i)
      (fun i => i ≤ xs.length ∧ decide (xs.drop i = ys.drop i) = decide (xs = ys)) 0 [] (Weak.of (by rfl) trivial ?_ (by rfl)) ⟨by omega, rfl⟩ ?_
    · simp (config := { maxSteps := 4000000 }) only [go_sem, simprocAttr, ↓dnA, Tryz.f39, rows_length, frW, wk2, wk1, wkL, wkB, hpW, List.mem_cons, Prod.mk.injEq, exists_eq_left, exists_eq_right, exists_eq]
    · rintro i ⟨hi, hp⟩
      by_cases h : i < xs.length
      · have h2 : i < ys.length := by omega
        rw [eq_drop xs ys i hl h] at hp
        simp (config := { maxSteps := 4000000 }) only [go_sem, simprocAttr, ↓dnA, Tryz.f39, rows_length, nlt h]
        refine semL_draw tab_ok mixed_ rfl (ord := [(0, []), (1, []), (2, []), (3, []), (4, []), (5, []), (6, []), (7, []), (8, []), (9, [])]) (by dsimp only; decide +kernel) ?_
        simp (config := { maxSteps := 4000000 }) only [go_sem, simprocAttr, ↓dnA, Tryz.f39, rows_length, rows_get _ _ _ h, rows_get _ _ _ h2, encC, encBk, nn0, nlt h, nlt h2]
        refine CallTo.det (c_laws_eqCert xs[i] ys[i]) fun _ => ?_
        cases he : decide (xs[i] = ys[i]) with
        | false =>
          have he' : decide (xs[i] = ys[i]) = false := he
          rw [he', Bool.false_and] at hp
          simp (config := { maxSteps := 4000000 }) only [go_sem, simprocAttr, ↓dnA, Tryz.f39, rows_length, rows_get _ _ _ h, rows_get _ _ _ h2, encC, encBk, nn0, nlt h, nlt h2, he, ← hp]
        | true =>
          have he' : decide (xs[i] = ys[i]) = true := he
          rw [he', Bool.true_and] at hp
          simp (config := { maxSteps := 4000000 }) only [go_sem, simprocAttr, ↓dnA, Tryz.f39, rows_length, rows_get _ _ _ h, rows_get _ _ _ h2, encC, encBk, nn0, nlt h, nlt h2, he]
          refine ⟨i + 1, [], ⟨by omega, hp⟩, by dsimp only; omega, Weak.of (by rfl) trivial ?_ (by rfl)⟩
          simp (config := { maxSteps := 4000000 }) only [go_sem, simprocAttr, ↓dnA, Tryz.f39, wsucc h hx, frW, wk2, wk1, wkL, wkB, hpW, List.mem_cons, Prod.mk.injEq, exists_eq_left, exists_eq_right, exists_eq]
      · have : i = xs.length := by omega
        subst this
        rw [List.drop_length, List.drop_of_length_le (by omega)] at hp
        simp (config := { maxSteps := 4000000 }) only [go_sem, simprocAttr, ↓dnA, Tryz.f39, rows_length, nlf h, ← hp]
  · have hd : (((xs.length : Int) != (ys.length : Int))) = true := by simp; omega
    have hne : xs ≠ ys := fun e => hl (by rw [e])
    simp (config := { maxSteps := 4000000 }) only [go_sem, simprocAttr, ↓dnA, Tryz.f39, rows_length, hd, decide_eq_false hne]


theorem c_laws_szCertS (n1 : Option Bool) (xs : List Cert) (left : Int) (hx : xs.length ≤ 9223372036854775807) (hl : 0 ≤ left ∧ left ≤ 1048576) : Det Tryz.prog 33 [.sl n1 (rows encC xs), .int .i64 left] (.int .i64 (szI left xs.length)) := by
  refine fspec_det tab_ok Tryz.call33 Tryz.func33 rfl 12 Tryz.ntmps33 (of_decide_eq_true rfl) fun B => codeK_sound tab_ok _ _ _ ?_
  have hw : IntKind.i64.wrap (left - (xs.length : Int)) = left - xs.length := wrap_small _ (by omega) (by omega)
  by_cases h : left - (xs.length : Int) < 0
  · simp (config := { maxSteps := 4000000 }) only [go_sem, simprocAttr, ↓dnA, Tryz.f33, rows_length, hw, decide_eq_true h, szI, h]
  · simp (config := { maxSteps := 4000000 }) only [go_sem, simprocAttr, ↓dnA, Tryz.f33, rows_length, hw, decide_eq_false h, szI, h]

def mkC (_ : Cert) (k : Int) : Cert := ⟨k, k + 1, k + 1 + 1⟩
def stC (_ : Cert) : Nat := 3
def mkV (_ : Voter) (k : Int) : Voter := ⟨k, k + 1⟩
def stV (_ : Voter) : Nat := 2

theorem c_laws_markCertS (nn : Bool) (sz : Nat) (xs : List Cert) (k : Int) (hs : xs = [] ∨ sz = 3) (hx : xs.length < 2 ^ 62) (hk : 0 ≤ k ∧ k + stepS stC xs < 2 ^ 62) :
    FSpecM Tryz.prog 49 [.row 800 xs.length, .int .i64 k] [.osl nn sz (rows encC xs)] (fun r ls' => r = .int .i64 (k + stepS stC xs) ∧ ls' = [.osl nn sz (rows encC (markS mkC stC xs k))]) := by
  refine fspec_introM tab_ok Tryz.call49 Tryz.func49 rfl 34 Tryz.ntmps49 (of_decide_eq_true rfl) (of_decide_eq_true rfl) fun B => codeK_sound tab_ok _ _ _ ?_
  rcases hs with rfl | rfl
  · simp (config := { maxSteps := 4000000 }) only [go_sem, simprocAttr, ↓dnA, Tryz.f49]
    refine semL_for tab_ok (fun i : Nat => ⟨34, [(0, .row 800 0), (1, .int .i64 k), (5, .int .i64 0)], [(800, .row true nn sz (rows encC ([] : List Cert)))]⟩) (fun i => i) (fun _ => True) 0 [(800, 800)] (Weak.of (by rfl) ?_ ?_ (by rfl)) trivial ?_
    · simp (config := { maxSteps := 4000000 }) only [go_sem, simprocAttr, ↓dnA, Tryz.f49, frW, wk2, wk1, wkL, wkB, hpW, List.mem_cons, Prod.mk.injEq, exists_eq_left, exists_eq_right, exists_eq]
    · simp (config := { maxSteps := 4000000 }) only [go_sem, simprocAttr, ↓dnA, Tryz.f49, List.length_nil, nc0, frW, wk2, wk1, wkL, wkB, hpW, List.mem_cons, Prod.mk.injEq, exists_eq_left, exists_eq_right, exists_eq]
    · rintro i -
      simp (config := { maxSteps := 4000000 }) only [go_sem, simprocAttr, ↓dnA, Tryz.f49, List.length_nil, nc0, rows_length]
      simp [stepS, markS, rows]
  · simp (config := { maxSteps := 4000000 }) only [go_sem, simprocAttr, ↓dnA, Tryz.f49, rows_length]
    refine semL_for tab_ok (fun i : Nat => ⟨34, [(0, .row 800 xs.length), (1, .int .i64 (k + (stepS stC (xs.take i) : Int))), (5, .int .i64 i)], [(800, .row true nn 3 (rows encC (midS mkC stC xs k i)))]⟩) (fun i => xs.length - i)
      (fun i => i ≤ xs.length) 0 [(800, 800)] (Weak.of (by rfl) ?_ ?_ (by rfl)) (by omega) ?_
    · simp (config := { maxSteps := 4000000 }) only [go_sem, simprocAttr, ↓dnA, Tryz.f49, midS_zero, frW, wk2, wk1, wkL, wkB, hpW, List.mem_cons, Prod.mk.injEq, exists_eq_left, exists_eq_right, exists_eq]
    · simp (config := { maxSteps := 4000000 }) only [go_sem, simprocAttr, ↓dnA, Tryz.f49, List.take_zero, stepS, Int.add_zero, nc0, frW, wk2, wk1, wkL, wkB, hpW, List.mem_cons, Prod.mk.injEq, exists_eq_left, exists_eq_right, exists_eq]
    · rintro i hi
      by_cases h : i < xs.length
      · have hb := stepS_lt stC xs i h
        have hm : i < (rows encC (midS mkC stC xs k i)).length := by rw [rows_length, midS_length _ _ _ _ _ hi]; exact h
        have hst : stC xs[i] = 3 := rfl
        have hw1 : IntKind.i64.wrap ((k + (stepS stC (xs.take i) : Int)) + 1) = (k + (stepS stC (xs.take i) : Int)) + 1 := wrap_small _ (by omega) (by omega)
        have hw2 : IntKind.i64.wrap ((k + (stepS stC (xs.take i) : Int)) + 1 + 1) = (k + (stepS stC (xs.take i) : Int)) + 1 + 1 := wrap_small _ (by omega) (by omega)
        have hw3 : IntKind.i64.wrap ((k + (stepS stC (xs.take i) : Int)) + 1 + 1 + 1) = (k + (stepS stC (xs.take i) : Int)) + 1 + 1 + 1 := wrap_small _ (by omega) (by omega)
        have hK : k + (stepS stC (xs.take (i + 1)) : Int) = (k + (stepS stC (xs.take i) : Int)) + 1 + 1 + 1 := by rw [stepS_take_succ _ _ _ h, hst]; omega
        simp (config := { maxSteps := 4000000 }) only [go_sem, simprocAttr, ↓dnA, Tryz.f49, rows_length, midS_length _ _ _ _ _ hi, List.length_set, nlt h, h, nn0, midS_get _ _ _ _ _ _ h, encC, set_same _ _ _ hm, List.set_set, spliceL, hw1, hw2, hw3, wsucc h hx]
        refine ⟨i + 1, [(800, 800)], by omega, by dsimp only; omega, Weak.of (by rfl) ?_ ?_ (by rfl)⟩
        · simp (config := { maxSteps := 4000000 }) only [go_sem, simprocAttr, ↓dnA, Tryz.f49, frW, wk2, wk1, wkL, wkB, hpW, List.mem_cons, Prod.mk.injEq, exists_eq_left, exists_eq_right, exists_eq]
          exact (midS_set encC mkC stC xs k i h).symm
        · simp (config := { maxSteps := 4000000 }) only [go_sem, simprocAttr, ↓dnA, Tryz.f49, hK, wsucc h hx, frW, wk2, wk1, wkL, wkB, hpW, List.mem_cons, Prod.mk.injEq, exists_eq_left, exists_eq_right, exists_eq]
      · have hi' : i = xs.length := by omega
        subst hi'
        simp (config := { maxSteps := 4000000 }) only [go_sem, simprocAttr, ↓dnA, Tryz.f49, nlf h, rows_length, midS_len, List.take_length, markS_length]

theorem c_laws_heldCertS (n1 : Option Bool) (xs : List Cert) (k : Int) (hx : xs.length < 2 ^ 62) (hk : 0 ≤ k ∧ k + stepS stC xs < 2 ^ 62) :
    Det Tryz.prog 50 [.sl n1 (rows encC (markS mkC stC xs k)), .int .i64 k] (.int .i64 (k + stepS stC xs)) := by
  refine fspec_det tab_ok Tryz.call50 Tryz.func50 rfl 40 Tryz.ntmps50 (of_decide_eq_true rfl) fun B => codeK_sound tab_ok _ _ _ ?_
  simp (config := { maxSteps := 4000000 }) only [go_sem, simprocAttr, ↓dnA, Tryz.f50]
  refine semL_for tab_ok (fun i : Nat => ⟨40, [(0, .sl n1 (rows encC (markS mkC stC xs k))), (1, .int .i64 (k + (stepS stC (xs.take i) : Int))), (5, .int .i64 i)], []⟩) (fun i => xs.length - i)
    (fun i => i ≤ xs.length) 0 [] (Weak.of rfl trivial ?_ rfl) (by omega) ?_
  · simp (config := { maxSteps := 4000000 }) only [go_sem, simprocAttr, ↓dnA, Tryz.f50, List.take_zero, stepS, Int.add_zero, nc0, frW, wk2, wk1, wkL, wkB, hpW, List.mem_cons, Prod.mk.injEq, exists_eq_left, exists_eq_right, exists_eq]
  · rintro i hi
    by_cases h : i < xs.length
    · have hb := stepS_lt stC xs i h
      have hst : stC xs[i] = 3 := rfl
      have hw1 : IntKind.i64.wrap ((k + (stepS stC (xs.take i) : Int)) + 1) = (k + (stepS stC (xs.take i) : Int)) + 1 := wrap_small _ (by omega) (by omega)
      have hw2 : IntKind.i64.wrap ((k + (stepS stC (xs.take i) : Int)) + 1 + 1) = (k + (stepS stC (xs.take i) : Int)) + 1 + 1 := wrap_small _ (by omega) (by omega)
      have hw3 : IntKind.i64.wrap ((k + (stepS stC (xs.take i) : Int)) + 1 + 1 + 1) = (k + (stepS stC (xs.take i) : Int)) + 1 + 1 + 1 := wrap_small _ (by omega) (by omega)
      have hK : k + (stepS stC (xs.take (i + 1)) : Int) = (k + (stepS stC (xs.take i) : Int)) + 1 + 1 + 1 := by rw [stepS_take_succ _ _ _ h, hst]; omega
      simp (config := { maxSteps := 4000000 }) only [go_sem, simprocAttr, ↓dnA, Tryz.f50, rows_length, markS_length, nlt h, h, nn0, markS_rget _ _ _ _ _ _ h, encC, mkC, hw1, hw2, hw3, wsucc h hx]
      refine ⟨i + 1, [], by omega, by dsimp only; omega, Weak.of rfl trivial ?_ rfl⟩
      simp (config := { maxSteps := 4000000 }) only [go_sem, simprocAttr, ↓dnA, Tryz.f50, hK, wsucc h hx, frW, wk2, wk1, wkL, wkB, hpW, List.mem_cons, Prod.mk.injEq, exists_eq_left, exists_eq_right, exists_eq]
    · have hi' : i = xs.length := by omega
      subst hi'
      simp (config := { maxSteps := 4000000 }) only [go_sem, simprocAttr, ↓dnA, Tryz.f50, nlf h, rows_length, List.take_length, markS_length]


theorem c_laws_markVoterS (nn : Bool) (sz : Nat) (xs : List Voter) (k : Int) (hs : xs = [] ∨ sz = 2) (hx : xs.length < 2 ^ 62) (hk : 0 ≤ k ∧ k + stepS stV xs < 2 ^ 62) :
    FSpecM Tryz.prog 128 [.row 800 xs.length, .int .i64 k] [.osl nn sz (rows encV xs)] (fun r ls' => r = .int .i64 (k + stepS stV xs) ∧ ls' = [.osl nn sz (rows encV (markS mkV stV xs k))]) := by
  refine fspec_introM tab_ok Tryz.call128 Tryz.func128 rfl 27 Tryz.ntmps128 (of_decide_eq_true rfl) (of_decide_eq_true rfl) fun B => codeK_sound tab_ok _ _ _ ?_
  rcases hs with rfl | rfl
  · simp (config := { maxSteps := 4000000 }) only [go_sem, simprocAttr, ↓dnA, Tryz.f128]
    refine semL_for tab_ok (fun i : Nat => ⟨27, [(0, .row 800 0), (1, .int .i64 k), (5, .int .i64 0)], [(800, .row true nn sz (rows encV ([] : List Voter)))]⟩) (fun i => i) (fun _ => True) 0 [(800, 800)] (Weak.of (by rfl) ?_ ?_ (by rfl)) trivial ?_
    · simp (config := { maxSteps := 4000000 }) only [go_sem, simprocAttr, ↓dnA, Tryz.f128, frW, wk2, wk1, wkL, wkB, hpW, List.mem_cons, Prod.mk.injEq, exists_eq_left, exists_eq_right, exists_eq]
    · simp (config := { maxSteps := 4000000 }) only [go_sem, simprocAttr, ↓dnA, Tryz.f128, List.length_nil, nc0, frW, wk2, wk1, wkL, wkB, hpW, List.mem_cons, Prod.mk.injEq, exists_eq_left, exists_eq_right, exists_eq]
    · rintro i -
      simp (config := { maxSteps := 4000000 }) only [go_sem, simprocAttr, ↓dnA, Tryz.f128, List.length_nil, nc0, rows_length]
      simp [stepS, markS, rows]
  · simp (config := { maxSteps := 4000000 }) only [go_sem, simprocAttr, ↓dnA, Tryz.f128, rows_length]
    refine semL_for tab_ok (fun i : Nat => ⟨27, [(0, .row 800 xs.length), (1, .int .i64 (k + (stepS stV (xs.take i) : Int))), (5, .int .i64 i)], [(800, .row true nn 2 (rows encV (midS mkV stV xs k i)))]⟩) (fun i => xs.length - i)
      (fun i => i ≤ xs.length) 0 [(800, 800)] (Weak.of (by rfl) ?_ ?_ (by rfl)) (by omega) ?_
    · simp (config := { maxSteps := 4000000 }) only [go_sem, simprocAttr, ↓dnA, Tryz.f128, midS_zero, frW, wk2, wk1, wkL, wkB, hpW, List.mem_cons, Prod.mk.injEq, exists_eq_left, exists_eq_right, exists_eq]
    · simp (config := { maxSteps := 4000000 }) only [go_sem, simprocAttr, ↓dnA, Tryz.f128, List.take_zero, stepS, Int.add_zero, nc0, frW, wk2, wk1, wkL, wkB, hpW, List.mem_cons, Prod.mk.injEq, exists_eq_left, exists_eq_right, exists_eq]
    · rintro i hi
      by_cases h : i < xs.length
      · have hb := stepS_lt stV xs i h
        have hm : i < (rows encV (midS mkV stV xs k i)).length := by rw [rows_length, midS_length _ _ _ _ _ hi]; exact h
        have hst : stV xs[i] = 2 := rfl
        have hw1 : IntKind.i64.wrap ((k + (stepS stV (xs.take i) : Int)) + 1) = (k + (stepS stV (xs.take i) : Int)) + 1 := wrap_small _ (by omega) (by omega)
        have hw2 : IntKind.i64.wrap ((k + (stepS stV (xs.take i) : Int)) + 1 + 1) = (k + (stepS stV (xs.take i) : Int)) + 1 + 1 := wrap_small _ (by omega) (by omega)
        have hK : k + (stepS stV (xs.take (i + 1)) : Int) = (k + (stepS stV (xs.take i) : Int)) + 1 + 1 := by rw [stepS_take_succ _ _ _ h, hst]; omega
        simp (config := { maxSteps := 4000000 }) only [go_sem, simprocAttr, ↓dnA, Tryz.f128, rows_length, midS_length _ _ _ _ _ hi, List.length_set, nlt h, h, nn0, midS_get _ _ _ _ _ _ h, encV, set_same _ _ _ hm, List.set_set, spliceL, hw1, hw2, wsucc h hx]
        refine ⟨i + 1, [(800, 800)], by omega, by dsimp only; omega, Weak.of (by rfl) ?_ ?_ (by rfl)⟩
        · simp (config := { maxSteps := 4000000 }) only [go_sem, simprocAttr, ↓dnA, Tryz.f128, frW, wk2, wk1, wkL, wkB, hpW, List.mem_cons, Prod.mk.injEq, exists_eq_left, exists_eq_right, exists_eq]
          exact (midS_set encV mkV stV xs k i h).symm
        · simp (config := { maxSteps := 4000000 }) only [go_sem, simprocAttr, ↓dnA, Tryz.f128, hK, wsucc h hx, frW, wk2, wk1, wkL, wkB, hpW, List.mem_cons, Prod.mk.injEq, exists_eq_left, exists_eq_right, exists_eq]
      · have hi' : i = xs.length := by omega
        subst hi'
        simp (config := { maxSteps := 4000000 }) only [go_sem, simprocAttr, ↓dnA, Tryz.f128, nlf h, rows_length, midS_len, List.take_length, markS_length]

theorem c_laws_heldVoterS (n1 : Option Bool) (xs : List Voter) (k : Int) (hx : xs.length < 2 ^ 62) (hk : 0 ≤ k ∧ k + stepS stV xs < 2 ^ 62) :
    Det Tryz.prog 132 [.sl n1 (rows encV (markS mkV stV xs k)), .int .i64 k] (.int .i64 (k + stepS stV xs)) := by
  refine fspec_det tab_ok Tryz.call132 Tryz.func132 rfl 31 Tryz.ntmps132 (of_decide_eq_true rfl) fun B => codeK_sound tab_ok _ _ _ ?_
  simp (config := { maxSteps := 4000000 }) only [go_sem, simprocAttr, ↓dnA, Tryz.f132]
  refine semL_for tab_ok (fun i : Nat => ⟨31, [(0, .sl n1 (rows encV (markS mkV stV xs k))), (1, .int .i64 (k + (stepS stV (xs.take i) : Int))), (5, .int .i64 i)], []⟩) (fun i => xs.length - i)
    (fun i => i ≤ xs.length) 0 [] (Weak.of rfl trivial ?_ rfl) (by omega) ?_
  · simp (config := { maxSteps := 4000000 }) only [go_sem, simprocAttr, ↓dnA, Tryz.f132, List.take_zero, stepS, Int.add_zero, nc0, frW, wk2, wk1, wkL, wkB, hpW, List.mem_cons, Prod.mk.injEq, exists_eq_left, exists_eq_right, exists_eq]
  · rintro i hi
    by_cases h : i < xs.length
    · have hb := stepS_lt stV xs i h
      have hst : stV xs[i] = 2 := rfl
      have hw1 : IntKind.i64.wrap ((k + (stepS stV (xs.take i) : Int)) + 1) = (k + (stepS stV (xs.take i) : Int)) + 1 := wrap_small _ (by omega) (by omega)
      have hw2 : IntKind.i64.wrap ((k + (stepS stV (xs.take i) : Int)) + 1 + 1) = (k + (stepS stV (xs.take i) : Int)) + 1 + 1 := wrap_small _ (by omega) (by omega)
      have hK : k + (stepS stV (xs.take (i + 1)) : Int) = (k + (stepS stV (xs.take i) : Int)) + 1 + 1 := by rw [stepS_take_succ _ _ _ h, hst]; omega
      simp (config := { maxSteps := 4000000 }) only [go_sem, simprocAttr, ↓dnA, Tryz.f132, rows_length, markS_length, nlt h, h, nn0, markS_rget _ _ _ _ _ _ h, encV, mkV, hw1, hw2, wsucc h hx]
      refine ⟨i + 1, [], by omega, by dsimp only; omega, Weak.of rfl trivial ?_ rfl⟩
      simp (config := { maxSteps := 4000000 }) only [go_sem, simprocAttr, ↓dnA, Tryz.f132, hK, wsucc h hx, frW, wk2, wk1, wkL, wkB, hpW, List.mem_cons, Prod.mk.injEq, exists_eq_left, exists_eq_right, exists_eq]
    · have hi' : i = xs.length := by omega
      subst hi'
      simp (config := { maxSteps := 4000000 }) only [go_sem, simprocAttr, ↓dnA, Tryz.f132, nlf h, rows_length, List.take_length, markS_length]



def encBo (b : Bool) : List AV := [.bool b]
theorem boolRows_eq (l : List Bool) : boolRows l = rows encBo l := rfl
def mkBo (_ : Bool) (k : Int) : Bool := k.tmod 3 == 0
def stBo (_ : Bool) : Nat := 1

theorem c_laws_markBoolS (nn : Bool) (xs : List Bool) (k : Int) (hx : xs.length < 2 ^ 62) (hk : 0 ≤ k ∧ k + stepS stBo xs < 2 ^ 62) :
    FSpecM Tryz.prog 53 [.row 800 xs.length, .int .i64 k] [.osl nn 1 (rows encBo xs)] (fun r ls' => r = .int .i64 (k + stepS stBo xs) ∧ ls' = [.osl nn 1 (rows encBo (markS mkBo stBo xs k))]) := by
  refine fspec_introM tab_ok Tryz.call53 Tryz.func53 rfl 21 Tryz.ntmps53 (of_decide_eq_true rfl) (of_decide_eq_true rfl) fun B => codeK_sound tab_ok _ _ _ ?_
  simp (config := { maxSteps := 4000000 }) only [go_sem, simprocAttr, ↓dnA, Tryz.f53, rows_length]
  refine semL_for tab_ok (fun i : Nat => ⟨21, [(0, .row 800 xs.length), (1, .int .i64 (k + (stepS stBo (xs.take i) : Int))), (5, .int .i64 i)], [(800, .row true nn 1 (rows encBo (midS mkBo stBo xs k i)))]⟩) (fun i => xs.length - i)
    (fun i => i ≤ xs.length) 0 [(800, 800)] (Weak.of (by rfl) ?_ ?_ (by rfl)) (by omega) ?_
  · simp (config := { maxSteps := 4000000 }) only [go_sem, simprocAttr, ↓dnA, Tryz.f53, midS_zero, frW, wk2, wk1, wkL, wkB, hpW, List.mem_cons, Prod.mk.injEq, exists_eq_left, exists_eq_right, exists_eq]
  · simp (config := { maxSteps := 4000000 }) only [go_sem, simprocAttr, ↓dnA, Tryz.f53, List.take_zero, stepS, Int.add_zero, nc0, frW, wk2, wk1, wkL, wkB, hpW, List.mem_cons, Prod.mk.injEq, exists_eq_left, exists_eq_right, exists_eq]
  · rintro i hi
    by_cases h : i < xs.length
    · have hb := stepS_lt stBo xs i h
      have hm : i < (rows encBo (midS mkBo stBo xs k i)).length := by rw [rows_length, midS_length _ _ _ _ _ hi]; exact h
      have hst : stBo xs[i] = 1 := rfl
      have hw1 : IntKind.i64.wrap (k + (stepS stBo (xs.take i) : Int) + 1) = k + (stepS stBo (xs.take i) : Int) + 1 := wrap_small _ (by omega) (by omega)
      have hK : k + (stepS stBo (xs.take (i + 1)) : Int) = k + (stepS stBo (xs.take i) : Int) + 1 := by rw [stepS_take_succ _ _ _ h, hst]; omega
      have hs := midS_set encBo mkBo stBo xs k i h
      unfold mkBo encBo at hs
      simp (config := { maxSteps := 4000000 }) only [go_sem, simprocAttr, ↓dnA, Tryz.f53, rows_length, midS_length _ _ _ _ _ hi, List.length_set, nlt h, h, nn0, midS_get _ _ _ _ _ _ h, encBo, set_same _ _ _ hm, List.set_set, spliceL, hw1, wsucc h hx]
      refine ⟨i + 1, [(800, 800)], by omega, by dsimp only; omega, Weak.of (by rfl) ?_ ?_ (by rfl)⟩
      · simp (config := { maxSteps := 4000000 }) only [go_sem, simprocAttr, ↓dnA, Tryz.f53, frW, wk2, wk1, wkL, wkB, hpW, List.mem_cons, Prod.mk.injEq, exists_eq_left, exists_eq_right, exists_eq]
        exact (midS_set encBo mkBo stBo xs k i h).symm
      · simp (config := { maxSteps := 4000000 }) only [go_sem, simprocAttr, ↓dnA, Tryz.f53, hK, wsucc h hx, frW, wk2, wk1, wkL, wkB, hpW, List.mem_cons, Prod.mk.injEq, exists_eq_left, exists_eq_right, exists_eq]
    · have hi' : i = xs.length := by omega
      subst hi'
      simp (config := { maxSteps := 4000000 }) only [go_sem, simprocAttr, ↓dnA, Tryz.f53, nlf h, rows_length, midS_len, List.take_length, markS_length]

theorem c_laws_heldBoolS (n1 : Option Bool) (xs : List Bool) (k : Int) (hx : xs.length < 2 ^ 62) (hk : 0 ≤ k ∧ k + stepS stBo xs < 2 ^ 62) :
    Det Tryz.prog 54 [.sl n1 (rows encBo (markS mkBo stBo xs k)), .int .i64 k] (.int .i64 (k + stepS stBo xs)) := by
  refine fspec_det tab_ok Tryz.call54 Tryz.func54 rfl 23 Tryz.ntmps54 (of_decide_eq_true rfl) fun B => codeK_sound tab_ok _ _ _ ?_
  simp (config := { maxSteps := 4000000 }) only [go_sem, simprocAttr, ↓dnA, Tryz.f54]
  refine semL_for tab_ok (fun i : Nat => ⟨23, [(0, .sl n1 (rows encBo (markS mkBo stBo xs k))), (1, .int .i64 (k + (stepS stBo (xs.take i) : Int))), (5, .int .i64 i)], []⟩) (fun i => xs.length - i)
    (fun i => i ≤ xs.length) 0 [] (Weak.of rfl trivial ?_ rfl) (by omega) ?_
  · simp (config := { maxSteps := 4000000 }) only [go_sem, simprocAttr, ↓dnA, Tryz.f54, List.take_zero, stepS, Int.add_zero, nc0, frW, wk2, wk1, wkL, wkB, hpW, List.mem_cons, Prod.mk.injEq, exists_eq_left, exists_eq_right, exists_eq]
  · rintro i hi
    by_cases h : i < xs.length
    · have hb := stepS_lt stBo xs i h
      have hst : stBo xs[i] = 1 := rfl
      have hw1 : IntKind.i64.wrap (k + (stepS stBo (xs.take i) : Int) + 1) = k + (stepS stBo (xs.take i) : Int) + 1 := wrap_small _ (by omega) (by omega)
      have hK : k + (stepS stBo (xs.take (i + 1)) : Int) = k + (stepS stBo (xs.take i) : Int) + 1 := by rw [stepS_take_succ _ _ _ h, hst]; omega
      simp (config := { maxSteps := 4000000 }) only [go_sem, simprocAttr, ↓dnA, Tryz.f54, rows_length, markS_length, nlt h, h, nn0, markS_rget _ _ _ _ _ _ h, encBo, mkBo, hw1, wsucc h hx]
      refine ⟨i + 1, [], by omega, by dsimp only; omega, Weak.of rfl trivial ?_ rfl⟩
      simp (config := { maxSteps := 4000000 }) only [go_sem, simprocAttr, ↓dnA, Tryz.f54, hK, wsucc h hx, frW, wk2, wk1, wkL, wkB, hpW, List.mem_cons, Prod.mk.injEq, exists_eq_left, exists_eq_right, exists_eq]
    · have hi' : i = xs.length := by omega
      subst hi'
      simp (config := { maxSteps := 4000000 }) only [go_sem, simprocAttr, ↓dnA, Tryz.f54, nlf h, rows_length, List.take_length, markS_length]

def stW (w : Wld) : Nat := stT w.tree + stepS stV w.voters + stepS stI w.votes
def mkW (w : Wld) (k : Int) : Wld := ⟨mkT w.tree k, markS mkV stV w.voters (k + (stT w.tree : Int)), markS mkI stI w.votes (k + (stT w.tree : Int) + (stepS stV w.voters : Int))⟩

theorem c_laws_markWorld (n1 n2 n3 n4 n5 : Bool) (w : Wld) (k : Int) (hx : WldSz w) (hk : 0 ≤ k ∧ k + stW w < 2 ^ 62) :
    FSpecM Tryz.prog 48 [.agg [.row 800 w.tree.base.length, .row 801 w.tree.blocks.length, .row 802 w.tree.before.length, .row 803 w.voters.length, .row 804 w.votes.length], .int .i64 k] [.osl n1 2 (rows encE w.tree.base), .osl n2 6 (rows encB1 w.tree.blocks), .osl n3 1 (rows encI w.tree.before), .osl n4 2 (rows encV w.voters), .osl n5 1 (rows encI w.votes)]
      (fun r ls' => r = .int .i64 (k + stW w) ∧ ls' = [.osl n1 2 (rows encE (mkW w k).tree.base), .osl n2 6 (rows encB1 (mkW w k).tree.blocks), .osl n3 1 (rows encI (mkW w k).tree.before), .osl n4 2 (rows encV (mkW w k).voters), .osl n5 1 (rows encI (mkW w k).votes)]) := by
  refine fspec_introM tab_ok Tryz.call48 Tryz.func48 rfl 18 Tryz.ntmps48 (of_decide_eq_true rfl) (of_decide_eq_true rfl) fun B => codeK_sound tab_ok _ _ _ ?_
  unfold stW at hk ⊢
  have he : k + ((stT w.tree + stepS stV w.voters + stepS stI w.votes : Nat) : Int) = k + (stT w.tree : Int) + (stepS stV w.voters : Int) + (stepS stI w.votes : Int) := by omega
  have l1 : (mkT w.tree k).base.length = w.tree.base.length := markS_length ..
  have l2 : (mkT w.tree k).blocks.length = w.tree.blocks.length := markS_length ..
  have l3 : (mkT w.tree k).before.length = w.tree.before.length := markS_length ..
  simp (config := { maxSteps := 4000000 }) only [go_sem, simprocAttr, ↓dnA, Tryz.f48, List.nodup_cons, rows_length]
  refine CallMTo.of (c_laws_markBlockTree n1 n2 n3 w.tree k hx.tree ⟨hk.1, by omega⟩) ?_
  rintro r ls' ⟨rfl, rfl⟩
  simp (config := { maxSteps := 4000000 }) only [go_sem, simprocAttr, ↓dnA, Tryz.f48, List.nodup_cons, rows_length, l1, l2, l3]
  refine CallMTo.of (c_laws_markVoterS n4 2 w.voters _ (.inr rfl) hx.voters ⟨by omega, by omega⟩) ?_
  rintro r ls' ⟨rfl, rfl⟩
  simp (config := { maxSteps := 4000000 }) only [go_sem, simprocAttr, ↓dnA, Tryz.f48, List.nodup_cons, rows_length, l1, l2, l3]
  refine CallMTo.of (c_laws_markIntS n5 1 w.votes _ (.inr rfl) hx.votes ⟨by omega, by omega⟩) ?_
  rintro r ls' ⟨rfl, rfl⟩
  simp (config := { maxSteps := 4000000 }) only [go_sem, simprocAttr, ↓dnA, Tryz.f48, List.nodup_cons, rows_length, markS_length, mkW, he, l1, l2, l3]

theorem c_laws_heldWorld (n1 n2 n3 n4 n5 : Option Bool) (w : Wld) (k : Int) (hx : WldSz w) (hk : 0 ≤ k ∧ k + stW w < 2 ^ 62) :
    Det Tryz.prog 57 [.agg (encW n1 n2 n3 n4 n5 (mkW w k)), .int .i64 k] (.int .i64 (k + stW w)) := by
  refine fspec_det tab_ok Tryz.call57 Tryz.func57 rfl 24 Tryz.ntmps57 (of_decide_eq_true rfl) fun B => codeK_sound tab_ok _ _ _ ?_
  unfold stW at hk ⊢
  have he : k + ((stT w.tree + stepS stV w.voters + stepS stI w.votes : Nat) : Int) = k + (stT w.tree : Int) + (stepS stV w.voters : Int) + (stepS stI w.votes : Int) := by omega
  have d1 : decide (k + (stT w.tree : Int) < 0) = false := by simp; omega
  have d2 : decide (k + (stT w.tree : Int) + (stepS stV w.voters : Int) < 0) = false := by simp; omega
  have d3 : decide (k + (stT w.tree : Int) + (stepS stV w.voters : Int) + (stepS stI w.votes : Int) < 0) = false := by simp; omega
  unfold encW mkW
  simp (config := { maxSteps := 4000000 }) only [go_sem, simprocAttr, ↓dnA, Tryz.f57, List.nodup_cons]
  refine CallTo.det (c_laws_heldBlockTree n1 n2 n3 w.tree k hx.tree ⟨hk.1, by omega⟩) fun _ => ?_
  simp (config := { maxSteps := 4000000 }) only [go_sem, simprocAttr, ↓dnA, Tryz.f57, List.nodup_cons, d1]
  refine CallTo.det (c_laws_heldVoterS n4 w.voters _ hx.voters ⟨by omega, by omega⟩) fun _ => ?_
  simp (config := { maxSteps := 4000000 }) only [go_sem, simprocAttr, ↓dnA, Tryz.f57, List.nodup_cons, d1, d2]
  refine CallTo.det (c_laws_heldIntS n5 w.votes _ hx.votes ⟨by omega, by omega⟩) fun _ => ?_
  simp (config := { maxSteps := 4000000 }) only [go_sem, simprocAttr, ↓dnA, Tryz.f57, List.nodup_cons, d1, d2, d3, he]

theorem stW_le (w : Wld) : stW w ≤ 5 * wsz w := by
  have := stT_le w.tree
  unfold stW wsz
  rw [stepS_const stV 2 (fun _ => rfl), stepS_const stI 1 (fun _ => rfl)]
  omega
theorem wsz_sz {w : Wld} {m : Nat} (h : wsz w ≤ m) (hm : m < 2 ^ 62) : WldSz w :=
  ⟨tsz_sz (m := m) (by unfold wsz at h; omega) hm, by unfold wsz at h; omega, by unfold wsz at h; omega⟩
theorem stW_small {w : Wld} (h : WldS32 w) : stW w ≤ 5 * 1048576 := by
  have := stW_le w
  have := h.sum
  omega

end Go.Proofs.YtmibclbinebnjaaGreat

/- Worlds: new ones, their certificates, what is committed in them: plain. -/
set_option linter.unusedSimpArgs false
set_option linter.unusedVariables false
set_option maxRecDepth 20000
set_option maxHeartbeats 4000000
namespace Go.Proofs.YtmibclbinebnjaaGreat
open Go Go.RowKit

def noW : Wld := ⟨⟨[], [], []⟩, [], []⟩
noncomputable def worldOf (t : Tree) : Wld := if treeValid t then ⟨t, List.replicate 4 ⟨0, 0⟩, List.replicate t.blocks.length 0⟩ else noW
def encWF (w : Wld) : List AV :=
  [.osl false 2 (rows encE w.tree.base), .osl false 6 (rows encB1 w.tree.blocks), .osl false 1 (rows encI w.tree.before), .osl false 2 (rows encV w.voters), .osl false 1 (rows encI w.votes)]

theorem worldValid_parts {w : Wld} (h : worldValid w = true) : TreeOk w.tree ∧ w.voters.length = 4 ∧ (∀ v, v ∈ w.voters → voterOk v = true) ∧ w.votes.length = w.tree.blocks.length ∧ ∀ n, n ∈ w.votes → 0 ≤ n ∧ n ≤ 15 := by
  unfold worldValid at h
  simp only [Bool.and_eq_true, decide_eq_true_eq, List.all_eq_true] at h
  exact ⟨treeOk_of h.1.1.1.1, h.1.1.1.2, h.1.1.2, h.1.2, fun n hn => inB_iff.1 (h.2 n hn)⟩

/-! Valid trees and worlds are small. -/
theorem tb_ent {lo : Int} : ∀ {s : List Entry} {last : Int}, -1 ≤ last → entOk lo last s = true → s = [] ∨ (s.length : Int) ≤ 31 - last
  | [], _, _, _ => .inl rfl
  | e :: r, last, hl, h => by
    simp only [entOk, Bool.and_eq_true, inB_iff] at h
    obtain ⟨⟨h1, h2⟩, h3⟩ := h
    rcases tb_ent (by omega) h3 with e1 | e1
    · subst e1; right; simp only [List.length_cons, List.length_nil]; omega
    · right; rw [List.length_cons]; omega
theorem tb_store {s : List Entry} (h : storeValid s = true) : s.length ≤ 32 := by
  rcases tb_ent (by omega) h with e | e
  · subst e; simp
  · omega
theorem tb_list {b : Block} (h : blockValid b = true) : b.list.length ≤ 10 := by
  unfold blockValid at h
  simp only [Bool.and_eq_true] at h
  obtain ⟨⟨⟨⟨⟨_, _⟩, _⟩, _⟩, _⟩, h6⟩ := h
  unfold actionsValid at h6
  rw [Bool.and_eq_true] at h6
  exact of_decide_eq_true h6.1
theorem tb_lsum : ∀ (bs : List Block), (∀ b, b ∈ bs → b.list.length ≤ 10) → lsum bs ≤ 10 * bs.length
  | [], _ => Nat.le_refl _
  | b :: r, h => by
    have h1 := h b (List.mem_cons_self ..)
    have h2 := tb_lsum r fun c hc => h c (List.mem_cons_of_mem _ hc)
    unfold lsum
    rw [List.length_cons]
    omega
theorem treeOk_tsz {t : Tree} (ht : TreeOk t) : tsz t ≤ 200 := by
  have h1 := tb_store ht.store
  have h2 := ht.len
  have h3 := ht.bef
  have h4 := tb_lsum t.blocks fun b hb => by
    obtain ⟨i, hi, rfl⟩ := List.getElem_of_mem hb
    rw [t.blk_get i hi]
    exact tb_list (ht.valid i hi)
  unfold tsz; omega
theorem tb_s32 {t : Tree} (ht : TreeOk t) : TreeS32 t := ⟨by have := treeOk_tsz ht; omega⟩
theorem worldOk_wsz {w : Wld} (h : worldValid w = true) : wsz w ≤ 218 := by
  obtain ⟨ht, h4, _, hl, _⟩ := worldValid_parts h
  have h1 := treeOk_tsz ht
  have h2 := ht.len
  unfold wsz; omega
theorem worldOk_s32 {w : Wld} (h : worldValid w = true) : WldS32 w := ⟨by have := worldOk_wsz h; omega⟩

/-- The certificate of the block k. -/
def certAt (w : Wld) (k : Nat) : Cert := ⟨blockSum (w.tree.blk k), (w.tree.blk k).view, w.votes.getD k 0⟩
/-- The certificates of the first k blocks. -/
def certsTo (w : Wld) : Nat → List Cert
  | 0 => []
  | k + 1 => if 0 < k ∧ 0 < w.votes.getD k 0 then certsTo w k ++ [certAt w k] else certsTo w k
noncomputable def worldCerts (w : Wld) : List Cert := if worldValid w then certsTo w w.votes.length else []

theorem certsTo_len (w : Wld) : ∀ k, (certsTo w k).length ≤ k - 1
  | 0 => by simp [certsTo]
  | k + 1 => by
    have := certsTo_len w k
    unfold certsTo
    split
    · rename_i h
      simp; omega
    · omega

noncomputable def headW (w : Wld) : Int := committedTo w.tree (certsTo w w.votes.length)
noncomputable def worldHead (w : Wld) : Int := if worldValid w then headW w else -1

theorem headW_bd {w : Wld} (h : worldValid w = true) : 0 ≤ headW w ∧ headW w < w.tree.blocks.length := by
  obtain ⟨ht, h4, hv, hl, hs⟩ := worldValid_parts h
  have hlen := ht.len
  have hc := certsTo_len w w.votes.length
  obtain ⟨e1, e2⟩ := certified_ne (treeValid_true ht) (cs := certsTo w w.votes.length) (by omega)
  unfold headW committedTo
  rw [if_neg e2]
  exact bestF_bd w.tree w.tree.blocks.length _ 0 (headsL_bd _ _) (by omega)

/-- The actions of the blocks of a way. -/
def actsOf (t : Tree) (p : List Int) : List Action := p.flatMap fun n => (t.blk n.toNat).list
noncomputable def worldActions (w : Wld) : List Action := if worldValid w then actsOf w.tree (pathL w.tree (headW w)) else []

theorem actsOf_take (t : Tree) (p : List Int) (i : Nat) (h : i < p.length) : actsOf t (p.take (i + 1)) = actsOf t (p.take i) ++ (t.blk p[i].toNat).list := by
  unfold actsOf
  rw [take_snoc _ _ h, List.flatMap_append]
  simp

end Go.Proofs.YtmibclbinebnjaaGreat

/- Contracts: engines, and their copies. -/
set_option linter.unusedSimpArgs false
set_option linter.unusedVariables false
set_option maxRecDepth 20000
set_option maxHeartbeats 4000000
namespace Go.Proofs.YtmibclbinebnjaaGreat
open Go Go.RowKit

theorem semL_nilVA {P : Program} {B : Base} {c : Code} {s : AState} {Kx : Exit → AState → Prop} (vid j id sz : Nat) (own : Bool) {cs : List AV} (h0 : s.blk vid = .var cs) (hj : j < cs.length) (h1 : cs.getD j .top = .sl (some false) []) (h2 : s.blk id = .none) (h3 : nF id) (h4 : 0 < sz)
    (h : @SemL P B c { s with hp := (vid, .var (cs.set j (.row id 0))) :: (id, .row own false sz []) :: s.hp } ⟨Kx⟩) : @SemL P B c s ⟨Kx⟩ := @semL_nilV _ _ _ _ ⟨Kx⟩ vid j id sz own _ h0 hj h1 h2 h3 h4 h

structure Version where
  key : Int
  by_ : Int
  value : Int
deriving DecidableEq, Inhabited
def encR (v : Version) : List AV := [.int .i64 v.key, .int .i64 v.by_, .int .i64 v.value]

structure Effect where
  done : Bool
  reads : List Entry
  writes : List Entry
deriving DecidableEq, Inhabited
def encF (n1 n2 : Option Bool) (e : Effect) : List AV := [.bool e.done, .sl n1 (rows encE e.reads), .sl n2 (rows encE e.writes)]

structure Slot where
  stage : Int
  tries : Int
  fr : List Int
  res : Effect
deriving DecidableEq, Inhabited
def encS (n1 n2 n3 : Option Bool) (s : Slot) : List AV := [.int .i64 s.stage, .int .i64 s.tries, .sl n1 (rows encI s.fr), .bool s.res.done, .sl n2 (rows encE s.res.reads), .sl n3 (rows encE s.res.writes)]
def encS1 (s : Slot) : List AV := encS none none none s

structure Engine where
  base : List Entry
  list : List Action
  versions : List Version
  slots : List Slot
deriving DecidableEq, Inhabited
def encG (n1 n2 n3 n4 : Option Bool) (e : Engine) : List AV := [.sl n1 (rows encE e.base), .sl n2 (rows encA e.list), .sl n3 (rows encR e.versions), .sl n4 (rows encS1 e.slots)]
def encGO (e : Engine) : List AV := [.osl true 2 (rows encE e.base), .osl true 4 (rows encA e.list), .osl true 3 (rows encR e.versions), .osl true 6 (rows encS1 e.slots)]
def encGF (e : Engine) : List AV := [.osl false 2 (rows encE e.base), .osl false 4 (rows encA e.list), .osl false 3 (rows encR e.versions), .osl false 6 (rows encS1 e.slots)]

/-- The sizes of a slot's lists. -/
structure SlotSz (n : Nat) (s : Slot) : Prop where
  fr : s.fr.length < n
  reads : s.res.reads.length < n
  writes : s.res.writes.length < n
structure EngSz (n : Nat) (e : Engine) : Prop where
  base : e.base.length < n
  list : e.list.length < n
  versions : e.versions.length < n
  slots : e.slots.length < n
  each : ∀ s, s ∈ e.slots → SlotSz n s

section
variable {α : Type} (e : α → List AV)
theorem all_rows (p : AV → Bool) (h : ∀ x, (e x).all p = true) (xs : List α) : ((rows e xs).all fun r => r.all p) = true := by
  rw [List.all_eq_true]
  intro r hr
  obtain ⟨x, _, rfl⟩ := List.mem_map.1 hr
  exact h x
theorem sz0_rows (n : Nat) (h : ∀ x, (e x).length = n) (xs : List α) : xs.length = 0 ∨ ((rows e xs).getD 0 []).length = n := by
  cases xs with
  | nil => exact .inl rfl
  | cons x r => exact .inr (h x)
end

theorem c_impl_cloneEntries (n1 : Option Bool) (xs : List Entry) (hx : xs.length < 2 ^ 32) : Det Tryz.prog 190 [.sl n1 (rows encE xs)] (.osl false 2 (rows encE xs)) := by
  refine fspec_det tab_ok Tryz.call190 Tryz.func190 rfl 5 Tryz.ntmps190 (of_decide_eq_true rfl) fun B => codeK_sound tab_ok _ _ _ ?_
  have h1 := all_rows encE AV.flat (fun _ => rfl) xs
  have h2 := all_rows encE AV.one (fun _ => rfl) xs
  have h3 := sz0_rows encE 2 (fun _ => rfl) xs
  simp (config := { maxSteps := 4000000 }) only [go_sem, simprocAttr, ↓dnA, Tryz.f190, rows_length]
  repeat refine And.intro (by first | omega | (simp; done) | (simp; omega) | assumption) ?_
  omega

def slot0 : Slot := ⟨0, 0, [], ⟨false, [], []⟩⟩
/-- The engine in which nothing has been tried. -/
def engineOf (s : List Entry) (l : List Action) : Engine := if storeValid s && actionsValid l then ⟨s, l, [], List.replicate l.length slot0⟩ else ⟨[], [], [], []⟩

theorem slot0_rows (n : Nat) : List.replicate n (encS1 slot0) = rows encS1 (List.replicate n slot0) := rows_replicate _ _ _


end Go.Proofs.YtmibclbinebnjaaGreat

/- Contracts: copies of blocks and trees. -/
set_option linter.unusedSimpArgs false
set_option linter.unusedVariables false
set_option maxRecDepth 20000
set_option maxHeartbeats 4000000
namespace Go.Proofs.YtmibclbinebnjaaGreat
open Go Go.RowKit

def encBkF (b : Block) : List AV := [.int .i64 b.before, .int .i64 b.height, .int .i64 b.view, .osl false 4 (rows encA b.list), .int .i64 b.root, .int .i64 b.effects]

def encTF (t : Tree) : List AV := [.osl false 2 (rows encE t.base), .osl false 6 (rows encB1 t.blocks), .osl false 1 (rows encI t.before)]

theorem c_impl_Block_clone (n : Option Bool) (b : Block) (hl : b.list.length < 2 ^ 32) : Det Tryz.prog 191 [.agg (encBk n b)] (.agg (encBkF b)) := by
  refine fspec_det tab_ok Tryz.call191 Tryz.func191 rfl 8 Tryz.ntmps191 (of_decide_eq_true rfl) fun B => codeK_sound tab_ok _ _ _ ?_
  have a1 := all_rows encA AV.flat (fun _ => rfl) b.list
  have a2 := all_rows encA AV.one (fun _ => rfl) b.list
  have a3 := sz0_rows encA 4 (fun _ => rfl) b.list
  simp (config := { maxSteps := 4000000 }) only [go_sem, simprocAttr, ↓dnA, Tryz.f191, rows_length, encBk, encBkF]
  repeat refine And.intro (by first | omega | (simp; done) | (simp; omega) | assumption) ?_
  omega

theorem c_impl_Tree_clone (n1 n2 n3 : Option Bool) (t : Tree) (hx : TreeS32 t) : Det Tryz.prog 131 [.agg (encT n1 n2 n3 t)] (.agg (encTF t)) := by
  refine fspec_det tab_ok Tryz.call131 Tryz.func131 rfl 29 Tryz.ntmps131 (of_decide_eq_true rfl) fun B => codeK_sound tab_ok _ _ _ ?_
  have q1 := hx.base
  have q2 := hx.blocks
  have q3 := hx.before
  have a1 := all_rows encI AV.flat (fun _ => rfl) t.before
  have a2 := all_rows encI AV.one (fun _ => rfl) t.before
  have a3 := sz0_rows encI 1 (fun _ => rfl) t.before
  simp (config := { maxSteps := 4000000 }) only [go_sem, simprocAttr, ↓dnA, Tryz.f131, rows_length, encT]
  refine semL_draw tab_ok mixed_ rfl (ord := [(0, []), (1, []), (3, []), (4, []), (2, [3, 4]), (5, []), (6, []), (7, [0, 1, 3, 4, 6]), (8, [])]) (by dsimp only; decide +kernel) ?_
  simp (config := { maxSteps := 4000000 }) only [go_sem, simprocAttr, ↓dnA, Tryz.f131, rows_length, encT]
  refine CallTo.det (c_impl_cloneEntries n1 t.base q1) fun _ => ?_
  simp (config := { maxSteps := 4000000 }) only [go_sem, simprocAttr, ↓dnA, Tryz.f131, rows_length, encT]
  repeat refine And.intro (by first | omega | (simp; done) | (simp; omega) | assumption) ?_
  refine semL_nilVA 3 1 600 6 true (by rfl) (by simp) (by rfl) (by rfl) (by decide) (by decide) ?_
  refine semL_for tab_ok (fun i : Nat => ⟨29, [(2, .loc 2 0), (3, .loc 3 0), (14, .sl n2 (rows encB1 t.blocks)), (15, .int .i64 t.blocks.length), (16, .int .i64 i)],
      [(2, .var [.sl (some false) [], .sl (some false) [], .sl (some false) []]), (3, .var [.row 9000 t.base.length, .row 600 i, .row 11 t.before.length]),
        (11, .row true false 1 (rows encI t.before)), (9000, .row true false 2 (rows encE t.base)), (600, .row true false 6 (rows encB1 (t.blocks.take i)))]⟩) (fun i => t.blocks.length - i)
    (fun i => i ≤ t.blocks.length) 0 [(2, 2), (3, 3), (11, 11), (9000, 9000), (600, 600)] (Weak.of (by rfl) ?_ ?_ (by rfl)) (by omega) ?_
  · simp (config := { maxSteps := 4000000 }) only [go_sem, simprocAttr, ↓dnA, Tryz.f131, rows_length, frW, wk2, wk1, wkL, wkB, hpW, List.mem_cons, Prod.mk.injEq, exists_eq_left, exists_eq_right, exists_eq]
    try rfl
  · simp (config := { maxSteps := 4000000 }) only [go_sem, simprocAttr, ↓dnA, Tryz.f131, rows_length, frW, wk2, wk1, wkL, wkB, hpW, List.mem_cons, Prod.mk.injEq, exists_eq_left, exists_eq_right, exists_eq]
  · rintro i hi
    by_cases h : i < t.blocks.length
    · have hb := hx.list _ (List.getElem_mem h)
      have htk : (rows encB1 (t.blocks.take i)).take i = rows encB1 (t.blocks.take i) := by
        rw [List.take_of_length_le]; rw [rows_length, List.length_take]; omega
      have hl : min i t.blocks.length = i := by omega
      have hw : IntKind.i64.wrap ((i : Int) + 1) = ((i + 1 : Nat) : Int) := wsucc h (by omega)
      simp (config := { maxSteps := 4000000 }) only [go_sem, simprocAttr, ↓dnA, Tryz.f131, rows_length, nlt h, h, rows_get _ _ _ h, encB1, encBk, nn0]
      refine semL_draw tab_ok mixed_ rfl (ord := [(0, []), (1, []), (2, []), (3, [0, 1]), (4, [0, 1]), (5, []), (6, []), (7, [])]) (by dsimp only; decide +kernel) ?_
      simp (config := { maxSteps := 4000000 }) only [go_sem, simprocAttr, ↓dnA, Tryz.f131, rows_length, encBk]
      refine CallTo.det (c_impl_Block_clone none t.blocks[i] hb) fun _ => ?_
      simp (config := { maxSteps := 4000000 }) only [go_sem, simprocAttr, ↓dnA, Tryz.f131, rows_length, List.length_take, hl, htk, hw, encBkF]
      repeat refine And.intro (by first | omega | (simp; done) | (simp; omega) | assumption) ?_
      refine ⟨i + 1, [(2, 2), (3, 3), (11, 11), (9000, 9000), (25, 600)], by omega, by dsimp only; omega, Weak.of (by rfl) ?_ ?_ (by rfl)⟩
      · simp (config := { maxSteps := 4000000 }) only [go_sem, simprocAttr, ↓dnA, Tryz.f131, rows_length, frW, wk2, wk1, wkL, wkB, hpW, List.mem_cons, Prod.mk.injEq, exists_eq_left, exists_eq_right, exists_eq]
        rw [take_snoc _ _ h, ← rows_snoc]
        rfl
      · simp (config := { maxSteps := 4000000 }) only [go_sem, simprocAttr, ↓dnA, Tryz.f131, rows_length, frW, wk2, wk1, wkL, wkB, hpW, List.mem_cons, Prod.mk.injEq, exists_eq_left, exists_eq_right, exists_eq]
    · have hi' : i = t.blocks.length := by omega
      subst hi'
      simp (config := { maxSteps := 4000000 }) only [go_sem, simprocAttr, ↓dnA, Tryz.f131, rows_length, nlf h, encTF, List.take_length]

theorem c_spec_l13Copy (n1 n2 n3 : Option Bool) (t : Tree) (hx : TreeS32 t) : Det Tryz.prog 130 [.agg (encT n1 n2 n3 t)] (.agg (encTF t)) := by
  refine fspec_det tab_ok Tryz.call130 Tryz.func130 rfl 39 Tryz.ntmps130 (of_decide_eq_true rfl) fun B => codeK_sound tab_ok _ _ _ ?_
  have q1 := hx.base
  have q2 := hx.blocks
  have q3 := hx.before
  have a1 := all_rows encI AV.flat (fun _ => rfl) t.before
  have a2 := all_rows encI AV.one (fun _ => rfl) t.before
  have a3 := sz0_rows encI 1 (fun _ => rfl) t.before
  have b1 := all_rows encE AV.flat (fun _ => rfl) t.base
  have b2 := all_rows encE AV.one (fun _ => rfl) t.base
  have b3 := sz0_rows encE 2 (fun _ => rfl) t.base
  simp (config := { maxSteps := 4000000 }) only [go_sem, simprocAttr, ↓dnA, Tryz.f130, rows_length, encT]
  refine semL_draw tab_ok mixed_ rfl (ord := [(1, []), (2, []), (5, []), (6, []), (0, [1, 2, 5, 6]), (3, [5, 6]), (4, [1, 2, 5, 6]), (7, []), (8, []), (9, [1, 2, 5, 6, 8]), (10, [])]) (by dsimp only; decide +kernel) ?_
  simp (config := { maxSteps := 4000000 }) only [go_sem, simprocAttr, ↓dnA, Tryz.f130, rows_length, encT]
  repeat refine And.intro (by first | omega | (simp; done) | (simp; omega) | assumption) ?_
  refine semL_nilVA 3 1 600 6 true (by rfl) (by simp) (by rfl) (by rfl) (by decide) (by decide) ?_
  refine semL_for tab_ok (fun i : Nat => ⟨39, [(1, .loc 1 0), (2, .loc 2 0), (3, .loc 3 0), (4, .int .i64 i)],
      [(1, .var (encT n1 n2 n3 t)), (2, .var [.sl (some false) [], .sl (some false) [], .sl (some false) []]), (3, .var [.row 9 t.base.length, .row 600 i, .row 13 t.before.length]),
        (13, .row true true 1 (rows encI t.before)), (9, .row true true 2 (rows encE t.base)), (600, .row true false 6 (rows encB1 (t.blocks.take i)))]⟩) (fun i => t.blocks.length - i)
    (fun i => i ≤ t.blocks.length) 0 [(1, 1), (2, 2), (3, 3), (9, 9), (13, 13), (600, 600)] (Weak.of (by rfl) ?_ ?_ (by rfl)) (by omega) ?_
  · simp (config := { maxSteps := 4000000 }) only [go_sem, simprocAttr, ↓dnA, Tryz.f130, rows_length, encT, frW, wk2, wk1, wkL, wkB, hpW, List.mem_cons, Prod.mk.injEq, exists_eq_left, exists_eq_right, exists_eq]
    try rfl
  · simp (config := { maxSteps := 4000000 }) only [go_sem, simprocAttr, ↓dnA, Tryz.f130, rows_length, frW, wk2, wk1, wkL, wkB, hpW, List.mem_cons, Prod.mk.injEq, exists_eq_left, exists_eq_right, exists_eq]
  · rintro i hi
    by_cases h : i < t.blocks.length
    · have hb := hx.list _ (List.getElem_mem h)
      have htk : (rows encB1 (t.blocks.take i)).take i = rows encB1 (t.blocks.take i) := by
        rw [List.take_of_length_le]; rw [rows_length, List.length_take]; omega
      have hl : min i t.blocks.length = i := by omega
      have hw : IntKind.i64.wrap ((i : Int) + 1) = ((i + 1 : Nat) : Int) := wsucc h (by omega)
      have c1 := all_rows encA AV.flat (fun _ => rfl) t.blocks[i].list
      have c2 := all_rows encA AV.one (fun _ => rfl) t.blocks[i].list
      have c3 := sz0_rows encA 4 (fun _ => rfl) t.blocks[i].list
      simp (config := { maxSteps := 4000000 }) only [go_sem, simprocAttr, ↓dnA, Tryz.f130, rows_length, encT, nlt h, h, rows_get _ _ _ h, encB1, encBk, nn0, List.length_take, hl, htk, hw]
      repeat refine And.intro (by first | omega | (simp; done) | (simp; omega) | assumption) ?_
      refine ⟨i + 1, [(1, 1), (2, 2), (3, 3), (13, 13), (9, 9), (36, 600)], by omega, by dsimp only; omega, Weak.of (by rfl) ?_ ?_ (by rfl)⟩
      · simp (config := { maxSteps := 4000000 }) only [go_sem, simprocAttr, ↓dnA, Tryz.f130, rows_length, encT, frW, wk2, wk1, wkL, wkB, hpW, List.mem_cons, Prod.mk.injEq, exists_eq_left, exists_eq_right, exists_eq]
        rw [take_snoc _ _ h, ← rows_snoc]
        rfl
      · simp (config := { maxSteps := 4000000 }) only [go_sem, simprocAttr, ↓dnA, Tryz.f130, rows_length, frW, wk2, wk1, wkL, wkB, hpW, List.mem_cons, Prod.mk.injEq, exists_eq_left, exists_eq_right, exists_eq]
    · have hi' : i = t.blocks.length := by omega
      subst hi'
      simp (config := { maxSteps := 4000000 }) only [go_sem, simprocAttr, ↓dnA, Tryz.f130, rows_length, encT, nlf h, encTF, List.take_length]

end Go.Proofs.YtmibclbinebnjaaGreat

/- Contracts: copies of worlds, new worlds, their certificates and heads. -/
set_option linter.unusedSimpArgs false
set_option linter.unusedVariables false
set_option maxRecDepth 20000
set_option maxHeartbeats 4000000
namespace Go.Proofs.YtmibclbinebnjaaGreat
open Go Go.RowKit

theorem rows_rep {α : Type} (e : α → List AV) (n : Nat) (x : α) : rows e (List.replicate n x) = List.replicate n (e x) := by simp [rows]
theorem worldOf_wsz (t : Tree) : wsz (worldOf t) ≤ 2 * tsz t + 4 := by
  unfold worldOf
  split
  · show tsz t + (List.replicate 4 (⟨0, 0⟩ : Voter)).length + (List.replicate t.blocks.length (0 : Int)).length ≤ _
    rw [List.length_replicate, List.length_replicate]
    unfold tsz; omega
  · unfold noW wsz tsz; simp [lsum]

theorem c_impl_World_clone (n1 n2 n3 n4 n5 : Option Bool) (w : Wld) (hx : TreeS32 w.tree) (h1 : w.voters.length < 2 ^ 32) (h2 : w.votes.length < 2 ^ 32) :
    Det Tryz.prog 143 [.agg (encW n1 n2 n3 n4 n5 w)] (.agg (encWF w)) := by
  refine fspec_det tab_ok Tryz.call143 Tryz.func143 rfl 13 Tryz.ntmps143 (of_decide_eq_true rfl) fun B => codeK_sound tab_ok _ _ _ ?_
  have a1 := all_rows encI AV.flat (fun _ => rfl) w.votes
  have a2 := all_rows encI AV.one (fun _ => rfl) w.votes
  have a3 := sz0_rows encI 1 (fun _ => rfl) w.votes
  have b1 := all_rows encV AV.flat (fun _ => rfl) w.voters
  have b2 := all_rows encV AV.one (fun _ => rfl) w.voters
  have b3 := sz0_rows encV 2 (fun _ => rfl) w.voters
  unfold encW encWF
  simp (config := { maxSteps := 4000000 }) only [go_sem, simprocAttr, ↓dnA, Tryz.f143, rows_length]
  refine semL_draw tab_ok mixed_ rfl (ord := [(0, []), (1, []), (3, []), (4, []), (6, []), (7, []), (2, [3, 4, 6, 7]), (5, [6, 7]), (8, []), (9, []), (10, [])]) (by dsimp only; decide +kernel) ?_
  simp (config := { maxSteps := 4000000 }) only [go_sem, simprocAttr, ↓dnA, Tryz.f143, rows_length]
  refine CallTo.det (c_impl_Tree_clone n1 n2 n3 w.tree hx) fun _ => ?_
  simp (config := { maxSteps := 4000000 }) only [go_sem, simprocAttr, ↓dnA, Tryz.f143, rows_length, encTF]
  repeat refine And.intro (by first | omega | (simp; done) | (simp; omega) | assumption) ?_
  omega

theorem c_spec_l18Copy (n1 n2 n3 n4 n5 : Option Bool) (w : Wld) (hx : TreeS32 w.tree) (h1 : w.voters.length < 2 ^ 32) (h2 : w.votes.length < 2 ^ 32) :
    Det Tryz.prog 140 [.agg (encW n1 n2 n3 n4 n5 w)] (.agg (encWF w)) := by
  refine fspec_det tab_ok Tryz.call140 Tryz.func140 rfl 15 Tryz.ntmps140 (of_decide_eq_true rfl) fun B => codeK_sound tab_ok _ _ _ ?_
  have a1 := all_rows encI AV.flat (fun _ => rfl) w.votes
  have a2 := all_rows encI AV.one (fun _ => rfl) w.votes
  have a3 := sz0_rows encI 1 (fun _ => rfl) w.votes
  have b1 := all_rows encV AV.flat (fun _ => rfl) w.voters
  have b2 := all_rows encV AV.one (fun _ => rfl) w.voters
  have b3 := sz0_rows encV 2 (fun _ => rfl) w.voters
  unfold encW encWF
  simp (config := { maxSteps := 4000000 }) only [go_sem, simprocAttr, ↓dnA, Tryz.f140, rows_length]
  refine semL_draw tab_ok mixed_ rfl (ord := [(0, []), (1, []), (4, []), (5, []), (8, []), (9, []), (2, [4, 5, 8, 9]), (3, [0, 1, 4, 5, 8, 9]), (6, [8, 9]), (7, [0, 1, 4, 5, 8, 9]), (10, []), (11, []), (12, [])]) (by dsimp only; decide +kernel) ?_
  simp (config := { maxSteps := 4000000 }) only [go_sem, simprocAttr, ↓dnA, Tryz.f140, rows_length]
  refine CallTo.det (c_spec_l13Copy n1 n2 n3 w.tree hx) fun _ => ?_
  simp (config := { maxSteps := 4000000 }) only [go_sem, simprocAttr, ↓dnA, Tryz.f140, rows_length, encTF]
  repeat refine And.intro (by first | omega | (simp; done) | (simp; omega) | assumption) ?_
  omega

theorem c_impl_WorldOf (n1 n2 n3 : Option Bool) (t : Tree) (hx : TreeS32 t) : Det Tryz.prog 56 [.agg (encT n1 n2 n3 t)] (.agg (encWF (worldOf t))) := by
  refine fspec_det tab_ok Tryz.call56 Tryz.func56 rfl 15 Tryz.ntmps56 (of_decide_eq_true rfl) fun B => codeK_sound tab_ok _ _ _ ?_
  unfold worldOf
  have hb := hx.blocks
  simp (config := { maxSteps := 4000000 }) only [go_sem, simprocAttr, ↓dnA, Tryz.f56, rows_length, encT]
  refine CallTo.det (c_impl_BlockTreeValid n1 n2 n3 t hx.sz) fun _ => ?_
  cases h0 : treeValid t with
  | false => simp (config := { maxSteps := 4000000 }) only [go_sem, simprocAttr, ↓dnA, Tryz.f56, rows_length, encT, h0, noW, encWF, rows_nil]
  | true =>
    simp (config := { maxSteps := 4000000 }) only [go_sem, simprocAttr, ↓dnA, Tryz.f56, rows_length, encT, h0]
    refine semL_draw tab_ok mixed_ rfl (ord := [(0, []), (3, []), (4, []), (5, [6]), (1, [3, 4, 5, 6]), (2, [0, 3, 4, 5, 6]), (6, [0]), (7, []), (8, [])]) (by dsimp only; decide +kernel) ?_
    simp (config := { maxSteps := 4000000 }) only [go_sem, simprocAttr, ↓dnA, Tryz.f56, rows_length, encT, h0]
    refine ⟨by omega, ?_⟩
    refine CallTo.det (c_impl_Tree_clone n1 n2 n3 t hx) fun _ => ?_
    simp (config := { maxSteps := 4000000 }) only [go_sem, simprocAttr, ↓dnA, Tryz.f56, rows_length, encT, encTF, h0, encWF, rows_rep, encV, encI, List.length_replicate]
    repeat refine And.intro (by first | omega | (simp; done) | (simp; omega) | assumption) ?_
    rfl

theorem c_spec_WorldOf (n1 n2 n3 : Option Bool) (t : Tree) (hx : TreeS32 t) : Det Tryz.prog 55 [.agg (encT n1 n2 n3 t)] (.agg (encWF (worldOf t))) := by
  refine fspec_det tab_ok Tryz.call55 Tryz.func55 rfl 15 Tryz.ntmps55 (of_decide_eq_true rfl) fun B => codeK_sound tab_ok _ _ _ ?_
  unfold worldOf
  have hb := hx.blocks
  simp (config := { maxSteps := 4000000 }) only [go_sem, simprocAttr, ↓dnA, Tryz.f55, rows_length, encT]
  refine CallTo.det (c_spec_BlockTreeValid n1 n2 n3 t hx.sz) fun _ => ?_
  cases h0 : treeValid t with
  | false => simp (config := { maxSteps := 4000000 }) only [go_sem, simprocAttr, ↓dnA, Tryz.f55, rows_length, encT, h0, noW, encWF, rows_nil]
  | true =>
    simp (config := { maxSteps := 4000000 }) only [go_sem, simprocAttr, ↓dnA, Tryz.f55, rows_length, encT, h0]
    refine semL_draw tab_ok mixed_ rfl (ord := [(0, []), (3, []), (4, []), (5, [6]), (1, [3, 4, 5, 6]), (2, [0, 3, 4, 5, 6]), (6, [0]), (7, []), (8, [])]) (by dsimp only; decide +kernel) ?_
    simp (config := { maxSteps := 4000000 }) only [go_sem, simprocAttr, ↓dnA, Tryz.f55, rows_length, encT, h0]
    refine ⟨by omega, ?_⟩
    refine CallTo.det (c_spec_l13Copy n1 n2 n3 t hx) fun _ => ?_
    simp (config := { maxSteps := 4000000 }) only [go_sem, simprocAttr, ↓dnA, Tryz.f55, rows_length, encT, encTF, h0, encWF, rows_rep, encV, encI, List.length_replicate]
    repeat refine And.intro (by first | omega | (simp; done) | (simp; omega) | assumption) ?_
    rfl

end Go.Proofs.YtmibclbinebnjaaGreat

/- Contracts: what actions read, write and do. -/
set_option linter.unusedSimpArgs false
set_option linter.unusedVariables false
set_option maxRecDepth 20000
set_option maxHeartbeats 4000000
namespace Go.Proofs.YtmibclbinebnjaaGreat
open Go Go.RowKit

section
variable {P : Program} {T : Tab} {B : Base} {ops : Array Oper}

theorem guardAt_addDep (b a j : Nat) : guardAt (addDep ops b a).toList j = guardAt ops.toList j := by
  unfold guardAt
  rw [Array.getElem?_toList, Array.getElem?_toList, addDep_get]
  by_cases h : j = b
  · rw [if_pos h]; cases ops[j]? <;> rfl
  · rw [if_neg h]

theorem stillStep_addDep (b a : Nat) (o : Oper) (s : AState) (Φ : AState → Prop) : stillStep T (addDep ops b a).toList o s Φ = stillStep T ops.toList o s Φ := by
  unfold stillStep
  simp only [guardAt_addDep]
theorem stepK_addDep (b a : Nat) (o : Oper) (s : AState) (Φ : AState → Prop) : stepK P T (addDep ops b a).toList o s Φ = stepK P T ops.toList o s Φ := by
  unfold stepK
  simp only [guardAt_addDep]

theorem recheck_addDep (b a : Nat) (s : AState) : ∀ re : List Nat, recheck T (addDep ops b a).toList s re = recheck T ops.toList s re
  | [] => rfl
  | x :: r => by
    unfold recheck
    rw [recheck_addDep b a s r, Array.getElem?_toList, Array.getElem?_toList, addDep_get]
    simp only [stillStep_addDep]
    by_cases h : x = b
    · rw [if_pos h]; cases ops[x]? <;> rfl
    · rw [if_neg h]

theorem drawK_addDep (b a : Nat) (Φ : AState → Prop) : ∀ (ord : List (Nat × List Nat)) (s : AState), drawK P T (addDep ops b a).toList Φ ord s = drawK P T ops.toList Φ ord s
  | [], s => rfl
  | (i, re) :: rest, s => by
    unfold drawK
    simp only [recheck_addDep, drawK_addDep b a Φ rest, Array.getElem?_toList, addDep_get, stillStep_addDep, stepK_addDep]
    by_cases h : i = b
    · rw [if_pos h]; cases ops[i]? <;> rfl
    · rw [if_neg h]

/-- As 'semL_two', the region's own operations in sight. -/
theorem semL_two' (hT : TabOk P T) {Kx : Exit → AState → Prop} {s : AState} {id n : Nat} (a b : Nat) {ord1 ord2 : List (Nat × List Nat)} (hm : P.follows .mixedOrders = true) (hn : s.nt = n) (hab : a ≠ b)
    (hk1 : drawOkS (rkS (0, 0)) T (addDep ops b a) n ord1 = true) (hk2 : drawOkS (rkS (a, b)) T (addDep ops a b) n ord2 = true)
    (h : drawK P T ops.toList (Kx .normal) ord1 s ∧ drawK P T ops.toList (Kx .normal) ord2 s) : @SemL P B (.region id ops true) s ⟨Kx⟩ :=
  semL_two hT a b hm hn hab hk1 hk2 (by rw [drawK_addDep]; exact h.1) (by rw [drawK_addDep]; exact h.2)
end

/-- The value of a key. -/
def valK (v : List Int) (k : Int) : Int := v.getD k.toNat 0

theorem cellsI_at (v : List Int) (k : Int) (h0 : 0 ≤ k) (h : k.toNat < v.length) (o n : Nat) (ho : o = k.toNat) (hn : n = 1) : (((cellsI v).drop o).take n).getD 0 .top = .int .i64 (valK v k) := by
  subst ho; subst hn
  have : ((cellsI v).drop k.toNat).take 1 = [(cellsI v).getD k.toNat .top] := by
    rw [List.getD_eq_getElem?_getD, List.getElem?_eq_getElem (by rw [cellsI_length]; exact h), List.drop_eq_getElem_cons (by rw [cellsI_length]; exact h)]
    rfl
  rw [this, cellsI_get _ _ _ h]
  rfl

def readsA (a : Action) : List Int := if a.kind = 1 then [] else if a.kind = 3 ∨ a.kind = 6 ∨ a.fr = a.to then [a.fr] else [a.fr, a.to]
def writesA (a : Action) : List Int := if a.kind = 1 ∨ a.kind = 6 then [a.fr] else if a.kind = 3 ∨ a.kind = 5 ∨ a.fr = a.to then [a.to] else [min a.fr a.to, max a.fr a.to]

theorem c_impl_reads (a : Action) : Det Tryz.prog 241 [.agg (encA a)] (.osl false 1 (rows encI (readsA a))) := by
  refine fspec_det tab_ok Tryz.call241 Tryz.func241 rfl 31 Tryz.ntmps241 (of_decide_eq_true rfl) fun B => codeK_sound tab_ok _ _ _ ?_
  unfold encA readsA
  by_cases h1 : a.kind = 1
  · have e1 : (a.kind == 1) = true := by simp [h1]
    simp (config := { maxSteps := 4000000 }) only [go_sem, simprocAttr, ↓dnA, Tryz.f241, e1, h1, rows_nil]
  · have e1 : (a.kind == 1) = false := by simp [h1]
    by_cases h3 : a.kind = 3
    · have e3 : (a.kind == 3) = true := by simp [h3]
      simp (config := { maxSteps := 4000000 }) only [go_sem, simprocAttr, ↓dnA, Tryz.f241, e1, h1, e3, h3, rows, encI]
    · have e3 : (a.kind == 3) = false := by simp [h3]
      by_cases h6 : a.kind = 6
      · have e6 : (a.kind == 6) = true := by simp [h6]
        simp (config := { maxSteps := 4000000 }) only [go_sem, simprocAttr, ↓dnA, Tryz.f241, e1, h1, e3, h3, e6, h6, rows, encI]
      · have e6 : (a.kind == 6) = false := by simp [h6]
        by_cases hf : a.fr = a.to
        · have ef : (a.fr == a.to) = true := by simp [hf]
          simp (config := { maxSteps := 4000000 }) only [go_sem, simprocAttr, ↓dnA, Tryz.f241, e1, h1, e3, h3, e6, h6, ef, hf, rows, encI]
        · have ef : (a.fr == a.to) = false := by simp [hf]
          simp (config := { maxSteps := 4000000 }) only [go_sem, simprocAttr, ↓dnA, Tryz.f241, e1, h1, e3, h3, e6, h6, ef, hf, rows, encI]

theorem min_if (a b : Int) : (if b < a then b else a) = min a b := by
  rw [Int.min_def]; split <;> split <;> omega
theorem max_if2 (a b : Int) : (if b > a then b else a) = max a b := by
  rw [Int.max_def]; split <;> split <;> omega

theorem c_impl_writes (a : Action) : Det Tryz.prog 243 [.agg (encA a)] (.osl false 1 (rows encI (writesA a))) := by
  refine fspec_det tab_ok Tryz.call243 Tryz.func243 rfl 45 Tryz.ntmps243 (of_decide_eq_true rfl) fun B => codeK_sound tab_ok _ _ _ ?_
  unfold encA writesA
  by_cases h1 : a.kind = 1
  · have e1 : (a.kind == 1) = true := by simp [h1]
    simp (config := { maxSteps := 4000000 }) only [go_sem, simprocAttr, ↓dnA, Tryz.f243, e1, h1, rows, encI]
  · have e1 : (a.kind == 1) = false := by simp [h1]
    by_cases h6 : a.kind = 6
    · have e6 : (a.kind == 6) = true := by simp [h6]
      simp (config := { maxSteps := 4000000 }) only [go_sem, simprocAttr, ↓dnA, Tryz.f243, e1, h1, e6, h6, rows, encI]
    · have e6 : (a.kind == 6) = false := by simp [h6]
      by_cases h3 : a.kind = 3
      · have e3 : (a.kind == 3) = true := by simp [h3]
        simp (config := { maxSteps := 4000000 }) only [go_sem, simprocAttr, ↓dnA, Tryz.f243, e1, h1, e3, h3, e6, h6, rows, encI]
      · have e3 : (a.kind == 3) = false := by simp [h3]
        by_cases h5 : a.kind = 5
        · have e5 : (a.kind == 5) = true := by simp [h5]
          simp (config := { maxSteps := 4000000 }) only [go_sem, simprocAttr, ↓dnA, Tryz.f243, e1, h1, e3, h3, e5, h5, e6, h6, rows, encI]
        · have e5 : (a.kind == 5) = false := by simp [h5]
          by_cases hf : a.fr = a.to
          · have ef : (a.fr == a.to) = true := by simp [hf]
            simp (config := { maxSteps := 4000000 }) only [go_sem, simprocAttr, ↓dnA, Tryz.f243, e1, h1, e3, h3, e5, h5, e6, h6, ef, hf, rows, encI]
          · have ef : (a.fr == a.to) = false := by simp [hf]
            simp (config := { maxSteps := 4000000 }) only [go_sem, simprocAttr, ↓dnA, Tryz.f243, e1, h1, e3, h3, e5, h5, e6, h6, ef, hf, rows, encI, min_if, max_if2]

/-- Is an action done, with these values of From and To. -/
def doneA (a : Action) (f t : Int) : Bool :=
  if a.kind = 5 then decide (f + t ≤ 1000000) else if a.kind = 2 then (if a.fr = a.to then decide (f ≥ a.amount) else decide (f ≥ a.amount) && decide (t + a.amount ≤ 1000000)) else true
/-- The new value of a key that an action writes. -/
def newV (a : Action) (f t k : Int) : Int :=
  if a.kind = 1 then a.amount else if a.kind = 6 then max 0 (f - a.amount) else if a.kind = 3 then f else if a.kind = 5 then f + t else
    if a.kind = 4 then (if k = a.to then f else t) else if a.fr = a.to then f else if k = a.to then t + a.amount else f - a.amount

def ResQ (a : Action) (f t : Int) (r : AV) (b : List AV) : Prop := ∃ n D, r = .tup [.mp Tryz.prog 3 3 n D, .bool (doneA a f t)] ∧ b = [] ∧
  ∀ k, k ∈ writesA a → DataW.atKey D (.int .i64 k) (.lit (.int .i64 0)) = .lit (.int .i64 (newV a f t k))

structure ActOk (a : Action) : Prop where
  fr : 0 ≤ a.fr ∧ a.fr ≤ 31
  to : 0 ≤ a.to ∧ a.to ≤ 31
  amount : 0 ≤ a.amount ∧ a.amount ≤ 1000000
  kind : a.kind = 1 ∨ a.kind = 2 ∨ a.kind = 3 ∨ a.kind = 4 ∨ a.kind = 5 ∨ a.kind = 6
  z : a.kind = 1 ∨ a.kind = 6 → a.to = 0

theorem actOk_of {a : Action} (h : actionValid a = true) : ActOk a := by
  unfold actionValid at h
  simp only [Bool.and_eq_true] at h
  obtain ⟨⟨⟨h1, h2⟩, h3⟩, h4⟩ := h
  refine ⟨inB_iff.1 h1, inB_iff.1 h2, inB_iff.1 h3, ?_, ?_⟩
  · have := kindOk_bd h4; omega
  · intro hk
    unfold kindOk at h4
    rw [if_pos (by rcases hk with h | h <;> simp [h])] at h4
    simpa using h4

def ValsOk (v : List Int) : Prop := v.length = 32 ∧ ∀ k : Nat, 0 ≤ v.getD k 0 ∧ v.getD k 0 ≤ 1000000

theorem ValsOk.at {v : List Int} (h : ValsOk v) (k : Int) : 0 ≤ valK v k ∧ valK v k ≤ 1000000 := h.2 _

open Go.Maps in
theorem put_same (D : DataW Unit) (hD : IsMap D) (k x : Int) : DataW.atKey (D.put (.int .i64 k) (.lit (.int .i64 x))) (.int .i64 k) (.lit (.int .i64 0)) = .lit (.int .i64 x) := atKey_put_same hD (by trivial) _ _
open Go.Maps in
theorem put_other (D : DataW Unit) (k j : Int) (x : DataW Unit) (h : j ≠ k) : DataW.atKey (D.put (.int .i64 k) x) (.int .i64 j) (.lit (.int .i64 0)) = DataW.atKey D (.int .i64 j) (.lit (.int .i64 0)) := atKey_put_other (by intro e; cases e; exact h rfl) _ _

open Go.Maps in
theorem put1 (k x : Int) : DataW.atKey ((DataW.map [] : DataW Unit).put (.int .i64 k) (.lit (.int .i64 x))) (.int .i64 k) (.lit (.int .i64 0)) = .lit (.int .i64 x) := put_same _ isMap_empty _ _
open Go.Maps in
theorem put2 (a b x y k : Int) (hk : k = a ∨ k = b) : DataW.atKey (((DataW.map [] : DataW Unit).put (.int .i64 a) (.lit (.int .i64 x))).put (.int .i64 b) (.lit (.int .i64 y))) (.int .i64 k) (.lit (.int .i64 0)) = .lit (.int .i64 (if k = b then y else x)) := by
  by_cases h : k = b
  · subst h; rw [if_pos rfl]; exact put_same _ (isMap_empty.put _ _) _ _
  · rw [if_neg h, put_other _ _ _ _ h]
    rcases hk with rfl | rfl
    · exact put1 _ _
    · exact absurd rfl h

theorem mem_writes {a : Action} {k : Int} (h : k ∈ writesA a) : k = a.fr ∨ k = a.to := by
  unfold writesA at h
  split at h
  · simp at h; exact .inl h
  · split at h
    · simp at h; exact .inr h
    · simp at h
      rcases h with h | h
      · rw [Int.min_def] at h; split at h <;> simp [h]
      · rw [Int.max_def] at h; split at h <;> simp [h]

theorem c_impl_result (a : Action) (v : List Int) (ha : ActOk a) (hv : ValsOk v) : FSpec Tryz.prog 242 [.agg (encA a), .agg (cellsI v)] false [] (ResQ a (valK v a.fr) (valK v a.to)) := by
  refine fspec_rel tab_ok Tryz.call242 Tryz.func242 rfl 106 Tryz.ntmps242 (of_decide_eq_true rfl) fun B => codeK_sound tab_ok _ _ _ ?_
  have cl : (cellsI v).length = 32 := by rw [cellsI_length, hv.1]
  have hfr := ha.fr
  have hto := ha.to
  have ham := ha.amount
  have hf := hv.at a.fr
  have ht := hv.at a.to
  have g1 := cellsI_at v a.fr hfr.1 (by rw [hv.1]; omega) a.fr.toNat 1 rfl rfl
  have g2 := cellsI_at v a.to hto.1 (by rw [hv.1]; omega) a.to.toNat 1 rfl rfl
  simp (config := { maxSteps := 4000000 }) only [go_sem, simprocAttr, ↓dnA, Tryz.f242, encA]
  refine semL_draw tab_ok mixed_ rfl (ord := [(0, []), (1, []), (2, []), (3, []), (4, []), (5, []), (6, []), (7, []), (8, []), (9, [])]) (by dsimp only; decide +kernel) ?_
  obtain ⟨kd, fr, to, am⟩ := a
  dsimp only at hfr hto ham hf ht g1 g2 ⊢
  have hkd := ha.kind
  have hz := ha.z
  dsimp only at hkd hz
  have w1 : IntKind.i64.wrap (valK v fr - am) = valK v fr - am := wrap_small _ (by omega) (by omega)
  have w2 : IntKind.i64.wrap (valK v fr + valK v to) = valK v fr + valK v to := wrap_small _ (by omega) (by omega)
  have w3 : IntKind.i64.wrap (valK v to + am) = valK v to + am := wrap_small _ (by omega) (by omega)
  rcases hkd with rfl | rfl | rfl | rfl | rfl | rfl
  · simp (config := { maxSteps := 4000000 }) only [go_sem, simprocAttr, ↓dnA, Tryz.f242, cl, g1, g2, Nat.mul_one, w1, w2, w3]
    repeat refine And.intro (by first | omega | (simp; done) | (simp; omega) | assumption) ?_
    refine ExitR.same ⟨_, _, rfl, rfl, fun k hk => ?_⟩
    have hk : k = fr := by simpa [writesA] using hk
    subst hk
    exact put1 _ _
  · by_cases he : fr = to
    · subst he
      have e1 : (fr == fr) = true := by simp
      simp (config := { maxSteps := 4000000 }) only [go_sem, simprocAttr, ↓dnA, Tryz.f242, cl, g1, g2, Nat.mul_one, w1, w2, w3, e1]
      repeat refine And.intro (by first | omega | (simp; done) | (simp; omega) | assumption) ?_
      refine semL_draw tab_ok mixed_ rfl (ord := [(1, []), (2, []), (3, []), (6, []), (7, []), (8, []), (9, []), (0, [1, 2, 3, 6, 7, 8, 9]), (4, [6, 7, 8, 9]), (5, []), (10, []), (11, [])]) (by dsimp only; decide +kernel) ?_
      simp (config := { maxSteps := 4000000 }) only [go_sem, simprocAttr, ↓dnA, Tryz.f242, cl, g1, g2, Nat.mul_one, w1, w2, w3]
      repeat refine And.intro (by first | omega | (simp; done) | (simp; omega) | assumption) ?_
      have hd : decide (valK v fr ≥ am) = doneA ⟨2, fr, fr, am⟩ (valK v fr) (valK v fr) := by simp [doneA]
      rw [hd]
      refine ExitR.same ⟨_, _, rfl, rfl, fun k hk => ?_⟩
      have hk : k = fr := by simpa [writesA] using hk
      subst hk
      rw [put1]
      simp [newV]
    · have e1 : (fr == to) = false := by simp [he]
      have hdn : ∀ c1, decide (valK v fr ≥ am) = c1 → ∀ c2, decide (valK v to + am ≤ 1000000) = c2 → doneA ⟨2, fr, to, am⟩ (valK v fr) (valK v to) = (c1 && c2) := by
        intro c1 h1 c2 h2
        subst h1; subst h2
        simp [doneA, he]
      have hnv : ∀ k, newV ⟨2, fr, to, am⟩ (valK v fr) (valK v to) k = if k = to then valK v to + am else valK v fr - am := by
        intro k; simp [newV, he]
      simp (config := { maxSteps := 4000000 }) only [go_sem, simprocAttr, ↓dnA, Tryz.f242, cl, g1, g2, Nat.mul_one, w1, w2, w3, e1]
      repeat refine And.intro (by first | omega | (simp; done) | (simp; omega) | assumption) ?_
      refine semL_two' tab_ok 7 14 mixed_ rfl (by decide) (ord1 := [(1, []), (2, []), (3, []), (4, []), (5, []), (6, []), (8, []), (9, []), (10, []), (11, []), (12, []), (13, []), (16, []), (17, []), (18, []), (19, []), (20, []), (21, []), (22, []), (23, []), (24, []), (25, []), (26, []), (0, [1, 2, 3, 4, 5, 6, 8, 9, 10, 11, 12, 13, 16, 17, 18, 19, 20, 21, 22, 23, 24, 25, 26]), (7, [8, 9, 10, 11, 12, 13, 16, 17, 18, 19, 20, 21, 22, 23, 24, 25, 26]), (14, [16, 17, 18, 19, 20, 21, 22, 23, 24, 25, 26]), (15, []), (27, []), (28, [])]) (ord2 := [(1, []), (2, []), (3, []), (4, []), (5, []), (6, []), (8, []), (9, []), (10, []), (11, []), (12, []), (13, []), (16, []), (17, []), (18, []), (19, []), (20, []), (21, []), (22, []), (23, []), (24, []), (25, []), (26, []), (0, [1, 2, 3, 4, 5, 6, 8, 9, 10, 11, 12, 13, 16, 17, 18, 19, 20, 21, 22, 23, 24, 25, 26]), (14, [1, 2, 3, 4, 5, 6, 16, 17, 18, 19, 20, 21, 22, 23, 24, 25, 26]), (7, [16, 17, 18, 19, 20, 21, 22, 23, 24, 25, 26]), (15, []), (27, []), (28, [])]) (by dsimp only; decide +kernel) (by dsimp only; decide +kernel) ?_
      cases h1 : decide (valK v fr ≥ am) with
      | false =>
        have hd := hdn _ h1 _ rfl
        simp (config := { maxSteps := 4000000 }) only [go_sem, simprocAttr, ↓dnA, Tryz.f242, cl, g1, g2, Nat.mul_one, w1, w2, w3, h1]
        refine ⟨?_, ?_⟩
        all_goals repeat refine And.intro (by first | omega | (simp; done) | (simp; omega) | assumption) ?_
        all_goals refine ExitR.same ⟨_, _, by rw [hd]; rfl, rfl, fun k hk => ?_⟩
        all_goals (rw [put2 _ _ _ _ _ (by have := mem_writes hk; dsimp only at this; omega), hnv])
        all_goals (rcases mem_writes hk with e | e <;> dsimp only at e <;> subst e <;> simp [he, Ne.symm he])
      | true =>
        have hd := hdn _ h1 _ rfl
        simp (config := { maxSteps := 4000000 }) only [go_sem, simprocAttr, ↓dnA, Tryz.f242, cl, g1, g2, Nat.mul_one, w1, w2, w3, h1]
        refine ⟨?_, ?_⟩
        all_goals repeat refine And.intro (by first | omega | (simp; done) | (simp; omega) | assumption) ?_
        all_goals refine ExitR.same ⟨_, _, by rw [hd]; rfl, rfl, fun k hk => ?_⟩
        all_goals (rw [put2 _ _ _ _ _ (by have := mem_writes hk; dsimp only at this; omega), hnv])
        all_goals (rcases mem_writes hk with e | e <;> dsimp only at e <;> subst e <;> simp [he, Ne.symm he])
  · simp (config := { maxSteps := 4000000 }) only [go_sem, simprocAttr, ↓dnA, Tryz.f242, cl, g1, g2, Nat.mul_one, w1, w2, w3]
    repeat refine And.intro (by first | omega | (simp; done) | (simp; omega) | assumption) ?_
    refine ExitR.same ⟨_, _, rfl, rfl, fun k hk => ?_⟩
    have hk : k = to := by simpa [writesA] using hk
    subst hk
    exact put1 _ _
  · have hnv : ∀ k, newV ⟨4, fr, to, am⟩ (valK v fr) (valK v to) k = if k = to then valK v fr else valK v to := by
      intro k; simp [newV]
    simp (config := { maxSteps := 4000000 }) only [go_sem, simprocAttr, ↓dnA, Tryz.f242, cl, g1, g2, Nat.mul_one, w1, w2, w3]
    repeat refine And.intro (by first | omega | (simp; done) | (simp; omega) | assumption) ?_
    refine semL_two' tab_ok 4 8 mixed_ rfl (by decide) (ord1 := [(1, []), (2, []), (3, []), (5, []), (6, []), (7, []), (0, [1, 2, 3, 5, 6, 7]), (4, [5, 6, 7]), (8, []), (9, []), (10, []), (11, [])]) (ord2 := [(1, []), (2, []), (3, []), (5, []), (6, []), (7, []), (0, [1, 2, 3, 5, 6, 7]), (8, [1, 2, 3]), (4, []), (9, []), (10, []), (11, [])]) (by dsimp only; decide +kernel) (by dsimp only; decide +kernel) ?_
    simp (config := { maxSteps := 4000000 }) only [go_sem, simprocAttr, ↓dnA, Tryz.f242, cl, g1, g2, Nat.mul_one, w1, w2, w3]
    refine ⟨?_, ?_⟩
    all_goals repeat refine And.intro (by first | omega | (simp; done) | (simp; omega) | assumption) ?_
    all_goals refine ExitR.same ⟨_, _, rfl, rfl, fun k hk => ?_⟩
    all_goals (rw [put2 _ _ _ _ _ (by have := mem_writes hk; dsimp only at this; omega), hnv])
    all_goals (rcases mem_writes hk with e | e <;> dsimp only at e <;> subst e <;> simp)
    all_goals (intro h; subst h; rfl)
  · simp (config := { maxSteps := 4000000 }) only [go_sem, simprocAttr, ↓dnA, Tryz.f242, cl, g1, g2, Nat.mul_one, w1, w2, w3]
    repeat refine And.intro (by first | omega | (simp; done) | (simp; omega) | assumption) ?_
    refine ExitR.same ⟨_, _, rfl, rfl, fun k hk => ?_⟩
    have hk : k = to := by simpa [writesA] using hk
    subst hk
    exact put1 _ _
  · simp (config := { maxSteps := 4000000 }) only [go_sem, simprocAttr, ↓dnA, Tryz.f242, cl, g1, g2, Nat.mul_one, w1, w2, w3]
    repeat refine And.intro (by first | omega | (simp; done) | (simp; omega) | assumption) ?_
    refine ExitR.same ⟨_, _, rfl, rfl, fun k hk => ?_⟩
    have hk : k = fr := by simpa [writesA] using hk
    subst hk
    rw [put1]
    simp only [newV, if_neg (show ¬((6:Int) = 1) by omega), if_true]
    congr 2
    rw [Int.max_def]
    split <;> split <;> omega

end Go.Proofs.YtmibclbinebnjaaGreat

/- Contracts: running one action. -/
set_option linter.unusedSimpArgs false
set_option linter.unusedVariables false
set_option maxRecDepth 20000
set_option maxHeartbeats 4000000
namespace Go.Proofs.YtmibclbinebnjaaGreat
open Go Go.RowKit

theorem cellsI_noT (Tb : Nat → Prop) : ∀ v : List Int, noT Tb (cellsI v) = True
  | [] => rfl
  | x :: v => cellsI_noT Tb v
theorem cellsI_argL (s : AState) : ∀ (v : List Int) (K : List AV → Bool → Prop), argL s (cellsI v) K = K (cellsI v) false
  | [], K => rfl
  | x :: v, K => by
    show argC s (.int .i64 x) (fun c' u => argL s (cellsI v) fun cs' us => K (c' :: cs') (u || us)) = _
    rw [show (fun (c' : AV) (u : Bool) => argL s (cellsI v) fun cs' us => K (c' :: cs') (u || us)) = fun c' u => K (c' :: cellsI v) (u || false) from funext fun c' => funext fun u => cellsI_argL s v _]
    rfl

/-- The effect of an action. -/
def runE (a : Action) (v : List Int) : Effect := ⟨doneA a (valK v a.fr) (valK v a.to), (readsA a).map fun k => ⟨k, valK v k⟩, if doneA a (valK v a.fr) (valK v a.to) then (writesA a).map fun k => ⟨k, newV a (valK v a.fr) (valK v a.to) k⟩ else []⟩
def encFO (e : Effect) : List AV := [.bool e.done, .osl false 2 (rows encE e.reads), .osl false 2 (rows encE e.writes)]

theorem readsA_len (a : Action) : (readsA a).length ≤ 2 := by
  unfold readsA; split <;> (try split) <;> simp
theorem writesA_len (a : Action) : (writesA a).length ≤ 2 := by
  unfold writesA; split <;> (try split) <;> simp
theorem mem_reads {a : Action} {k : Int} (h : k ∈ readsA a) : k = a.fr ∨ k = a.to := by
  unfold readsA at h
  split at h
  · simp at h
  · split at h
    · simp at h; exact .inl h
    · simpa using h

theorem c_impl_run (a : Action) (v : List Int) (ha : ActOk a) (hv : ValsOk v) : Det Tryz.prog 236 [.agg (encA a), .agg (cellsI v)] (.agg (encFO (runE a v))) := by
  refine fspec_det tab_ok Tryz.call236 Tryz.func236 rfl 58 Tryz.ntmps236 (of_decide_eq_true rfl) fun B => codeK_sound tab_ok _ _ _ ?_
  have cl : (cellsI v).length = 32 := by rw [cellsI_length, hv.1]
  have hfr := ha.fr
  have hto := ha.to
  have h2 := readsA_len a
  have h3 := writesA_len a
  simp (config := { maxSteps := 4000000 }) only [go_sem, simprocAttr, ↓dnA, Tryz.f236, rows_length, cl, encA]
  refine CallTo.det (c_impl_reads a) fun _ => ?_
  simp (config := { maxSteps := 4000000 }) only [go_sem, simprocAttr, ↓dnA, Tryz.f236, rows_length, cl, encA]
  refine semL_nilVA 5 1 600 2 true (by rfl) (by simp) (by rfl) (by rfl) (by decide) (by decide) ?_
  generalize hrs : readsA a = rs at h2
  have hmr : ∀ k, k ∈ rs → k = a.fr ∨ k = a.to := fun k hk => mem_reads (by rw [hrs]; exact hk)
  refine semL_for tab_ok (fun i : Nat => ⟨58, [(2, .loc 2 0), (3, .loc 3 0), (4, .loc 4 0), (5, .loc 5 0), (13, .row 14000 rs.length), (14, .int .i64 rs.length), (15, .int .i64 i)],
      [(14000, .row true false 1 (rows encI rs)), (5, .var [.bool false, .row 600 i, .sl (some false) []]), (4, .var [.bool false, .sl (some false) [], .sl (some false) []]), (3, .var (cellsI v)), (2, .var (encA a)),
        (600, .row true false 2 (rows encE ((rs.take i).map fun k => ⟨k, valK v k⟩)))]⟩) (fun i => rs.length - i)
    (fun i => i ≤ rs.length) 0 [(2, 2), (3, 3), (4, 4), (5, 5), (14000, 14000), (600, 600)] (Weak.of (by rfl) ?_ ?_ (by rfl)) (by omega) ?_
  · simp (config := { maxSteps := 4000000 }) only [go_sem, simprocAttr, ↓dnA, Tryz.f236, rows_length, encA, cellsI_wk, frW, wk2, wk1, wkL, wkB, hpW, List.mem_cons, Prod.mk.injEq, exists_eq_left, exists_eq_right, exists_eq]
    try rfl
  · simp (config := { maxSteps := 4000000 }) only [go_sem, simprocAttr, ↓dnA, Tryz.f236, rows_length, encA, cellsI_wk, frW, wk2, wk1, wkL, wkB, hpW, List.mem_cons, Prod.mk.injEq, exists_eq_left, exists_eq_right, exists_eq]
  · rintro i hi
    by_cases h : i < rs.length
    · have hk := hmr _ (List.getElem_mem h)
      have hb : 0 ≤ rs[i] ∧ rs[i] < 32 := by rcases hk with e | e <;> rw [e] <;> omega
      have hb1 := hb.1
      have hb2 := hb.2
      have g1 := cellsI_at v rs[i] hb.1 (by rw [hv.1]; omega) rs[i].toNat 1 rfl rfl
      have htk : (rows encE ((rs.take i).map fun k => (⟨k, valK v k⟩ : Entry))).take i = rows encE ((rs.take i).map fun k => ⟨k, valK v k⟩) := by
        rw [List.take_of_length_le]; rw [rows_length, List.length_map, List.length_take]; omega
      have hl : min i rs.length = i := by omega
      have hw : IntKind.i64.wrap ((i : Int) + 1) = ((i + 1 : Nat) : Int) := wsucc h (by omega)
      simp (config := { maxSteps := 4000000 }) only [go_sem, simprocAttr, ↓dnA, Tryz.f236, rows_length, nlt h, rows_get _ _ _ h, encI, nn0]
      refine ⟨h, ?_⟩
      refine semL_draw tab_ok mixed_ rfl (ord := [(0, []), (1, []), (2, []), (3, []), (4, []), (5, []), (6, []), (7, [0, 1]), (8, []), (9, []), (10, [])]) (by dsimp only; decide +kernel) ?_
      simp (config := { maxSteps := 4000000 }) only [go_sem, simprocAttr, ↓dnA, Tryz.f236, rows_length, List.length_take, List.length_map, hl, htk, hw, cl, g1, hb1, hb2, Nat.mul_one]
      repeat refine And.intro (by first | omega | (simp; done) | (simp; omega) | assumption) ?_
      refine ⟨i + 1, [(2, 2), (3, 3), (4, 4), (5, 5), (14000, 14000), (27, 600)], by omega, by dsimp only; omega, Weak.of (by rfl) ?_ ?_ (by rfl)⟩
      · simp (config := { maxSteps := 4000000 }) only [go_sem, simprocAttr, ↓dnA, Tryz.f236, rows_length, encA, cellsI_wk, frW, wk2, wk1, wkL, wkB, hpW, List.mem_cons, Prod.mk.injEq, exists_eq_left, exists_eq_right, exists_eq]
        rw [take_snoc _ _ h, List.map_append, List.map_singleton, ← rows_snoc]
        rfl
      · simp (config := { maxSteps := 4000000 }) only [go_sem, simprocAttr, ↓dnA, Tryz.f236, rows_length, encA, cellsI_wk, frW, wk2, wk1, wkL, wkB, hpW, List.mem_cons, Prod.mk.injEq, exists_eq_left, exists_eq_right, exists_eq]
    · have hi' : i = rs.length := by omega
      subst hi'
      have hct : (cellsI v).take 32 = cellsI v := cellsI_take _ 32 hv.1
      simp (config := { maxSteps := 4000000 }) only [go_sem, simprocAttr, ↓dnA, Tryz.f236, rows_length, nlf h, encA, cl, hct, cellsI_noT, cellsI_argL]
      refine CallTo.of (c_impl_result a v ha hv) ?_
      rintro r ls ⟨n, D, rfl, rfl, hD⟩
      have hrd : (runE a v).reads = rs.map fun k => ⟨k, valK v k⟩ := by rw [← hrs]; rfl
      cases hdn : doneA a (valK v a.fr) (valK v a.to) with
      | false =>
        have hwr : (runE a v).writes = [] := by unfold runE; rw [hdn]; rfl
        have hde : (runE a v).done = false := hdn
        simp (config := { maxSteps := 4000000 }) only [go_sem, simprocAttr, ↓dnA, Tryz.f236, rows_length, nlf h, encA, cl, hdn, encFO, hwr, hrd, hde, List.length_map, rows_nil]
      | true =>
        have hwr : (runE a v).writes = (writesA a).map fun k => ⟨k, newV a (valK v a.fr) (valK v a.to) k⟩ := by unfold runE; rw [hdn]; rfl
        have hde : (runE a v).done = true := hdn
        simp (config := { maxSteps := 4000000 }) only [go_sem, simprocAttr, ↓dnA, Tryz.f236, rows_length, nlf h, encA, cl, hdn]
        refine CallTo.det (c_impl_writes a) fun _ => ?_
        simp (config := { maxSteps := 4000000 }) only [go_sem, simprocAttr, ↓dnA, Tryz.f236, rows_length, nlf h, encA, cl]
        refine semL_nilVA 5 2 601 2 true (by rfl) (by simp) (by rfl) (by rfl) (by decide) (by decide) ?_
        generalize hws : writesA a = ws at h3 hD hwr
        generalize hnw : (fun k => (⟨k, newV a (valK v a.fr) (valK v a.to) k⟩ : Entry)) = nw at hwr
        refine semL_for tab_ok (fun i : Nat => ⟨58, [(4, .loc 4 0), (5, .loc 5 0), (8, .mp Tryz.prog 3 3 n D), (40, .row 41000 ws.length), (41, .int .i64 ws.length), (42, .int .i64 i)],
            [(41000, .row true false 1 (rows encI ws)), (5, .var [.bool true, .row 600 rs.length, .row 601 i]), (4, .var [.bool false, .sl (some false) [], .sl (some false) []]),
              (600, .row true false 2 (rows encE (rs.map fun k => ⟨k, valK v k⟩))), (601, .row true false 2 (rows encE ((ws.take i).map nw)))]⟩) (fun i => ws.length - i)
          (fun i => i ≤ ws.length) 0 [(4, 4), (5, 5), (41000, 41000), (600, 600), (601, 601)] (Weak.of (by rfl) ?_ ?_ (by rfl)) (by omega) ?_
        · simp (config := { maxSteps := 4000000 }) only [go_sem, simprocAttr, ↓dnA, Tryz.f236, rows_length, encA, cellsI_wk, frW, wk2, wk1, wkL, wkB, hpW, List.mem_cons, Prod.mk.injEq, exists_eq_left, exists_eq_right, exists_eq]
          try rfl
        · simp (config := { maxSteps := 4000000 }) only [go_sem, simprocAttr, ↓dnA, Tryz.f236, rows_length, encA, cellsI_wk, frW, wk2, wk1, wkL, wkB, hpW, List.mem_cons, Prod.mk.injEq, exists_eq_left, exists_eq_right, exists_eq]
        · rintro i hi
          by_cases h : i < ws.length
          · have hk := hD _ (List.getElem_mem h)
            have htk : (rows encE ((ws.take i).map nw)).take i = rows encE ((ws.take i).map nw) := by
              rw [List.take_of_length_le]; rw [rows_length, List.length_map, List.length_take]; omega
            have hl : min i ws.length = i := by omega
            have hw : IntKind.i64.wrap ((i : Int) + 1) = ((i + 1 : Nat) : Int) := wsucc h (by omega)
            simp (config := { maxSteps := 4000000 }) only [go_sem, simprocAttr, ↓dnA, Tryz.f236, rows_length, nlt h, h, rows_get _ _ _ h, encI, nn0, List.length_take, List.length_map, hl, htk, hw, hk]
            have hkw := mem_writes (a := a) (by rw [hws]; exact List.getElem_mem h)
            have hb : 0 ≤ ws[i] ∧ ws[i] < 32 := by rcases hkw with e | e <;> rw [e] <;> omega
            refine ⟨by omega, fun c hc => ?_⟩
            cases hc
            repeat refine And.intro (by first | omega | (simp; done) | (simp; omega) | assumption) ?_
            refine ⟨i + 1, [(4, 4), (5, 5), (41000, 41000), (600, 600), (54, 601)], by omega, by dsimp only; omega, Weak.of (by rfl) ?_ ?_ (by rfl)⟩
            · simp (config := { maxSteps := 4000000 }) only [go_sem, simprocAttr, ↓dnA, Tryz.f236, rows_length, encA, cellsI_wk, frW, wk2, wk1, wkL, wkB, hpW, List.mem_cons, Prod.mk.injEq, exists_eq_left, exists_eq_right, exists_eq]
              rw [take_snoc _ _ h, List.map_append, List.map_singleton, ← rows_snoc, ← hnw]
              rfl
            · simp (config := { maxSteps := 4000000 }) only [go_sem, simprocAttr, ↓dnA, Tryz.f236, rows_length, encA, cellsI_wk, frW, wk2, wk1, wkL, wkB, hpW, List.mem_cons, Prod.mk.injEq, exists_eq_left, exists_eq_right, exists_eq]
          · have hi' : i = ws.length := by omega
            subst hi'
            simp (config := { maxSteps := 4000000 }) only [go_sem, simprocAttr, ↓dnA, Tryz.f236, rows_length, nlf h, encFO, hwr, hrd, hde, List.length_map, List.take_length]

end Go.Proofs.YtmibclbinebnjaaGreat

/- Contracts: running many actions. -/
set_option linter.unusedSimpArgs false
set_option linter.unusedVariables false
set_option maxRecDepth 20000
set_option maxHeartbeats 4000000
namespace Go.Proofs.YtmibclbinebnjaaGreat
open Go Go.RowKit

def encF1 (e : Effect) : List AV := encF none none e
/-- Values with entries written. -/
def applyW (v : List Int) (ws : List Entry) : List Int := ws.foldl putV v
/-- One action more. -/
def stepR (p : List Int × List Effect) (a : Action) : List Int × List Effect := (applyW p.1 (runE a p.1).writes, p.2 ++ [runE a p.1])
def runAllE (v : List Int) (l : List Action) : List Int × List Effect := l.foldl stepR (v, [])

def WritesOk (ws : List Entry) : Prop := ∀ w, w ∈ ws → (0 ≤ w.key ∧ w.key ≤ 31) ∧ 0 ≤ w.value ∧ w.value ≤ 1000000

theorem runE_writesOk {a : Action} {v : List Int} (ha : ActOk a) (hv : ValsOk v) : WritesOk (runE a v).writes := by
  intro w hw
  unfold runE at hw
  dsimp only at hw
  split at hw
  · rename_i hd
    obtain ⟨k, hk, rfl⟩ := List.mem_map.1 hw
    have hfr := ha.fr
    have hto := ha.to
    have ham := ha.amount
    have hf := hv.at a.fr
    have ht := hv.at a.to
    have hkd := ha.kind
    refine ⟨by rcases mem_writes hk with e | e <;> dsimp only <;> rw [e] <;> omega, ?_⟩
    unfold newV
    unfold doneA at hd
    dsimp only
    rcases hkd with e | e | e | e | e | e <;> simp [e] at hd ⊢
    · omega
    · by_cases h : a.fr = a.to
      · simp [h] at hd ⊢; rw [h] at hf; omega
      · simp [h] at hd ⊢; split <;> omega
    · omega
    · split <;> omega
    · omega
    · omega
  · cases hw

theorem applyW_ok : ∀ (ws : List Entry) (v : List Int), ValsOk v → WritesOk ws → ValsOk (applyW v ws)
  | [], v, hv, _ => hv
  | w :: ws, v, hv, hw => by
    refine applyW_ok ws (putV v w) ⟨by unfold putV; rw [List.length_set]; exact hv.1, fun k => ?_⟩ fun x hx => hw x (List.mem_cons_of_mem _ hx)
    have h1 := hw w (List.mem_cons_self ..)
    unfold putV
    rw [List.getD_eq_getElem?_getD, List.getElem?_set]
    split
    · split
      · exact h1.2
      · simp
    · rw [← List.getD_eq_getElem?_getD]; exact hv.2 k

theorem applyW_take (v : List Int) (ws : List Entry) (i : Nat) (h : i < ws.length) : applyW v (ws.take (i + 1)) = putV (applyW v (ws.take i)) ws[i] := by
  unfold applyW
  rw [take_snoc _ _ h, List.foldl_append]
  rfl

theorem runAllE_take (v : List Int) (l : List Action) (i : Nat) (h : i < l.length) : runAllE v (l.take (i + 1)) = stepR (runAllE v (l.take i)) l[i] := by
  unfold runAllE
  rw [take_snoc _ _ h, List.foldl_append]
  rfl

theorem runAllE_ok {v : List Int} {l : List Action} (hl : ∀ a, a ∈ l → ActOk a) (hv : ValsOk v) : ∀ i, i ≤ l.length → ValsOk (runAllE v (l.take i)).1 ∧ (runAllE v (l.take i)).2.length = i
  | 0, _ => ⟨by simpa [runAllE] using hv, by simp [runAllE]⟩
  | i + 1, hi => by
    have ih := runAllE_ok hl hv i (by omega)
    rw [runAllE_take _ _ _ (by omega)]
    exact ⟨applyW_ok _ _ ih.1 (runE_writesOk (hl _ (List.getElem_mem _)) ih.1), by simp [stepR, ih.2]⟩

theorem c_impl_runAll (n1 : Option Bool) (v : List Int) (l : List Action) (hl : ∀ a, a ∈ l → ActOk a) (h10 : l.length ≤ 10) (hv : ValsOk v) :
    Det Tryz.prog 223 [.agg (cellsI v), .sl n1 (rows encA l)] (.tup [.agg (cellsI (runAllE v l).1), .osl false 3 (rows encF1 (runAllE v l).2)]) := by
  refine fspec_det tab_ok Tryz.call223 Tryz.func223 rfl 41 Tryz.ntmps223 (of_decide_eq_true rfl) fun B => codeK_sound tab_ok _ _ _ ?_
  have cl : (cellsI v).length = 32 := by rw [cellsI_length, hv.1]
  simp (config := { maxSteps := 4000000 }) only [go_sem, simprocAttr, ↓dnA, Tryz.f223, rows_length, cl, cellsI_impL, cellsI_impLB]
  refine semL_nilA 6 600 3 true (by rfl) (by rfl) (by decide) (by decide) ?_
  refine semL_for tab_ok (fun i : Nat => ⟨41, [(2, .loc 2 0), (4, .loc 4 0), (6, .row 600 i), (12, .sl n1 (rows encA l)), (13, .int .i64 l.length), (14, .int .i64 i)],
      [(2, .var (cellsI (runAllE v (l.take i)).1)), (4, .var (cellsI zeros32)), (600, .row true false 3 (rows encF1 (runAllE v (l.take i)).2))]⟩) (fun i => l.length - i)
    (fun i => i ≤ l.length) 0 [(2, 2), (4, 4), (600, 600)] (Weak.of (by rfl) ?_ ?_ (by rfl)) (by omega) ?_
  · simp (config := { maxSteps := 4000000 }) only [go_sem, simprocAttr, ↓dnA, Tryz.f223, rows_length, frW, wk2, wk1, wkL, wkB, hpW, List.mem_cons, Prod.mk.injEq, exists_eq_left, exists_eq_right, exists_eq]
    exact ⟨of_eq_true (cellsI_wk _ v), of_eq_true (cellsI_wk _ zeros32), rfl⟩
  · simp (config := { maxSteps := 4000000 }) only [go_sem, simprocAttr, ↓dnA, Tryz.f223, rows_length, frW, wk2, wk1, wkL, wkB, hpW, List.mem_cons, Prod.mk.injEq, exists_eq_left, exists_eq_right, exists_eq]
  · rintro i hi
    obtain ⟨hV, hL⟩ := runAllE_ok hl hv i hi
    generalize hp : runAllE v (l.take i) = p at hV hL
    obtain ⟨u, es⟩ := p
    dsimp only at hV hL
    have cu : (cellsI u).length = 32 := by rw [cellsI_length, hV.1]
    by_cases h : i < l.length
    · have ha := hl _ (List.getElem_mem h)
      have hcu : (cellsI u).take 32 = cellsI u := cellsI_take _ 32 hV.1
      simp (config := { maxSteps := 4000000 }) only [go_sem, simprocAttr, ↓dnA, Tryz.f223, rows_length, nlt h, h, hp, rows_get _ _ _ h, encA, nn0, cu, hcu, cellsI_noT, cellsI_argL]
      refine CallTo.det (c_impl_run l[i] u ha hV) fun _ => ?_
      simp (config := { maxSteps := 4000000 }) only [go_sem, simprocAttr, ↓dnA, Tryz.f223, rows_length, encFO, nn0, cu]
      have hW := runE_writesOk ha hV
      have hWl : (runE l[i] u).writes.length ≤ 2 := by
        unfold runE
        dsimp only
        split
        · rw [List.length_map]; exact writesA_len _
        · simp
      have hW0 : applyW u ((runE l[i] u).writes.take 0) = u := rfl
      have hstep : runAllE v (l.take (i + 1)) = (applyW u (runE l[i] u).writes, es ++ [runE l[i] u]) := by rw [runAllE_take _ _ _ h, hp]; rfl
      have hee : encF1 (runE l[i] u) = [.bool (runE l[i] u).done, .sl none (rows encE (runE l[i] u).reads), .sl none (rows encE (runE l[i] u).writes)] := rfl
      generalize hr : runE l[i] u = r at hW hWl hW0 hstep hee
      refine semL_for tab_ok (fun j : Nat => ⟨41, [(2, .loc 2 0), (4, .loc 4 0), (6, .row 600 i), (9, .loc 9 0), (12, .sl n1 (rows encA l)), (13, .int .i64 l.length), (14, .int .i64 i), (22, .row 21002 r.writes.length), (23, .int .i64 r.writes.length), (24, .int .i64 j)],
          [(2, .var (cellsI (applyW u (r.writes.take j)))), (4, .var (cellsI zeros32)), (600, .row true false 3 (rows encF1 es)), (9, .var [.bool r.done, .row 21001 r.reads.length, .row 21002 r.writes.length]),
            (21001, .row true false 2 (rows encE r.reads)), (21002, .row true false 2 (rows encE r.writes))]⟩) (fun j => r.writes.length - j)
        (fun j => j ≤ r.writes.length) 0 [(2, 2), (4, 4), (600, 600), (9, 9), (21001, 21001), (21002, 21002)] (Weak.of (by rfl) ?_ ?_ (by rfl)) (by omega) ?_
      · simp (config := { maxSteps := 4000000 }) only [go_sem, simprocAttr, ↓dnA, Tryz.f223, rows_length, frW, wk2, wk1, wkL, wkB, hpW, List.mem_cons, Prod.mk.injEq, exists_eq_left, exists_eq_right, exists_eq]
        exact ⟨of_eq_true (cellsI_wk _ u), of_eq_true (cellsI_wk _ _)⟩
      · simp (config := { maxSteps := 4000000 }) only [go_sem, simprocAttr, ↓dnA, Tryz.f223, rows_length, cellsI_wk, frW, wk2, wk1, wkL, wkB, hpW, List.mem_cons, Prod.mk.injEq, exists_eq_left, exists_eq_right, exists_eq]
      · rintro j hj
        have hA : ValsOk (applyW u (r.writes.take j)) := applyW_ok _ _ hV fun w hw => hW w (List.mem_of_mem_take hw)
        by_cases h2 : j < r.writes.length
        · have hw1 := hW _ (List.getElem_mem h2)
          have hw0 := applyW_take u _ _ h2
          generalize applyW u (r.writes.take j) = x at hA hw0
          have cx : (cellsI x).length = 32 := by rw [cellsI_length, hA.1]
          have hk0 := hw1.1.1
          have hk1 : r.writes[j].key < 32 := by omega
          have hw : IntKind.i64.wrap ((j : Int) + 1) = ((j + 1 : Nat) : Int) := wsucc h2 (by omega)
          simp (config := { maxSteps := 4000000 }) only [go_sem, simprocAttr, ↓dnA, Tryz.f223, rows_length, nlt h2, h2, rows_get _ _ _ h2, encE, nn0, cx, hw, hk0, hk1, cellsI_set, Nat.mul_one, show ¬ (1 = 32) by decide]
          repeat refine And.intro (by first | omega | (simp; done) | (simp; omega) | assumption) ?_
          refine ⟨j + 1, [(2, 2), (4, 4), (600, 600), (9, 9), (21001, 21001), (21002, 21002)], by omega, by dsimp only; omega, Weak.of (by rfl) ?_ ?_ (by rfl)⟩
          · simp (config := { maxSteps := 4000000 }) only [go_sem, simprocAttr, ↓dnA, Tryz.f223, rows_length, hw0, frW, wk2, wk1, wkL, wkB, hpW, List.mem_cons, Prod.mk.injEq, exists_eq_left, exists_eq_right, exists_eq]
            exact ⟨of_eq_true (cellsI_wk _ (putV x r.writes[j])), of_eq_true (cellsI_wk _ _)⟩
          · simp (config := { maxSteps := 4000000 }) only [go_sem, simprocAttr, ↓dnA, Tryz.f223, rows_length, frW, wk2, wk1, wkL, wkB, hpW, List.mem_cons, Prod.mk.injEq, exists_eq_left, exists_eq_right, exists_eq]
        · have hj' : j = r.writes.length := by omega
          subst hj'
          have hte : (rows encF1 es).take i = rows encF1 es := by rw [List.take_of_length_le]; rw [rows_length, hL]; omega
          have hw : IntKind.i64.wrap ((i : Int) + 1) = ((i + 1 : Nat) : Int) := wsucc h (by omega)
          simp (config := { maxSteps := 4000000 }) only [go_sem, simprocAttr, ↓dnA, Tryz.f223, rows_length, nlf h2, hL, hte, hw]
          repeat refine And.intro (by first | omega | (simp; done) | (simp; omega) | assumption) ?_
          refine ⟨i + 1, [(2, 2), (4, 4), (37, 600)], by omega, by dsimp only; omega, Weak.of (by rfl) ?_ ?_ (by rfl)⟩
          · simp (config := { maxSteps := 4000000 }) only [go_sem, simprocAttr, ↓dnA, Tryz.f223, rows_length, hstep, ← rows_snoc, hee, frW, wk2, wk1, wkL, wkB, hpW, List.mem_cons, Prod.mk.injEq, exists_eq_left, exists_eq_right, exists_eq]
            exact ⟨of_eq_true (cellsI_wk _ _), of_eq_true (cellsI_wk _ _)⟩
          · simp (config := { maxSteps := 4000000 }) only [go_sem, simprocAttr, ↓dnA, Tryz.f223, rows_length, frW, wk2, wk1, wkL, wkB, hpW, List.mem_cons, Prod.mk.injEq, exists_eq_left, exists_eq_right, exists_eq]
    · have hi' : i = l.length := by omega
      subst hi'
      rw [List.take_length] at hp
      have hcu : (cellsI u).take 32 = cellsI u := cellsI_take _ 32 hV.1
      have cz : (cellsI zeros32).length = 32 := rfl
      simp (config := { maxSteps := 4000000 }) only [go_sem, simprocAttr, ↓dnA, Tryz.f223, rows_length, nlf h, hp, List.take_length, cu, hcu, cz, hL, cellsI_exp, cellsI_rw, cellsI_one]

end Go.Proofs.YtmibclbinebnjaaGreat

/- Contracts: stores of values, serial runs (the program's). -/
set_option linter.unusedSimpArgs false
set_option linter.unusedVariables false
set_option maxRecDepth 20000
set_option maxHeartbeats 4000000
namespace Go.Proofs.YtmibclbinebnjaaGreat
open Go Go.RowKit

/-- The entries of the first n values. -/
def storeUp (v : List Int) (n : Nat) : List Entry := (List.range n).filterMap fun k => if v.getD k 0 > 0 then some ⟨(k : Int), v.getD k 0⟩ else none
def storeL (v : List Int) : List Entry := storeUp v 32
theorem storeUp_pos (v : List Int) (n : Nat) (h : v.getD n 0 > 0) : storeUp v (n + 1) = storeUp v n ++ [⟨(n : Int), v.getD n 0⟩] := by
  unfold storeUp
  rw [List.range_succ, List.filterMap_append]
  simp only [List.filterMap_cons, List.filterMap_nil, if_pos h]
theorem storeUp_neg (v : List Int) (n : Nat) (h : ¬ v.getD n 0 > 0) : storeUp v (n + 1) = storeUp v n := by
  unfold storeUp
  rw [List.range_succ, List.filterMap_append]
  simp only [List.filterMap_cons, List.filterMap_nil, if_neg h, List.append_nil]
theorem storeUp_len (v : List Int) (n : Nat) : (storeUp v n).length ≤ n := by
  have := List.length_filterMap_le (fun k : Nat => if v.getD k 0 > 0 then some (⟨(k : Int), v.getD k 0⟩ : Entry) else none) (List.range n)
  rw [List.length_range] at this
  exact this

theorem c_impl_store (v : List Int) (hv : ValsOk v) : Det Tryz.prog 204 [.agg (cellsI v)] (.osl false 2 (rows encE (storeL v))) := by
  refine fspec_det tab_ok Tryz.call204 Tryz.func204 rfl 21 Tryz.ntmps204 (of_decide_eq_true rfl) fun B => codeK_sound tab_ok _ _ _ ?_
  have cl : (cellsI v).length = 32 := by rw [cellsI_length, hv.1]
  have hcv : (cellsI v).take 32 = cellsI v := cellsI_take _ 32 hv.1
  simp (config := { maxSteps := 4000000 }) only [go_sem, simprocAttr, ↓dnA, Tryz.f204, rows_length, cl, hcv, cellsI_impL, cellsI_impLB]
  refine semL_nilA 3 600 2 true (by rfl) (by rfl) (by decide) (by decide) ?_
  refine semL_for tab_ok (fun i : Nat => ⟨21, [(1, .loc 1 0), (3, .row 600 (storeUp v i).length), (6, .agg (cellsI v)), (7, .int .i64 i)],
      [(1, .var (cellsI v)), (600, .row true false 2 (rows encE (storeUp v i)))]⟩) (fun i => 32 - i)
    (fun i => i ≤ 32) 0 [(1, 1), (600, 600)] (Weak.of (by rfl) ?_ ?_ (by rfl)) (by omega) ?_
  · simp (config := { maxSteps := 4000000 }) only [go_sem, simprocAttr, ↓dnA, Tryz.f204, rows_length, cellsI_wk, frW, wk2, wk1, wkL, wkB, hpW, List.mem_cons, Prod.mk.injEq, exists_eq_left, exists_eq_right, exists_eq]
    try rfl
  · simp (config := { maxSteps := 4000000 }) only [go_sem, simprocAttr, ↓dnA, Tryz.f204, rows_length, cellsI_wk, frW, wk2, wk1, wkL, wkB, hpW, List.mem_cons, Prod.mk.injEq, exists_eq_left, exists_eq_right, exists_eq]
    try rfl
  · rintro i hi
    have hl := storeUp_len v i
    by_cases h : i < 32
    · have hg := cellsI_get v i .top (by rw [hv.1]; exact h)
      have hw : IntKind.i64.wrap ((i : Int) + 1) = ((i + 1 : Nat) : Int) := wsucc h (by omega)
      have hn : decide ((i : Int) < 32) = true := by simp; omega
      have htk : (rows encE (storeUp v i)).take (storeUp v i).length = rows encE (storeUp v i) := by
        rw [List.take_of_length_le]; rw [rows_length]; omega
      cases hp : decide (v.getD i 0 > 0) with
      | true =>
        have hsu := storeUp_pos v i (of_decide_eq_true hp)
        simp (config := { maxSteps := 4000000 }) only [go_sem, simprocAttr, ↓dnA, Tryz.f204, rows_length, hn, h, nn0, cl, hg, hp, hw, htk]
        repeat refine And.intro (by first | omega | (simp; done) | (simp; omega) | assumption) ?_
        refine ⟨i + 1, [(1, 1), (18, 600)], by omega, by dsimp only; omega, Weak.of (by rfl) ?_ ?_ (by rfl)⟩
        · simp (config := { maxSteps := 4000000 }) only [go_sem, simprocAttr, ↓dnA, Tryz.f204, rows_length, hsu, ← rows_snoc, List.length_append, frW, wk2, wk1, wkL, wkB, hpW, List.mem_cons, Prod.mk.injEq, exists_eq_left, exists_eq_right, exists_eq]
          exact ⟨of_eq_true (cellsI_wk _ v), rfl⟩
        · simp (config := { maxSteps := 4000000 }) only [go_sem, simprocAttr, ↓dnA, Tryz.f204, rows_length, hsu, ← rows_snoc, List.length_append, frW, wk2, wk1, wkL, wkB, hpW, List.mem_cons, Prod.mk.injEq, exists_eq_left, exists_eq_right, exists_eq]
          try exact of_eq_true (cellsI_wk _ v)
      | false =>
        have hsu := storeUp_neg v i (of_decide_eq_false hp)
        simp (config := { maxSteps := 4000000 }) only [go_sem, simprocAttr, ↓dnA, Tryz.f204, rows_length, hn, h, nn0, cl, hg, hp, hw]
        repeat refine And.intro (by first | omega | (simp; done) | (simp; omega) | assumption) ?_
        refine ⟨i + 1, [(1, 1), (600, 600)], by omega, by dsimp only; omega, Weak.of (by rfl) ?_ ?_ (by rfl)⟩
        · simp (config := { maxSteps := 4000000 }) only [go_sem, simprocAttr, ↓dnA, Tryz.f204, rows_length, hsu, frW, wk2, wk1, wkL, wkB, hpW, List.mem_cons, Prod.mk.injEq, exists_eq_left, exists_eq_right, exists_eq]
          exact of_eq_true (cellsI_wk _ v)
        · simp (config := { maxSteps := 4000000 }) only [go_sem, simprocAttr, ↓dnA, Tryz.f204, rows_length, hsu, frW, wk2, wk1, wkL, wkB, hpW, List.mem_cons, Prod.mk.injEq, exists_eq_left, exists_eq_right, exists_eq]
          exact of_eq_true (cellsI_wk _ v)
    · have hi' : i = 32 := by omega
      subst hi'
      simp (config := { maxSteps := 4000000 }) only [go_sem, simprocAttr, ↓dnA, Tryz.f204, rows_length]
      rfl

/-- A serial run. -/
def runSerial (s : List Entry) (l : List Action) : List Entry × List Effect :=
  if storeValid s && actionsValid l then (storeL (runAllE (valuesL s) l).1, (runAllE (valuesL s) l).2) else ([], [])

theorem valuesL_ok {xs : List Entry} (h : storeValid xs = true) : ValsOk (valuesL xs) := by
  obtain ⟨h1, h2⟩ := entOk_spec 1 xs (-1) h
  refine applyW_ok xs zeros32 ⟨rfl, fun k => ?_⟩ fun w hw => ?_
  · rw [List.getD_eq_getElem?_getD, zeros32, List.getElem?_replicate]
    split <;> simp
  · have := h1 w hw
    omega

theorem actionsValid_ok {l : List Action} (h : actionsValid l = true) : (∀ a, a ∈ l → ActOk a) ∧ l.length ≤ 10 := by
  unfold actionsValid at h
  rw [Bool.and_eq_true] at h
  exact ⟨fun a ha => actOk_of (List.all_eq_true.1 h.2 a ha), of_decide_eq_true h.1⟩

theorem c_impl_RunSerial (n1 n2 : Option Bool) (s : List Entry) (l : List Action) (hs : s.length < 2 ^ 32) (hl : l.length < 2 ^ 32) :
    Det Tryz.prog 200 [.sl n1 (rows encE s), .sl n2 (rows encA l)] (.tup [.osl false 2 (rows encE (runSerial s l).1), .osl false 3 (rows encF1 (runSerial s l).2)]) := by
  refine fspec_det tab_ok Tryz.call200 Tryz.func200 rfl 26 Tryz.ntmps200 (of_decide_eq_true rfl) fun B => codeK_sound tab_ok _ _ _ ?_
  unfold runSerial
  simp (config := { maxSteps := 4000000 }) only [go_sem, simprocAttr, ↓dnA, Tryz.f200, rows_length]
  refine CallTo.det (c_impl_StoreValid n1 s (by omega)) fun _ => ?_
  cases h1 : storeValid s with
  | false => simp (config := { maxSteps := 4000000 }) only [go_sem, simprocAttr, ↓dnA, Tryz.f200, rows_length, h1, rows_nil]
  | true =>
    simp (config := { maxSteps := 4000000 }) only [go_sem, simprocAttr, ↓dnA, Tryz.f200, rows_length, h1]
    refine CallTo.det (c_impl_ActionsValid n2 l (by omega)) fun _ => ?_
    cases h2 : actionsValid l with
    | false => simp (config := { maxSteps := 4000000 }) only [go_sem, simprocAttr, ↓dnA, Tryz.f200, rows_length, h1, h2, rows_nil]
    | true =>
      obtain ⟨ha, h10⟩ := actionsValid_ok h2
      have hV := valuesL_ok h1
      have cl : (cellsI (valuesL s)).length = 32 := by rw [cellsI_length, hV.1]
      have hcv : (cellsI (valuesL s)).take 32 = cellsI (valuesL s) := cellsI_take _ 32 hV.1
      have hO := runAllE_ok ha hV l.length (Nat.le_refl _)
      rw [List.take_length] at hO
      obtain ⟨h3, h4⟩ := entOk_spec 1 s (-1) h1
      simp (config := { maxSteps := 4000000 }) only [go_sem, simprocAttr, ↓dnA, Tryz.f200, rows_length, h1, h2]
      refine CallTo.det (c_impl_valuesOf n1 s (by omega) (fun e he => by have := h3 e he; omega)) fun _ => ?_
      simp (config := { maxSteps := 4000000 }) only [go_sem, simprocAttr, ↓dnA, Tryz.f200, rows_length, h1, h2, cl, hcv, cellsI_impL, cellsI_impLB, cellsI_noT, cellsI_argL]
      refine CallTo.det (c_impl_runAll n2 (valuesL s) l ha h10 hV) fun _ => ?_
      generalize hp : runAllE (valuesL s) l = p at hO
      have cp : (cellsI p.1).length = 32 := by rw [cellsI_length, hO.1.1]
      have hcp : (cellsI p.1).take 32 = cellsI p.1 := cellsI_take _ 32 hO.1.1
      simp (config := { maxSteps := 4000000 }) only [go_sem, simprocAttr, ↓dnA, Tryz.f200, rows_length, h1, h2, cl, hcv, cp, hcp, cellsI_impL, cellsI_impLB, cellsI_noT, cellsI_argL, cellsI_one, cellsI_exp]
      repeat refine And.intro (by first | omega | (simp; done) | (simp; omega) | assumption) ?_
      refine CallTo.det (c_impl_store p.1 hO.1) fun _ => ?_
      simp (config := { maxSteps := 4000000 }) only [go_sem, simprocAttr, ↓dnA, Tryz.f200, rows_length, h1, h2, cl, hcv, cp, hcp, cellsI_impL, cellsI_impLB, cellsI_noT, cellsI_argL, cellsI_one, cellsI_exp]

end Go.Proofs.YtmibclbinebnjaaGreat

