/- Shared texts R (part 1): W27, W29, W33, W35, W36, W37, W38, W39, W66, W68, W34, W69, W72, W80, W73, W30, W31 -/
import Derived.Test.YtmibclbinebnjaaGreatQ5

set_option linter.unusedSimpArgs false
set_option linter.unusedVariables false

/- Contracts: voters after their votes. -/
set_option linter.unusedSimpArgs false
set_option linter.unusedVariables false
set_option maxRecDepth 20000
set_option maxHeartbeats 4000000
namespace Go.Proofs.YtmibclbinebnjaaGreat
open Go Go.RowKit

open Classical in
/-- A voter after its vote. -/
noncomputable def voteFor (v : Voter) (t : Tree) (c : List Bool) (n : Int) : Voter × Bool :=
  if voterValid v.last v.lock then (if mayVote v t c n then
    (⟨(t.blk n.toNat).view, if t.bef (t.bef n.toNat).toNat ≥ 0 then max v.lock (t.blk (t.bef (t.bef n.toNat).toNat).toNat).view else v.lock⟩, true) else (v, false)) else (⟨0, 0⟩, false)

theorem max_if (a b : Int) : (if b > a then b else a) = max a b := by
  rw [Int.max_def]; split <;> split <;> omega

/-- What is needed of the block before the one before. -/
theorem voteFor_ok {v : Voter} {t : Tree} {c : List Bool} {n : Int} (h0 : voterValid v.last v.lock = true) (h : mayVote v t c n = true) :
    ∃ j k : Nat, n = (j : Int) ∧ j < t.blocks.length ∧ j < t.before.length ∧ k < t.before.length ∧ (rows encI t.before).getD j [] = [.int .i64 (k : Int)] ∧ (rows encI t.before).getD k [] = [.int .i64 (t.bef k)] ∧
      (rows encB1 t.blocks).getD j [] = encB1 (t.blk j) ∧
      ((t.bef k < 0 ∧ decide (t.bef k ≥ 0) = false ∧ voteFor v t c n = (⟨(t.blk j).view, v.lock⟩, true)) ∨
       ∃ m : Nat, t.bef k = (m : Int) ∧ m < t.blocks.length ∧ (rows encB1 t.blocks).getD m [] = encB1 (t.blk m) ∧ voteFor v t c n = (⟨(t.blk j).view, max v.lock (t.blk m).view⟩, true)) := by
  have hm := mayOk_of h
  obtain ⟨j, k, rfl, hj0, hj, hjb, hkj, hk, g1, g2, g3, _⟩ := may_facts hm.tree hm.len hm.n1 hm.n2
  have hkb : k < t.before.length := by omega
  have g4 : (rows encI t.before).getD k [] = [.int .i64 (t.bef k)] := by rw [rows_get _ _ k hkb, t.bef_get k hkb]; rfl
  refine ⟨j, k, rfl, hj, hjb, hkb, g1, g4, g2, ?_⟩
  have hv : voteFor v t c (j : Int) = (⟨(t.blk j).view, if t.bef k ≥ 0 then max v.lock (t.blk (t.bef k).toNat).view else v.lock⟩, true) := by
    unfold voteFor
    rw [h0, h, if_pos rfl, if_pos rfl, Int.toNat_natCast, hk, Int.toNat_natCast]
  by_cases hb : t.bef k ≥ 0
  · obtain ⟨m, hmk⟩ : ∃ m : Nat, t.bef k = (m : Int) := ⟨(t.bef k).toNat, by omega⟩
    have hml : m < t.blocks.length := by
      by_cases hk0 : k = 0
      · subst hk0; rw [hm.tree.bef0] at hb; omega
      · have := (hm.tree.link k (by omega) (by omega)).hi; omega
    refine .inr ⟨m, hmk, hml, rows_gd _ _ m hml, ?_⟩
    rw [hv, if_pos hb, hmk, Int.toNat_natCast]
  · exact .inl ⟨by omega, by simp; omega, by rw [hv, if_neg hb]⟩

theorem c_impl_VoteFor (n1 n2 n3 n4 : Option Bool) (v : Voter) (t : Tree) (c : List Bool) (n : Int) (hx : TreeSz t) (hc : c.length < 2 ^ 62) :
    Det Tryz.prog 195 [.agg (encV v), .agg (encT n1 n2 n3 t), .sl n4 (boolRows c), .int .i64 n] (.tup [.agg (encV (voteFor v t c n).1), .bool (voteFor v t c n).2]) := by
  refine fspec_det tab_ok Tryz.call195 Tryz.func195 rfl 51 Tryz.ntmps195 (of_decide_eq_true rfl) fun B => codeK_sound tab_ok _ _ _ ?_
  unfold encT
  simp (config := { maxSteps := 4000000 }) only [go_sem, simprocAttr, ↓dnA, Tryz.f195, encV]
  refine CallTo.det (c_impl_VoterValid _ _) fun _ => ?_
  cases h1 : voterValid v.last v.lock with
  | false =>
    have hv : voteFor v t c n = (⟨0, 0⟩, false) := by unfold voteFor; rw [h1, if_neg Bool.false_ne_true]
    simp (config := { maxSteps := 4000000 }) only [go_sem, simprocAttr, ↓dnA, Tryz.f195, encV, h1, hv]
  | true =>
    simp (config := { maxSteps := 4000000 }) only [go_sem, simprocAttr, ↓dnA, Tryz.f195, encV, h1]
    refine CallTo.det (c_impl_MayVote n1 n2 n3 n4 v t c n hx hc) fun _ => ?_
    cases h2 : mayVote v t c n with
    | false =>
      have hv : voteFor v t c n = (v, false) := by unfold voteFor; rw [h1, h2, if_pos rfl, if_neg Bool.false_ne_true]
      simp (config := { maxSteps := 4000000 }) only [go_sem, simprocAttr, ↓dnA, Tryz.f195, encV, h1, h2, hv]
    | true =>
      obtain ⟨j, k, rfl, hj, hjb, hkb, g1, g4, g2, hcase⟩ := voteFor_ok h1 h2
      simp (config := { maxSteps := 4000000 }) only [go_sem, simprocAttr, ↓dnA, Tryz.f195, encV, h1, h2, rows_length, nn0, nlt hj, nlt hjb, nlt hkb, g1, g2, g4, encB1, encBk]
      refine semL_draw tab_ok mixed_ rfl (ord := [(0, []), (1, []), (2, []), (3, []), (4, []), (5, []), (6, []), (7, []), (8, []), (9, [])]) (by dsimp only; decide +kernel) ?_
      rcases hcase with ⟨hb, hd, hv⟩ | ⟨m, hm, hml, g5, hv⟩
      · simp (config := { maxSteps := 4000000 }) only [go_sem, simprocAttr, ↓dnA, Tryz.f195, encV, h1, h2, rows_length, nn0, nlt hj, nlt hjb, nlt hkb, g1, g2, g4, encB1, encBk, hd, hv]
      · have hd : decide ((m : Int) ≥ 0) = true := by simp
        simp (config := { maxSteps := 4000000 }) only [go_sem, simprocAttr, ↓dnA, Tryz.f195, encV, h1, h2, rows_length, nn0, nlt hj, nlt hjb, nlt hkb, g1, g2, g4, encB1, encBk, hd, hm]
        refine semL_draw tab_ok mixed_ rfl (ord := [(0, []), (1, []), (2, []), (3, []), (4, []), (5, []), (6, []), (7, []), (8, []), (9, []), (10, [])]) (by dsimp only; decide +kernel) ?_
        simp (config := { maxSteps := 4000000 }) only [go_sem, simprocAttr, ↓dnA, Tryz.f195, encV, h1, h2, rows_length, nn0, nlt hml, g5, encB1, encBk, max_if, hv]

theorem c_spec_VoteFor (n1 n2 n3 n4 : Option Bool) (v : Voter) (t : Tree) (c : List Bool) (n : Int) (hx : TreeSz t) (hc : c.length < 2 ^ 62) :
    Det Tryz.prog 141 [.agg (encV v), .agg (encT n1 n2 n3 t), .sl n4 (boolRows c), .int .i64 n] (.tup [.agg (encV (voteFor v t c n).1), .bool (voteFor v t c n).2]) := by
  refine fspec_det tab_ok Tryz.call141 Tryz.func141 rfl 54 Tryz.ntmps141 (of_decide_eq_true rfl) fun B => codeK_sound tab_ok _ _ _ ?_
  unfold encT
  simp (config := { maxSteps := 4000000 }) only [go_sem, simprocAttr, ↓dnA, Tryz.f141, encV]
  refine CallTo.det (c_spec_VoterValid _ _) fun _ => ?_
  cases h1 : voterValid v.last v.lock with
  | false =>
    have hv : voteFor v t c n = (⟨0, 0⟩, false) := by unfold voteFor; rw [h1, if_neg Bool.false_ne_true]
    simp (config := { maxSteps := 4000000 }) only [go_sem, simprocAttr, ↓dnA, Tryz.f141, encV, h1, hv]
  | true =>
    simp (config := { maxSteps := 4000000 }) only [go_sem, simprocAttr, ↓dnA, Tryz.f141, encV, h1]
    refine CallTo.det (c_spec_MayVote n1 n2 n3 n4 v t c n hx hc) fun _ => ?_
    cases h2 : mayVote v t c n with
    | false =>
      have hv : voteFor v t c n = (v, false) := by unfold voteFor; rw [h1, h2, if_pos rfl, if_neg Bool.false_ne_true]
      simp (config := { maxSteps := 4000000 }) only [go_sem, simprocAttr, ↓dnA, Tryz.f141, encV, h1, h2, hv]
    | true =>
      obtain ⟨j, k, rfl, hj, hjb, hkb, g1, g4, g2, hcase⟩ := voteFor_ok h1 h2
      simp (config := { maxSteps := 4000000 }) only [go_sem, simprocAttr, ↓dnA, Tryz.f141, encV, h1, h2, rows_length, nn0, nlt hj, nlt hjb, nlt hkb, g1, g2, g4, encB1, encBk]
      refine semL_draw tab_ok mixed_ rfl (ord := [(0, []), (1, []), (2, []), (3, []), (4, []), (5, []), (6, []), (7, []), (8, []), (9, [0, 1, 2, 3, 4, 5, 6, 7, 8]), (10, [])]) (by dsimp only; decide +kernel) ?_
      simp (config := { maxSteps := 4000000 }) only [go_sem, simprocAttr, ↓dnA, Tryz.f141, encV, h1, h2, rows_length, nn0, nlt hj, nlt hjb, nlt hkb, g1, g2, g4, encB1, encBk]
      refine semL_draw tab_ok mixed_ rfl (ord := [(0, []), (1, []), (2, []), (3, []), (4, []), (5, []), (6, []), (7, []), (8, []), (9, [])]) (by dsimp only; decide +kernel) ?_
      rcases hcase with ⟨hb, hd, hv⟩ | ⟨m, hm, hml, g5, hv⟩
      · simp (config := { maxSteps := 4000000 }) only [go_sem, simprocAttr, ↓dnA, Tryz.f141, encV, h1, h2, rows_length, nn0, nlt hj, nlt hjb, nlt hkb, g1, g2, g4, encB1, encBk, hd, hv]
      · have hd : decide ((m : Int) ≥ 0) = true := by simp
        simp (config := { maxSteps := 4000000 }) only [go_sem, simprocAttr, ↓dnA, Tryz.f141, encV, h1, h2, rows_length, nn0, nlt hj, nlt hjb, nlt hkb, g1, g2, g4, encB1, encBk, hd, hm]
        refine semL_draw tab_ok mixed_ rfl (ord := [(0, []), (1, []), (2, []), (3, []), (4, []), (5, []), (6, []), (7, []), (8, []), (9, []), (10, [])]) (by dsimp only; decide +kernel) ?_
        simp (config := { maxSteps := 4000000 }) only [go_sem, simprocAttr, ↓dnA, Tryz.f141, encV, h1, h2, rows_length, nn0, nlt hml, g5, encB1, encBk, max_if, hv]

theorem voterB (a b : Voter) : ((a.last == b.last) && (a.lock == b.lock)) = decide (a = b) := by
  obtain ⟨a1, a2⟩ := a
  obtain ⟨b1, b2⟩ := b
  rw [Bool.eq_iff_iff]
  simp only [Bool.and_eq_true, beq_iff_eq, decide_eq_true_eq, Voter.mk.injEq]

theorem c_laws_eqVoter (a b : Voter) : Det Tryz.prog 189 [.agg (encV a), .agg (encV b)] (.bool (decide (a = b))) := by
  refine fspec_det tab_ok Tryz.call189 Tryz.func189 rfl 15 Tryz.ntmps189 (of_decide_eq_true rfl) fun B => codeK_sound tab_ok _ _ _ ?_
  unfold encV
  rw [← voterB]
  cases h1 : (a.last == b.last) with
  | false => simp (config := { maxSteps := 4000000 }) only [go_sem, simprocAttr, ↓dnA, Tryz.f189, bne, h1]
  | true =>
    cases h2 : (a.lock == b.lock) with
    | false => simp (config := { maxSteps := 4000000 }) only [go_sem, simprocAttr, ↓dnA, Tryz.f189, bne, h1, h2]
    | true => simp (config := { maxSteps := 4000000 }) only [go_sem, simprocAttr, ↓dnA, Tryz.f189, bne, h1, h2]

end Go.Proofs.YtmibclbinebnjaaGreat

/- Contracts: certificates. -/
set_option linter.unusedSimpArgs false
set_option linter.unusedVariables false
set_option maxRecDepth 20000
set_option maxHeartbeats 4000000
namespace Go.Proofs.YtmibclbinebnjaaGreat
open Go Go.RowKit

structure Cert where
  sum : Int
  view : Int
  signers : Int
deriving DecidableEq, Inhabited

def encC (c : Cert) : List AV := [.int .i64 c.sum, .int .i64 c.view, .int .i64 c.signers]

/-- The members in a mask: the first i of them. -/
def manyTo (n : Int) : Nat → Int
  | 0 => 0
  | i + 1 => manyTo n i + (n / 2 ^ i) % 2
def many (n : Int) : Int := manyTo n 4

theorem many_stepF : ∀ (a : Fin 16) (i : Fin 4), IntKind.i64.wrap (manyTo (a.val : Int) i.val + (((a.val : Int)).fdiv (2 ^ min i.val 64)).tmod 2) = manyTo (a.val : Int) (i.val + 1) := by decide +kernel
theorem many_step {n : Int} (h : 0 ≤ n ∧ n ≤ 15) {i : Nat} (hi : i < 4) : IntKind.i64.wrap (manyTo n i + (n.fdiv (2 ^ min i 64)).tmod 2) = manyTo n (i + 1) := by
  obtain ⟨a, rfl⟩ : ∃ a : Nat, n = (a : Int) := ⟨n.toNat, by omega⟩
  exact many_stepF ⟨a, by omega⟩ ⟨i, hi⟩

def certValid (c : Cert) : Bool := inB c.sum 0 1000002 && inB c.view 0 1000 && inB c.signers 0 15
def certCounts (c : Cert) : Bool := certValid c && decide (many c.signers ≥ 3)

theorem c_spec_l15Many (n : Int) (h : 0 ≤ n ∧ n ≤ 15) : Det Tryz.prog 177 [.int .i64 n] (.int .i64 (many n)) := by
  refine fspec_det tab_ok Tryz.call177 Tryz.func177 rfl 16 Tryz.ntmps177 (of_decide_eq_true rfl) fun B => codeK_sound tab_ok _ _ _ ?_
  simp (config := { maxSteps := 4000000 }) only [go_sem, simprocAttr, ↓dnA, Tryz.f177]
  refine semL_for tab_ok (fun i : Nat => ⟨16, [(0, .int .i64 n), (3, .int .i64 (manyTo n i)), (4, .int .i64 i)], []⟩) (fun i => 4 - i) (fun i => i ≤ 4) 0 [] (Weak.of rfl trivial ?_ rfl) (by omega) ?_
  · simp (config := { maxSteps := 4000000 }) only [go_sem, simprocAttr, ↓dnA, Tryz.f177, manyTo, frW, wk2, wk1, wkL, wkB, hpW, List.mem_cons, Prod.mk.injEq, exists_eq_left, exists_eq_right, exists_eq]
  · rintro i hi
    by_cases h4 : i < 4
    · have hlt : ((i : Int) < 4) = True := by simp; omega
      simp (config := { maxSteps := 4000000 }) only [go_sem, simprocAttr, ↓dnA, Tryz.f177, hlt, nn0, many_step h h4]
      refine ⟨i + 1, [], by omega, by dsimp only; omega, Weak.of rfl trivial ?_ rfl⟩
      simp (config := { maxSteps := 4000000 }) only [go_sem, simprocAttr, ↓dnA, Tryz.f177, wsucc h4 (show 4 < 2 ^ 62 by decide), frW, wk2, wk1, wkL, wkB, hpW, List.mem_cons, Prod.mk.injEq, exists_eq_left, exists_eq_right, exists_eq]
    · have : i = 4 := by omega
      subst this
      simp (config := { maxSteps := 4000000 }) only [go_sem, simprocAttr, ↓dnA, Tryz.f177]
      rfl

theorem c_impl_isSigners (x : Int) : Det Tryz.prog 97 [.int .i64 x] (.bool (inB x 0 15)) := by
  refine fspec_det tab_ok Tryz.call97 Tryz.func97 rfl 5 Tryz.ntmps97 (of_decide_eq_true rfl) fun B => codeK_sound tab_ok _ _ _ ?_
  simp (config := { maxSteps := 4000000 }) only [go_sem, simprocAttr, ↓dnA, Tryz.f97]
  refine CallTo.det (c_in _ _ _) fun _ => ?_
  simp (config := { maxSteps := 4000000 }) only [go_sem, simprocAttr, ↓dnA, Tryz.f97]

theorem c_OnesCount64 (n : Int) (h : 0 ≤ n ∧ n ≤ 15) : Det Tryz.prog 215 [.int .u64 n] (.int .i64 (many n)) := by
  refine fspec_det tab_ok Tryz.call215 Tryz.func215 rfl 35 Tryz.ntmps215 (of_decide_eq_true rfl) fun B => codeK_sound tab_ok _ _ _ ?_
  simp (config := { maxSteps := 4000000 }) only [go_sem, simprocAttr, ↓dnA, Tryz.f215]
  obtain ⟨a, rfl⟩ : ∃ a : Fin 16, n = (a.val : Int) := ⟨⟨n.toNat, by omega⟩, by simp; omega⟩
  clear h
  revert a
  decide +kernel

theorem c_OnesCount (n : Int) (h : 0 ≤ n ∧ n ≤ 15) : Det Tryz.prog 179 [.int .u64 n] (.int .i64 (many n)) := by
  refine fspec_det tab_ok Tryz.call179 Tryz.func179 rfl 8 Tryz.ntmps179 (of_decide_eq_true rfl) fun B => codeK_sound tab_ok _ _ _ ?_
  simp (config := { maxSteps := 4000000 }) only [go_sem, simprocAttr, ↓dnA, Tryz.f179]
  refine CallTo.det (c_OnesCount64 n h) fun _ => ?_
  simp (config := { maxSteps := 4000000 }) only [go_sem, simprocAttr, ↓dnA, Tryz.f179]

theorem c_impl_enough (n : Int) (h : 0 ≤ n ∧ n ≤ 15) : Det Tryz.prog 108 [.int .i64 n] (.bool (decide (many n ≥ 3))) := by
  refine fspec_det tab_ok Tryz.call108 Tryz.func108 rfl 7 Tryz.ntmps108 (of_decide_eq_true rfl) fun B => codeK_sound tab_ok _ _ _ ?_
  have hw : IntKind.u64.wrap n = n := by
    obtain ⟨a, rfl⟩ : ∃ a : Fin 16, n = (a.val : Int) := ⟨⟨n.toNat, by omega⟩, by simp; omega⟩
    clear h
    revert a
    decide +kernel
  simp (config := { maxSteps := 4000000 }) only [go_sem, simprocAttr, ↓dnA, Tryz.f108, hw]
  refine CallTo.det (c_OnesCount n h) fun _ => ?_
  simp (config := { maxSteps := 4000000 }) only [go_sem, simprocAttr, ↓dnA, Tryz.f108]

theorem c_impl_CertValid (c : Cert) : Det Tryz.prog 44 [.agg (encC c)] (.bool (certValid c)) := by
  refine fspec_det tab_ok Tryz.call44 Tryz.func44 rfl 16 Tryz.ntmps44 (of_decide_eq_true rfl) fun B => codeK_sound tab_ok _ _ _ ?_
  unfold certValid
  simp (config := { maxSteps := 4000000 }) only [go_sem, simprocAttr, ↓dnA, Tryz.f44, encC]
  refine CallTo.det (c_impl_isSum _) fun _ => ?_
  cases h1 : inB c.sum 0 1000002 with
  | false => simp (config := { maxSteps := 4000000 }) only [go_sem, simprocAttr, ↓dnA, Tryz.f44, h1]
  | true =>
    simp (config := { maxSteps := 4000000 }) only [go_sem, simprocAttr, ↓dnA, Tryz.f44, h1]
    refine CallTo.det (c_isView _) fun _ => ?_
    cases h2 : inB c.view 0 1000 with
    | false => simp (config := { maxSteps := 4000000 }) only [go_sem, simprocAttr, ↓dnA, Tryz.f44, h1, h2]
    | true =>
      simp (config := { maxSteps := 4000000 }) only [go_sem, simprocAttr, ↓dnA, Tryz.f44, h1, h2]
      refine CallTo.det (c_impl_isSigners _) fun _ => ?_
      simp (config := { maxSteps := 4000000 }) only [go_sem, simprocAttr, ↓dnA, Tryz.f44, h1, h2]

theorem c_spec_CertValid (c : Cert) : Det Tryz.prog 176 [.agg (encC c)] (.bool (certValid c)) := by
  refine fspec_det tab_ok Tryz.call176 Tryz.func176 rfl 16 Tryz.ntmps176 (of_decide_eq_true rfl) fun B => codeK_sound tab_ok _ _ _ ?_
  unfold certValid
  simp (config := { maxSteps := 4000000 }) only [go_sem, simprocAttr, ↓dnA, Tryz.f176, encC]
  refine CallTo.det (c_l1In _ _ _) fun _ => ?_
  cases h1 : inB c.sum 0 1000002 with
  | false => simp (config := { maxSteps := 4000000 }) only [go_sem, simprocAttr, ↓dnA, Tryz.f176, h1]
  | true =>
    simp (config := { maxSteps := 4000000 }) only [go_sem, simprocAttr, ↓dnA, Tryz.f176, h1]
    refine CallTo.det (c_l1In _ _ _) fun _ => ?_
    cases h2 : inB c.view 0 1000 with
    | false => simp (config := { maxSteps := 4000000 }) only [go_sem, simprocAttr, ↓dnA, Tryz.f176, h1, h2]
    | true =>
      simp (config := { maxSteps := 4000000 }) only [go_sem, simprocAttr, ↓dnA, Tryz.f176, h1, h2]
      refine CallTo.det (c_l1In _ _ _) fun _ => ?_
      simp (config := { maxSteps := 4000000 }) only [go_sem, simprocAttr, ↓dnA, Tryz.f176, h1, h2]

theorem certValid_sg {c : Cert} (h : certValid c = true) : 0 ≤ c.signers ∧ c.signers ≤ 15 := by
  unfold certValid at h
  rw [Bool.and_eq_true] at h
  exact inB_iff.1 h.2

theorem c_impl_CertCounts (c : Cert) : Det Tryz.prog 28 [.agg (encC c)] (.bool (certCounts c)) := by
  refine fspec_det tab_ok Tryz.call28 Tryz.func28 rfl 10 Tryz.ntmps28 (of_decide_eq_true rfl) fun B => codeK_sound tab_ok _ _ _ ?_
  unfold certCounts
  simp (config := { maxSteps := 4000000 }) only [go_sem, simprocAttr, ↓dnA, Tryz.f28, encC]
  refine CallTo.det (c_impl_CertValid c) fun _ => ?_
  cases h1 : certValid c with
  | false => simp (config := { maxSteps := 4000000 }) only [go_sem, simprocAttr, ↓dnA, Tryz.f28, h1]
  | true =>
    simp (config := { maxSteps := 4000000 }) only [go_sem, simprocAttr, ↓dnA, Tryz.f28, h1]
    refine CallTo.det (c_impl_enough _ (certValid_sg h1)) fun _ => ?_
    simp (config := { maxSteps := 4000000 }) only [go_sem, simprocAttr, ↓dnA, Tryz.f28, h1]

theorem c_spec_CertCounts (c : Cert) : Det Tryz.prog 105 [.agg (encC c)] (.bool (certCounts c)) := by
  refine fspec_det tab_ok Tryz.call105 Tryz.func105 rfl 11 Tryz.ntmps105 (of_decide_eq_true rfl) fun B => codeK_sound tab_ok _ _ _ ?_
  unfold certCounts
  simp (config := { maxSteps := 4000000 }) only [go_sem, simprocAttr, ↓dnA, Tryz.f105, encC]
  refine CallTo.det (c_spec_CertValid c) fun _ => ?_
  cases h1 : certValid c with
  | false => simp (config := { maxSteps := 4000000 }) only [go_sem, simprocAttr, ↓dnA, Tryz.f105, h1]
  | true =>
    simp (config := { maxSteps := 4000000 }) only [go_sem, simprocAttr, ↓dnA, Tryz.f105, h1]
    refine CallTo.det (c_spec_l15Many _ (certValid_sg h1)) fun _ => ?_
    simp (config := { maxSteps := 4000000 }) only [go_sem, simprocAttr, ↓dnA, Tryz.f105, h1]

/-- The block for which a certificate counts. -/
def certBlock (t : Tree) (c : Cert) : Int :=
  if certCounts c then (if findB t.blocks c.sum < 0 then -1 else if (t.blk (findB t.blocks c.sum).toNat).view = c.view then findB t.blocks c.sum else -1) else -1

theorem c_impl_certBlock (n1 n2 n3 : Option Bool) (t : Tree) (c : Cert) (hx : TreeSz t) : Det Tryz.prog 104 [.agg (encT n1 n2 n3 t), .agg (encC c)] (.int .i64 (certBlock t c)) := by
  refine fspec_det tab_ok Tryz.call104 Tryz.func104 rfl 27 Tryz.ntmps104 (of_decide_eq_true rfl) fun B => codeK_sound tab_ok _ _ _ ?_
  unfold certBlock encT
  simp (config := { maxSteps := 4000000 }) only [go_sem, simprocAttr, ↓dnA, Tryz.f104, encC]
  refine CallTo.det (c_impl_CertCounts c) fun _ => ?_
  cases h1 : certCounts c with
  | false => simp (config := { maxSteps := 4000000 }) only [go_sem, simprocAttr, ↓dnA, Tryz.f104, h1]
  | true =>
    simp (config := { maxSteps := 4000000 }) only [go_sem, simprocAttr, ↓dnA, Tryz.f104, h1]
    refine CallTo.det (c_impl_find n1 n2 n3 t c.sum hx) fun _ => ?_
    simp (config := { maxSteps := 4000000 }) only [go_sem, simprocAttr, ↓dnA, Tryz.f104, h1]
    refine semL_draw tab_ok mixed_ rfl (ord := [(0, []), (1, []), (2, []), (3, []), (4, []), (5, []), (6, []), (7, []), (8, []), (9, []), (10, []), (11, []), (12, [])]) (by dsimp only; decide +kernel) ?_
    rcases findB_cases t c.sum with ⟨hf, _⟩ | ⟨i, hi, hf, _⟩
    · simp (config := { maxSteps := 4000000 }) only [go_sem, simprocAttr, ↓dnA, Tryz.f104, h1, hf]
    · have hd : decide ((i : Int) ≥ 0) = true := by simp
      have hn : ((i : Int) < 0) = False := by simp
      by_cases h2 : (t.blk i).view = c.view
      · have h2' : ((t.blk i).view != c.view) = false := by simp [h2]
        simp (config := { maxSteps := 4000000 }) only [go_sem, simprocAttr, ↓dnA, Tryz.f104, h1, hf, hd, nn0, nlt hi, rows_length, rows_gd _ _ i hi, Tree.blk, encB1, encBk, hn, h2, h2']
        all_goals (try unfold Tree.blk at h2 h2'); (try simp (config := { maxSteps := 4000000 }) only [go_sem, simprocAttr, ↓dnA, Tryz.f104, h1, hf, hd, nn0, nlt hi, rows_length, rows_gd _ _ i hi, encB1, encBk, hn, h2, h2'])
      · have h2' : ((t.blk i).view != c.view) = true := by simp [h2]
        simp (config := { maxSteps := 4000000 }) only [go_sem, simprocAttr, ↓dnA, Tryz.f104, h1, hf, hd, nn0, nlt hi, rows_length, rows_gd _ _ i hi, Tree.blk, encB1, encBk, hn, h2, h2']
        all_goals (try unfold Tree.blk at h2 h2'); (try simp (config := { maxSteps := 4000000 }) only [go_sem, simprocAttr, ↓dnA, Tryz.f104, h1, hf, hd, nn0, nlt hi, rows_length, rows_gd _ _ i hi, encB1, encBk, hn, h2, h2'])

end Go.Proofs.YtmibclbinebnjaaGreat

/- Contracts: the laws' marks. -/
set_option linter.unusedSimpArgs false
set_option linter.unusedVariables false
set_option maxRecDepth 20000
set_option maxHeartbeats 4000000
namespace Go.Proofs.YtmibclbinebnjaaGreat
open Go Go.RowKit

section
variable {α : Type} (e : α → List AV) (mk : α → Int → α) (st : α → Nat)

def stepS : List α → Nat
  | [] => 0
  | x :: r => st x + stepS r

/-- Elements that are marked one after the other, from k on. -/
def markS : List α → Int → List α
  | [], _ => []
  | x :: r, k => mk x k :: markS r (k + st x)

theorem markS_length : ∀ (xs : List α) (k : Int), (markS mk st xs k).length = xs.length
  | [], _ => rfl
  | x :: r, k => by simp [markS, markS_length r]

theorem stepS_take_succ : ∀ (xs : List α) (i : Nat) (h : i < xs.length), stepS st (xs.take (i + 1)) = stepS st (xs.take i) + st xs[i]
  | x :: r, 0, _ => by simp [stepS]
  | x :: r, i + 1, h => by
    have := stepS_take_succ r i (by simpa using h)
    simp only [List.take_succ_cons, stepS, List.getElem_cons_succ] at this ⊢
    omega

theorem stepS_le : ∀ (xs : List α) (i : Nat), stepS st (xs.take i) ≤ stepS st xs
  | [], _ => by simp [stepS]
  | x :: r, 0 => by simp [stepS]
  | x :: r, i + 1 => by
    have := stepS_le r i
    simp only [List.take_succ_cons, stepS]; omega

theorem stepS_lt (xs : List α) (i : Nat) (h : i < xs.length) : stepS st (xs.take i) + st xs[i] ≤ stepS st xs := by
  rw [← stepS_take_succ st xs i h]; exact stepS_le st xs (i + 1)

theorem markS_append : ∀ (xs ys : List α) (k : Int), markS mk st (xs ++ ys) k = markS mk st xs k ++ markS mk st ys (k + stepS st xs)
  | [], ys, k => by simp [markS, stepS]
  | x :: r, ys, k => by
    simp only [List.cons_append, markS, stepS, markS_append r ys]
    rw [show k + (st x : Int) + (stepS st r : Int) = k + ((st x + stepS st r : Nat) : Int) by omega]

theorem markS_take_succ (xs : List α) (i : Nat) (h : i < xs.length) (k : Int) : markS mk st (xs.take (i + 1)) k = markS mk st (xs.take i) k ++ [mk xs[i] (k + stepS st (xs.take i))] := by
  rw [take_snoc xs i h, markS_append]; rfl

theorem markS_get : ∀ (xs : List α) (i : Nat) (h : i < xs.length) (k : Int), (markS mk st xs k)[i]'(by rw [markS_length]; exact h) = mk xs[i] (k + stepS st (xs.take i))
  | x :: r, 0, _, k => by simp [markS, stepS]
  | x :: r, i + 1, h, k => by
    have := markS_get r i (by simpa using h) (k + st x)
    simp only [markS, List.getElem_cons_succ, List.take_succ_cons, stepS, this]
    rw [show k + (st x : Int) + (stepS st (r.take i) : Int) = k + ((st x + stepS st (r.take i) : Nat) : Int) by omega]

theorem markS_rget (xs : List α) (i : Nat) (k : Int) (h : i < xs.length) : (rows e (markS mk st xs k)).getD i [] = e (mk xs[i] (k + stepS st (xs.take i))) := by
  rw [rows_get _ _ _ (by rw [markS_length]; exact h), markS_get]

/-- The first i elements are marked. -/
def midS (xs : List α) (k : Int) (i : Nat) : List α := markS mk st (xs.take i) k ++ xs.drop i

theorem midS_zero (xs : List α) (k : Int) : midS mk st xs k 0 = xs := by simp [midS, markS]
theorem midS_len (xs : List α) (k : Int) : midS mk st xs k xs.length = markS mk st xs k := by simp [midS]
theorem midS_length (xs : List α) (k : Int) (i : Nat) (hi : i ≤ xs.length) : (midS mk st xs k i).length = xs.length := by
  simp [midS, markS_length]; omega
theorem midS_get (xs : List α) (k : Int) (i : Nat) (h : i < xs.length) : (rows e (midS mk st xs k i)).getD i [] = e xs[i] := by
  have hl : (markS mk st (xs.take i) k).length = i := by rw [markS_length, List.length_take]; omega
  have hl' : i < (midS mk st xs k i).length := by rw [midS_length _ _ _ _ _ (by omega)]; exact h
  rw [rows_get _ _ _ hl']
  congr 1
  have : (midS mk st xs k i)[i]? = some xs[i] := by
    unfold midS
    rw [List.getElem?_append_right (by omega), hl, Nat.sub_self]
    simp [h]
  exact Option.some.inj ((List.getElem?_eq_getElem hl').symm.trans this)
theorem midS_set (xs : List α) (k : Int) (i : Nat) (h : i < xs.length) : (rows e (midS mk st xs k i)).set i (e (mk xs[i] (k + stepS st (xs.take i)))) = rows e (midS mk st xs k (i + 1)) := by
  rw [rows_set]
  congr 1
  have hl : (markS mk st (xs.take i) k).length = i := by rw [markS_length, List.length_take]; omega
  unfold midS
  rw [List.set_append_right _ _ (by omega), hl, Nat.sub_self, drop_cons xs i h, List.set_cons_zero, markS_take_succ _ _ _ _ h, List.append_assoc]
  rfl
end

theorem set_same {α : Type} (l : List α) (i : Nat) (d : α) (h : i < l.length) (v : α) : (l.set i v).getD i d = v := by
  rw [set_getD _ _ _ _ _ h, if_pos rfl]

def mkE (_ : Entry) (k : Int) : Entry := ⟨k, k + 1⟩
def stE (_ : Entry) : Nat := 2
def mkA (_ : Action) (k : Int) : Action := ⟨k, k + 1, k + 1 + 1, k + 1 + 1 + 1⟩
def stA (_ : Action) : Nat := 4
def mkI (_ : Int) (k : Int) : Int := k
def stI (_ : Int) : Nat := 1

theorem c_laws_markEntryS (nn : Bool) (sz : Nat) (xs : List Entry) (k : Int) (hs : xs = [] ∨ sz = 2) (hx : xs.length < 2 ^ 62) (hk : 0 ≤ k ∧ k + stepS stE xs < 2 ^ 62) :
    FSpecM Tryz.prog 85 [.row 800 xs.length, .int .i64 k] [.osl nn sz (rows encE xs)] (fun r ls' => r = .int .i64 (k + stepS stE xs) ∧ ls' = [.osl nn sz (rows encE (markS mkE stE xs k))]) := by
  refine fspec_introM tab_ok Tryz.call85 Tryz.func85 rfl 27 Tryz.ntmps85 (of_decide_eq_true rfl) (of_decide_eq_true rfl) fun B => codeK_sound tab_ok _ _ _ ?_
  rcases hs with rfl | rfl
  · simp (config := { maxSteps := 4000000 }) only [go_sem, simprocAttr, ↓dnA, Tryz.f85]
    refine semL_for tab_ok (fun i : Nat => ⟨27, [(0, .row 800 0), (1, .int .i64 k), (5, .int .i64 0)], [(800, .row true nn sz (rows encE ([] : List Entry)))]⟩) (fun i => i) (fun _ => True) 0 [(800, 800)] (Weak.of (by rfl) ?_ ?_ (by rfl)) trivial ?_
    · simp (config := { maxSteps := 4000000 }) only [go_sem, simprocAttr, ↓dnA, Tryz.f85, frW, wk2, wk1, wkL, wkB, hpW, List.mem_cons, Prod.mk.injEq, exists_eq_left, exists_eq_right, exists_eq]
    · simp (config := { maxSteps := 4000000 }) only [go_sem, simprocAttr, ↓dnA, Tryz.f85, List.length_nil, nc0, frW, wk2, wk1, wkL, wkB, hpW, List.mem_cons, Prod.mk.injEq, exists_eq_left, exists_eq_right, exists_eq]
    · rintro i -
      simp (config := { maxSteps := 4000000 }) only [go_sem, simprocAttr, ↓dnA, Tryz.f85, List.length_nil, nc0, rows_length]
      simp [stepS, markS, rows]
  · simp (config := { maxSteps := 4000000 }) only [go_sem, simprocAttr, ↓dnA, Tryz.f85, rows_length]
    refine semL_for tab_ok (fun i : Nat => ⟨27, [(0, .row 800 xs.length), (1, .int .i64 (k + (stepS stE (xs.take i) : Int))), (5, .int .i64 i)], [(800, .row true nn 2 (rows encE (midS mkE stE xs k i)))]⟩) (fun i => xs.length - i)
      (fun i => i ≤ xs.length) 0 [(800, 800)] (Weak.of (by rfl) ?_ ?_ (by rfl)) (by omega) ?_
    · simp (config := { maxSteps := 4000000 }) only [go_sem, simprocAttr, ↓dnA, Tryz.f85, midS_zero, frW, wk2, wk1, wkL, wkB, hpW, List.mem_cons, Prod.mk.injEq, exists_eq_left, exists_eq_right, exists_eq]
    · simp (config := { maxSteps := 4000000 }) only [go_sem, simprocAttr, ↓dnA, Tryz.f85, List.take_zero, stepS, Int.add_zero, nc0, frW, wk2, wk1, wkL, wkB, hpW, List.mem_cons, Prod.mk.injEq, exists_eq_left, exists_eq_right, exists_eq]
    · rintro i hi
      by_cases h : i < xs.length
      · have hb := stepS_lt stE xs i h
        have hm : i < (rows encE (midS mkE stE xs k i)).length := by rw [rows_length, midS_length _ _ _ _ _ hi]; exact h
        have hst : stE xs[i] = 2 := rfl
        have hw1 : IntKind.i64.wrap ((k + (stepS stE (xs.take i) : Int)) + 1) = (k + (stepS stE (xs.take i) : Int)) + 1 := wrap_small _ (by omega) (by omega)
        have hw2 : IntKind.i64.wrap ((k + (stepS stE (xs.take i) : Int)) + 1 + 1) = (k + (stepS stE (xs.take i) : Int)) + 1 + 1 := wrap_small _ (by omega) (by omega)
        have hK : k + (stepS stE (xs.take (i + 1)) : Int) = (k + (stepS stE (xs.take i) : Int)) + 1 + 1 := by rw [stepS_take_succ _ _ _ h, hst]; omega
        simp (config := { maxSteps := 4000000 }) only [go_sem, simprocAttr, ↓dnA, Tryz.f85, rows_length, midS_length _ _ _ _ _ hi, List.length_set, nlt h, h, nn0, midS_get _ _ _ _ _ _ h, encE, set_same _ _ _ hm, List.set_set, spliceL, hw1, hw2, wsucc h hx]
        refine ⟨i + 1, [(800, 800)], by omega, by dsimp only; omega, Weak.of (by rfl) ?_ ?_ (by rfl)⟩
        · simp (config := { maxSteps := 4000000 }) only [go_sem, simprocAttr, ↓dnA, Tryz.f85, frW, wk2, wk1, wkL, wkB, hpW, List.mem_cons, Prod.mk.injEq, exists_eq_left, exists_eq_right, exists_eq]
          exact (midS_set encE mkE stE xs k i h).symm
        · simp (config := { maxSteps := 4000000 }) only [go_sem, simprocAttr, ↓dnA, Tryz.f85, hK, wsucc h hx, frW, wk2, wk1, wkL, wkB, hpW, List.mem_cons, Prod.mk.injEq, exists_eq_left, exists_eq_right, exists_eq]
      · have hi' : i = xs.length := by omega
        subst hi'
        simp (config := { maxSteps := 4000000 }) only [go_sem, simprocAttr, ↓dnA, Tryz.f85, nlf h, rows_length, midS_len, List.take_length, markS_length]

theorem c_laws_heldEntryS (n1 : Option Bool) (xs : List Entry) (k : Int) (hx : xs.length < 2 ^ 62) (hk : 0 ≤ k ∧ k + stepS stE xs < 2 ^ 62) :
    Det Tryz.prog 86 [.sl n1 (rows encE (markS mkE stE xs k)), .int .i64 k] (.int .i64 (k + stepS stE xs)) := by
  refine fspec_det tab_ok Tryz.call86 Tryz.func86 rfl 31 Tryz.ntmps86 (of_decide_eq_true rfl) fun B => codeK_sound tab_ok _ _ _ ?_
  simp (config := { maxSteps := 4000000 }) only [go_sem, simprocAttr, ↓dnA, Tryz.f86]
  refine semL_for tab_ok (fun i : Nat => ⟨31, [(0, .sl n1 (rows encE (markS mkE stE xs k))), (1, .int .i64 (k + (stepS stE (xs.take i) : Int))), (5, .int .i64 i)], []⟩) (fun i => xs.length - i)
    (fun i => i ≤ xs.length) 0 [] (Weak.of rfl trivial ?_ rfl) (by omega) ?_
  · simp (config := { maxSteps := 4000000 }) only [go_sem, simprocAttr, ↓dnA, Tryz.f86, List.take_zero, stepS, Int.add_zero, nc0, frW, wk2, wk1, wkL, wkB, hpW, List.mem_cons, Prod.mk.injEq, exists_eq_left, exists_eq_right, exists_eq]
  · rintro i hi
    by_cases h : i < xs.length
    · have hb := stepS_lt stE xs i h
      have hst : stE xs[i] = 2 := rfl
      have hw1 : IntKind.i64.wrap ((k + (stepS stE (xs.take i) : Int)) + 1) = (k + (stepS stE (xs.take i) : Int)) + 1 := wrap_small _ (by omega) (by omega)
      have hw2 : IntKind.i64.wrap ((k + (stepS stE (xs.take i) : Int)) + 1 + 1) = (k + (stepS stE (xs.take i) : Int)) + 1 + 1 := wrap_small _ (by omega) (by omega)
      have hK : k + (stepS stE (xs.take (i + 1)) : Int) = (k + (stepS stE (xs.take i) : Int)) + 1 + 1 := by rw [stepS_take_succ _ _ _ h, hst]; omega
      simp (config := { maxSteps := 4000000 }) only [go_sem, simprocAttr, ↓dnA, Tryz.f86, rows_length, markS_length, nlt h, h, nn0, markS_rget _ _ _ _ _ _ h, encE, mkE, hw1, hw2, wsucc h hx]
      refine ⟨i + 1, [], by omega, by dsimp only; omega, Weak.of rfl trivial ?_ rfl⟩
      simp (config := { maxSteps := 4000000 }) only [go_sem, simprocAttr, ↓dnA, Tryz.f86, hK, wsucc h hx, frW, wk2, wk1, wkL, wkB, hpW, List.mem_cons, Prod.mk.injEq, exists_eq_left, exists_eq_right, exists_eq]
    · have hi' : i = xs.length := by omega
      subst hi'
      simp (config := { maxSteps := 4000000 }) only [go_sem, simprocAttr, ↓dnA, Tryz.f86, nlf h, rows_length, List.take_length, markS_length]


theorem c_laws_markActionS (nn : Bool) (sz : Nat) (xs : List Action) (k : Int) (hs : xs = [] ∨ sz = 4) (hx : xs.length < 2 ^ 62) (hk : 0 ≤ k ∧ k + stepS stA xs < 2 ^ 62) :
    FSpecM Tryz.prog 70 [.row 800 xs.length, .int .i64 k] [.osl nn sz (rows encA xs)] (fun r ls' => r = .int .i64 (k + stepS stA xs) ∧ ls' = [.osl nn sz (rows encA (markS mkA stA xs k))]) := by
  refine fspec_introM tab_ok Tryz.call70 Tryz.func70 rfl 41 Tryz.ntmps70 (of_decide_eq_true rfl) (of_decide_eq_true rfl) fun B => codeK_sound tab_ok _ _ _ ?_
  rcases hs with rfl | rfl
  · simp (config := { maxSteps := 4000000 }) only [go_sem, simprocAttr, ↓dnA, Tryz.f70]
    refine semL_for tab_ok (fun i : Nat => ⟨41, [(0, .row 800 0), (1, .int .i64 k), (5, .int .i64 0)], [(800, .row true nn sz (rows encA ([] : List Action)))]⟩) (fun i => i) (fun _ => True) 0 [(800, 800)] (Weak.of (by rfl) ?_ ?_ (by rfl)) trivial ?_
    · simp (config := { maxSteps := 4000000 }) only [go_sem, simprocAttr, ↓dnA, Tryz.f70, frW, wk2, wk1, wkL, wkB, hpW, List.mem_cons, Prod.mk.injEq, exists_eq_left, exists_eq_right, exists_eq]
    · simp (config := { maxSteps := 4000000 }) only [go_sem, simprocAttr, ↓dnA, Tryz.f70, List.length_nil, nc0, frW, wk2, wk1, wkL, wkB, hpW, List.mem_cons, Prod.mk.injEq, exists_eq_left, exists_eq_right, exists_eq]
    · rintro i -
      simp (config := { maxSteps := 4000000 }) only [go_sem, simprocAttr, ↓dnA, Tryz.f70, List.length_nil, nc0, rows_length]
      simp [stepS, markS, rows]
  · simp (config := { maxSteps := 4000000 }) only [go_sem, simprocAttr, ↓dnA, Tryz.f70, rows_length]
    refine semL_for tab_ok (fun i : Nat => ⟨41, [(0, .row 800 xs.length), (1, .int .i64 (k + (stepS stA (xs.take i) : Int))), (5, .int .i64 i)], [(800, .row true nn 4 (rows encA (midS mkA stA xs k i)))]⟩) (fun i => xs.length - i)
      (fun i => i ≤ xs.length) 0 [(800, 800)] (Weak.of (by rfl) ?_ ?_ (by rfl)) (by omega) ?_
    · simp (config := { maxSteps := 4000000 }) only [go_sem, simprocAttr, ↓dnA, Tryz.f70, midS_zero, frW, wk2, wk1, wkL, wkB, hpW, List.mem_cons, Prod.mk.injEq, exists_eq_left, exists_eq_right, exists_eq]
    · simp (config := { maxSteps := 4000000 }) only [go_sem, simprocAttr, ↓dnA, Tryz.f70, List.take_zero, stepS, Int.add_zero, nc0, frW, wk2, wk1, wkL, wkB, hpW, List.mem_cons, Prod.mk.injEq, exists_eq_left, exists_eq_right, exists_eq]
    · rintro i hi
      by_cases h : i < xs.length
      · have hb := stepS_lt stA xs i h
        have hm : i < (rows encA (midS mkA stA xs k i)).length := by rw [rows_length, midS_length _ _ _ _ _ hi]; exact h
        have hst : stA xs[i] = 4 := rfl
        have hw1 : IntKind.i64.wrap ((k + (stepS stA (xs.take i) : Int)) + 1) = (k + (stepS stA (xs.take i) : Int)) + 1 := wrap_small _ (by omega) (by omega)
        have hw2 : IntKind.i64.wrap ((k + (stepS stA (xs.take i) : Int)) + 1 + 1) = (k + (stepS stA (xs.take i) : Int)) + 1 + 1 := wrap_small _ (by omega) (by omega)
        have hw3 : IntKind.i64.wrap ((k + (stepS stA (xs.take i) : Int)) + 1 + 1 + 1) = (k + (stepS stA (xs.take i) : Int)) + 1 + 1 + 1 := wrap_small _ (by omega) (by omega)
        have hw4 : IntKind.i64.wrap ((k + (stepS stA (xs.take i) : Int)) + 1 + 1 + 1 + 1) = (k + (stepS stA (xs.take i) : Int)) + 1 + 1 + 1 + 1 := wrap_small _ (by omega) (by omega)
        have hK : k + (stepS stA (xs.take (i + 1)) : Int) = (k + (stepS stA (xs.take i) : Int)) + 1 + 1 + 1 + 1 := by rw [stepS_take_succ _ _ _ h, hst]; omega
        simp (config := { maxSteps := 4000000 }) only [go_sem, simprocAttr, ↓dnA, Tryz.f70, rows_length, midS_length _ _ _ _ _ hi, List.length_set, nlt h, h, nn0, midS_get _ _ _ _ _ _ h, encA, set_same _ _ _ hm, List.set_set, spliceL, hw1, hw2, hw3, hw4, wsucc h hx]
        refine ⟨i + 1, [(800, 800)], by omega, by dsimp only; omega, Weak.of (by rfl) ?_ ?_ (by rfl)⟩
        · simp (config := { maxSteps := 4000000 }) only [go_sem, simprocAttr, ↓dnA, Tryz.f70, frW, wk2, wk1, wkL, wkB, hpW, List.mem_cons, Prod.mk.injEq, exists_eq_left, exists_eq_right, exists_eq]
          exact (midS_set encA mkA stA xs k i h).symm
        · simp (config := { maxSteps := 4000000 }) only [go_sem, simprocAttr, ↓dnA, Tryz.f70, hK, wsucc h hx, frW, wk2, wk1, wkL, wkB, hpW, List.mem_cons, Prod.mk.injEq, exists_eq_left, exists_eq_right, exists_eq]
      · have hi' : i = xs.length := by omega
        subst hi'
        simp (config := { maxSteps := 4000000 }) only [go_sem, simprocAttr, ↓dnA, Tryz.f70, nlf h, rows_length, midS_len, List.take_length, markS_length]

theorem c_laws_heldActionS (n1 : Option Bool) (xs : List Action) (k : Int) (hx : xs.length < 2 ^ 62) (hk : 0 ≤ k ∧ k + stepS stA xs < 2 ^ 62) :
    Det Tryz.prog 71 [.sl n1 (rows encA (markS mkA stA xs k)), .int .i64 k] (.int .i64 (k + stepS stA xs)) := by
  refine fspec_det tab_ok Tryz.call71 Tryz.func71 rfl 49 Tryz.ntmps71 (of_decide_eq_true rfl) fun B => codeK_sound tab_ok _ _ _ ?_
  simp (config := { maxSteps := 4000000 }) only [go_sem, simprocAttr, ↓dnA, Tryz.f71]
  refine semL_for tab_ok (fun i : Nat => ⟨49, [(0, .sl n1 (rows encA (markS mkA stA xs k))), (1, .int .i64 (k + (stepS stA (xs.take i) : Int))), (5, .int .i64 i)], []⟩) (fun i => xs.length - i)
    (fun i => i ≤ xs.length) 0 [] (Weak.of rfl trivial ?_ rfl) (by omega) ?_
  · simp (config := { maxSteps := 4000000 }) only [go_sem, simprocAttr, ↓dnA, Tryz.f71, List.take_zero, stepS, Int.add_zero, nc0, frW, wk2, wk1, wkL, wkB, hpW, List.mem_cons, Prod.mk.injEq, exists_eq_left, exists_eq_right, exists_eq]
  · rintro i hi
    by_cases h : i < xs.length
    · have hb := stepS_lt stA xs i h
      have hst : stA xs[i] = 4 := rfl
      have hw1 : IntKind.i64.wrap ((k + (stepS stA (xs.take i) : Int)) + 1) = (k + (stepS stA (xs.take i) : Int)) + 1 := wrap_small _ (by omega) (by omega)
      have hw2 : IntKind.i64.wrap ((k + (stepS stA (xs.take i) : Int)) + 1 + 1) = (k + (stepS stA (xs.take i) : Int)) + 1 + 1 := wrap_small _ (by omega) (by omega)
      have hw3 : IntKind.i64.wrap ((k + (stepS stA (xs.take i) : Int)) + 1 + 1 + 1) = (k + (stepS stA (xs.take i) : Int)) + 1 + 1 + 1 := wrap_small _ (by omega) (by omega)
      have hw4 : IntKind.i64.wrap ((k + (stepS stA (xs.take i) : Int)) + 1 + 1 + 1 + 1) = (k + (stepS stA (xs.take i) : Int)) + 1 + 1 + 1 + 1 := wrap_small _ (by omega) (by omega)
      have hK : k + (stepS stA (xs.take (i + 1)) : Int) = (k + (stepS stA (xs.take i) : Int)) + 1 + 1 + 1 + 1 := by rw [stepS_take_succ _ _ _ h, hst]; omega
      simp (config := { maxSteps := 4000000 }) only [go_sem, simprocAttr, ↓dnA, Tryz.f71, rows_length, markS_length, nlt h, h, nn0, markS_rget _ _ _ _ _ _ h, encA, mkA, hw1, hw2, hw3, hw4, wsucc h hx]
      refine ⟨i + 1, [], by omega, by dsimp only; omega, Weak.of rfl trivial ?_ rfl⟩
      simp (config := { maxSteps := 4000000 }) only [go_sem, simprocAttr, ↓dnA, Tryz.f71, hK, wsucc h hx, frW, wk2, wk1, wkL, wkB, hpW, List.mem_cons, Prod.mk.injEq, exists_eq_left, exists_eq_right, exists_eq]
    · have hi' : i = xs.length := by omega
      subst hi'
      simp (config := { maxSteps := 4000000 }) only [go_sem, simprocAttr, ↓dnA, Tryz.f71, nlf h, rows_length, List.take_length, markS_length]


theorem c_laws_markIntS (nn : Bool) (sz : Nat) (xs : List Int) (k : Int) (hs : xs = [] ∨ sz = 1) (hx : xs.length < 2 ^ 62) (hk : 0 ≤ k ∧ k + stepS stI xs < 2 ^ 62) :
    FSpecM Tryz.prog 63 [.row 800 xs.length, .int .i64 k] [.osl nn sz (rows encI xs)] (fun r ls' => r = .int .i64 (k + stepS stI xs) ∧ ls' = [.osl nn sz (rows encI (markS mkI stI xs k))]) := by
  refine fspec_introM tab_ok Tryz.call63 Tryz.func63 rfl 19 Tryz.ntmps63 (of_decide_eq_true rfl) (of_decide_eq_true rfl) fun B => codeK_sound tab_ok _ _ _ ?_
  rcases hs with rfl | rfl
  · simp (config := { maxSteps := 4000000 }) only [go_sem, simprocAttr, ↓dnA, Tryz.f63]
    refine semL_for tab_ok (fun i : Nat => ⟨19, [(0, .row 800 0), (1, .int .i64 k), (5, .int .i64 0)], [(800, .row true nn sz (rows encI ([] : List Int)))]⟩) (fun i => i) (fun _ => True) 0 [(800, 800)] (Weak.of (by rfl) ?_ ?_ (by rfl)) trivial ?_
    · simp (config := { maxSteps := 4000000 }) only [go_sem, simprocAttr, ↓dnA, Tryz.f63, frW, wk2, wk1, wkL, wkB, hpW, List.mem_cons, Prod.mk.injEq, exists_eq_left, exists_eq_right, exists_eq]
    · simp (config := { maxSteps := 4000000 }) only [go_sem, simprocAttr, ↓dnA, Tryz.f63, List.length_nil, nc0, frW, wk2, wk1, wkL, wkB, hpW, List.mem_cons, Prod.mk.injEq, exists_eq_left, exists_eq_right, exists_eq]
    · rintro i -
      simp (config := { maxSteps := 4000000 }) only [go_sem, simprocAttr, ↓dnA, Tryz.f63, List.length_nil, nc0, rows_length]
      simp [stepS, markS, rows]
  · simp (config := { maxSteps := 4000000 }) only [go_sem, simprocAttr, ↓dnA, Tryz.f63, rows_length]
    refine semL_for tab_ok (fun i : Nat => ⟨19, [(0, .row 800 xs.length), (1, .int .i64 (k + (stepS stI (xs.take i) : Int))), (5, .int .i64 i)], [(800, .row true nn 1 (rows encI (midS mkI stI xs k i)))]⟩) (fun i => xs.length - i)
      (fun i => i ≤ xs.length) 0 [(800, 800)] (Weak.of (by rfl) ?_ ?_ (by rfl)) (by omega) ?_
    · simp (config := { maxSteps := 4000000 }) only [go_sem, simprocAttr, ↓dnA, Tryz.f63, midS_zero, frW, wk2, wk1, wkL, wkB, hpW, List.mem_cons, Prod.mk.injEq, exists_eq_left, exists_eq_right, exists_eq]
    · simp (config := { maxSteps := 4000000 }) only [go_sem, simprocAttr, ↓dnA, Tryz.f63, List.take_zero, stepS, Int.add_zero, nc0, frW, wk2, wk1, wkL, wkB, hpW, List.mem_cons, Prod.mk.injEq, exists_eq_left, exists_eq_right, exists_eq]
    · rintro i hi
      by_cases h : i < xs.length
      · have hb := stepS_lt stI xs i h
        have hm : i < (rows encI (midS mkI stI xs k i)).length := by rw [rows_length, midS_length _ _ _ _ _ hi]; exact h
        have hst : stI xs[i] = 1 := rfl
        have hw1 : IntKind.i64.wrap ((k + (stepS stI (xs.take i) : Int)) + 1) = (k + (stepS stI (xs.take i) : Int)) + 1 := wrap_small _ (by omega) (by omega)
        have hK : k + (stepS stI (xs.take (i + 1)) : Int) = (k + (stepS stI (xs.take i) : Int)) + 1 := by rw [stepS_take_succ _ _ _ h, hst]; omega
        simp (config := { maxSteps := 4000000 }) only [go_sem, simprocAttr, ↓dnA, Tryz.f63, rows_length, midS_length _ _ _ _ _ hi, List.length_set, nlt h, h, nn0, midS_get _ _ _ _ _ _ h, encI, set_same _ _ _ hm, List.set_set, spliceL, hw1, wsucc h hx]
        refine ⟨i + 1, [(800, 800)], by omega, by dsimp only; omega, Weak.of (by rfl) ?_ ?_ (by rfl)⟩
        · simp (config := { maxSteps := 4000000 }) only [go_sem, simprocAttr, ↓dnA, Tryz.f63, frW, wk2, wk1, wkL, wkB, hpW, List.mem_cons, Prod.mk.injEq, exists_eq_left, exists_eq_right, exists_eq]
          exact (midS_set encI mkI stI xs k i h).symm
        · simp (config := { maxSteps := 4000000 }) only [go_sem, simprocAttr, ↓dnA, Tryz.f63, hK, wsucc h hx, frW, wk2, wk1, wkL, wkB, hpW, List.mem_cons, Prod.mk.injEq, exists_eq_left, exists_eq_right, exists_eq]
      · have hi' : i = xs.length := by omega
        subst hi'
        simp (config := { maxSteps := 4000000 }) only [go_sem, simprocAttr, ↓dnA, Tryz.f63, nlf h, rows_length, midS_len, List.take_length, markS_length]

theorem c_laws_heldIntS (n1 : Option Bool) (xs : List Int) (k : Int) (hx : xs.length < 2 ^ 62) (hk : 0 ≤ k ∧ k + stepS stI xs < 2 ^ 62) :
    Det Tryz.prog 64 [.sl n1 (rows encI (markS mkI stI xs k)), .int .i64 k] (.int .i64 (k + stepS stI xs)) := by
  refine fspec_det tab_ok Tryz.call64 Tryz.func64 rfl 21 Tryz.ntmps64 (of_decide_eq_true rfl) fun B => codeK_sound tab_ok _ _ _ ?_
  simp (config := { maxSteps := 4000000 }) only [go_sem, simprocAttr, ↓dnA, Tryz.f64]
  refine semL_for tab_ok (fun i : Nat => ⟨21, [(0, .sl n1 (rows encI (markS mkI stI xs k))), (1, .int .i64 (k + (stepS stI (xs.take i) : Int))), (5, .int .i64 i)], []⟩) (fun i => xs.length - i)
    (fun i => i ≤ xs.length) 0 [] (Weak.of rfl trivial ?_ rfl) (by omega) ?_
  · simp (config := { maxSteps := 4000000 }) only [go_sem, simprocAttr, ↓dnA, Tryz.f64, List.take_zero, stepS, Int.add_zero, nc0, frW, wk2, wk1, wkL, wkB, hpW, List.mem_cons, Prod.mk.injEq, exists_eq_left, exists_eq_right, exists_eq]
  · rintro i hi
    by_cases h : i < xs.length
    · have hb := stepS_lt stI xs i h
      have hst : stI xs[i] = 1 := rfl
      have hw1 : IntKind.i64.wrap ((k + (stepS stI (xs.take i) : Int)) + 1) = (k + (stepS stI (xs.take i) : Int)) + 1 := wrap_small _ (by omega) (by omega)
      have hK : k + (stepS stI (xs.take (i + 1)) : Int) = (k + (stepS stI (xs.take i) : Int)) + 1 := by rw [stepS_take_succ _ _ _ h, hst]; omega
      simp (config := { maxSteps := 4000000 }) only [go_sem, simprocAttr, ↓dnA, Tryz.f64, rows_length, markS_length, nlt h, h, nn0, markS_rget _ _ _ _ _ _ h, encI, mkI, hw1, wsucc h hx]
      refine ⟨i + 1, [], by omega, by dsimp only; omega, Weak.of rfl trivial ?_ rfl⟩
      simp (config := { maxSteps := 4000000 }) only [go_sem, simprocAttr, ↓dnA, Tryz.f64, hK, wsucc h hx, frW, wk2, wk1, wkL, wkB, hpW, List.mem_cons, Prod.mk.injEq, exists_eq_left, exists_eq_right, exists_eq]
    · have hi' : i = xs.length := by omega
      subst hi'
      simp (config := { maxSteps := 4000000 }) only [go_sem, simprocAttr, ↓dnA, Tryz.f64, nlf h, rows_length, List.take_length, markS_length]


end Go.Proofs.YtmibclbinebnjaaGreat

/- Contracts: the laws' marks of blocks and trees. -/
set_option linter.unusedSimpArgs false
set_option linter.unusedVariables false
set_option maxRecDepth 20000
set_option maxHeartbeats 4000000
namespace Go.Proofs.YtmibclbinebnjaaGreat
open Go Go.RowKit

theorem stepS_const {α : Type} (st : α → Nat) (c : Nat) (h : ∀ x, st x = c) : ∀ xs : List α, stepS st xs = c * xs.length
  | [] => by simp [stepS]
  | x :: r => by rw [stepS, stepS_const st c h r, h x, List.length_cons, Nat.mul_add, Nat.mul_one, Nat.add_comm]

theorem sz_of {α : Type} (e : α → List AV) (xs : List α) (n sz : Nat) (he : ∀ x, (e x).length = n) (h : ∀ r ∈ rows e xs, r.length = sz) : xs = [] ∨ sz = n := by
  cases xs with
  | nil => exact .inl rfl
  | cons x r => exact .inr ((h (e x) (by simp [rows])).symm.trans (he x))

def mkB (b : Block) (k : Int) : Block :=
  ⟨k, k + 1, k + 1 + 1, markS mkA stA b.list (k + 1 + 1 + 1), k + 1 + 1 + 1 + (stepS stA b.list : Int), k + 1 + 1 + 1 + (stepS stA b.list : Int) + 1⟩
def stB (b : Block) : Nat := 5 + stepS stA b.list

theorem c_laws_markBlockS (nn : Bool) (xs : List Block) (k : Int) (hx : xs.length < 2 ^ 62) (hk : 0 ≤ k ∧ k + stepS stB xs < 2 ^ 62) :
    FSpecM Tryz.prog 129 [.row 800 xs.length, .int .i64 k] [.osl nn 6 (rows encB1 xs)] (fun r ls' => r = .int .i64 (k + stepS stB xs) ∧ ls' = [.osl nn 6 (rows encB1 (markS mkB stB xs k))]) := by
  refine fspec_introM tab_ok Tryz.call129 Tryz.func129 rfl 55 Tryz.ntmps129 (of_decide_eq_true rfl) (of_decide_eq_true rfl) fun B => codeK_sound tab_ok _ _ _ ?_
  simp (config := { maxSteps := 4000000 }) only [go_sem, simprocAttr, ↓dnA, Tryz.f129, rows_length]
  refine semL_for tab_ok (fun i : Nat => ⟨55, [(0, .row 800 xs.length), (1, .int .i64 (k + (stepS stB (xs.take i) : Int))), (5, .int .i64 i)], [(800, .row true nn 6 (rows encB1 (midS mkB stB xs k i)))]⟩) (fun i => xs.length - i)
    (fun i => i ≤ xs.length) 0 [(800, 800)] (Weak.of (by rfl) ?_ ?_ (by rfl)) (by omega) ?_
  · simp (config := { maxSteps := 4000000 }) only [go_sem, simprocAttr, ↓dnA, Tryz.f129, midS_zero, frW, wk2, wk1, wkL, wkB, hpW, List.mem_cons, Prod.mk.injEq, exists_eq_left, exists_eq_right, exists_eq]
  · simp (config := { maxSteps := 4000000 }) only [go_sem, simprocAttr, ↓dnA, Tryz.f129, List.take_zero, stepS, Int.add_zero, nc0, frW, wk2, wk1, wkL, wkB, hpW, List.mem_cons, Prod.mk.injEq, exists_eq_left, exists_eq_right, exists_eq]
  · rintro i hi
    by_cases h : i < xs.length
    · have hb := stepS_lt stB xs i h
      have hm : i < (rows encB1 (midS mkB stB xs k i)).length := by rw [rows_length, midS_length _ _ _ _ _ hi]; exact h
      have hst : stB xs[i] = 5 + stepS stA xs[i].list := rfl
      have hl4 := stepS_const stA 4 (fun _ => rfl) xs[i].list
      have hK : k + (stepS stB (xs.take (i + 1)) : Int) = k + (stepS stB (xs.take i) : Int) + 1 + 1 + 1 + (stepS stA xs[i].list : Int) + 1 + 1 := by rw [stepS_take_succ _ _ _ h, hst]; omega
      have hs := midS_set encB1 mkB stB xs k i h
      unfold mkB at hs
      generalize hKe : k + (stepS stB (xs.take i) : Int) = K at *
      have hw1 : IntKind.i64.wrap (K + 1) = K + 1 := wrap_small _ (by omega) (by omega)
      have hw2 : IntKind.i64.wrap (K + 1 + 1) = K + 1 + 1 := wrap_small _ (by omega) (by omega)
      have hw3 : IntKind.i64.wrap (K + 1 + 1 + 1) = K + 1 + 1 + 1 := wrap_small _ (by omega) (by omega)
      have hw4 : IntKind.i64.wrap (K + 1 + 1 + 1 + (stepS stA xs[i].list : Int) + 1) = K + 1 + 1 + 1 + (stepS stA xs[i].list : Int) + 1 := wrap_small _ (by omega) (by omega)
      have hw5 : IntKind.i64.wrap (K + 1 + 1 + 1 + (stepS stA xs[i].list : Int) + 1 + 1) = K + 1 + 1 + 1 + (stepS stA xs[i].list : Int) + 1 + 1 := wrap_small _ (by omega) (by omega)
      simp (config := { maxSteps := 4000000 }) only [go_sem, simprocAttr, ↓dnA, Tryz.f129, rows_length, midS_length _ _ _ _ _ hi, List.length_set, nlt h, h, nn0, midS_get _ _ _ _ _ _ h, encB1, encBk, set_same _ _ _ hm, List.set_set, spliceL, hw1, hw2, hw3]
      intro sz2 hz2 hl2
      refine CallMTo.of (c_laws_markActionS false sz2 xs[i].list (K + 1 + 1 + 1) (sz_of encA xs[i].list 4 sz2 (fun _ => rfl) hl2) (by omega) (by omega)) ?_
      rintro r ls' ⟨rfl, rfl⟩ es2' he
      simp only [List.cons.injEq, AV.osl.injEq, and_true, true_and] at he
      subst he
      have hs' : (rows encB1 (midS mkB stB xs k i)).set i [.int .i64 K, .int .i64 (K + 1), .int .i64 (K + 1 + 1), .sl none (rows encA (markS mkA stA xs[i].list (K + 1 + 1 + 1))), .int .i64 (K + 1 + 1 + 1 + (stepS stA xs[i].list : Int)), .int .i64 (K + 1 + 1 + 1 + (stepS stA xs[i].list : Int) + 1)] = rows encB1 (midS mkB stB xs k (i + 1)) := hs
      simp (config := { maxSteps := 4000000 }) only [go_sem, simprocAttr, ↓dnA, Tryz.f129, rows_length, midS_length _ _ _ _ _ hi, List.length_set, nlt h, h, nn0, midS_get _ _ _ _ _ _ h, encB1, encBk, set_same _ _ _ hm, List.set_set, spliceL, hw4, hw5, wsucc h hx]
      refine ⟨i + 1, [(800, 800)], by omega, by dsimp only; omega, Weak.of (by rfl) ?_ ?_ (by rfl)⟩
      · simp (config := { maxSteps := 4000000 }) only [go_sem, simprocAttr, ↓dnA, Tryz.f129, frW, wk2, wk1, wkL, wkB, hpW, List.mem_cons, Prod.mk.injEq, exists_eq_left, exists_eq_right, exists_eq]
        exact hs'.symm
      · simp (config := { maxSteps := 4000000 }) only [go_sem, simprocAttr, ↓dnA, Tryz.f129, hK, wsucc h hx, frW, wk2, wk1, wkL, wkB, hpW, List.mem_cons, Prod.mk.injEq, exists_eq_left, exists_eq_right, exists_eq]
    · have hi' : i = xs.length := by omega
      subst hi'
      simp (config := { maxSteps := 4000000 }) only [go_sem, simprocAttr, ↓dnA, Tryz.f129, nlf h, rows_length, midS_len, List.take_length, markS_length]

theorem c_laws_heldBlockS (n1 : Option Bool) (xs : List Block) (k : Int) (hx : xs.length < 2 ^ 62) (hk : 0 ≤ k ∧ k + stepS stB xs < 2 ^ 62) :
    Det Tryz.prog 153 [.sl n1 (rows encB1 (markS mkB stB xs k)), .int .i64 k] (.int .i64 (k + stepS stB xs)) := by
  refine fspec_det tab_ok Tryz.call153 Tryz.func153 rfl 67 Tryz.ntmps153 (of_decide_eq_true rfl) fun B => codeK_sound tab_ok _ _ _ ?_
  simp (config := { maxSteps := 4000000 }) only [go_sem, simprocAttr, ↓dnA, Tryz.f153]
  refine semL_for tab_ok (fun i : Nat => ⟨67, [(0, .sl n1 (rows encB1 (markS mkB stB xs k))), (1, .int .i64 (k + (stepS stB (xs.take i) : Int))), (5, .int .i64 i)], []⟩) (fun i => xs.length - i)
    (fun i => i ≤ xs.length) 0 [] (Weak.of rfl trivial ?_ rfl) (by omega) ?_
  · simp (config := { maxSteps := 4000000 }) only [go_sem, simprocAttr, ↓dnA, Tryz.f153, List.take_zero, stepS, Int.add_zero, nc0, frW, wk2, wk1, wkL, wkB, hpW, List.mem_cons, Prod.mk.injEq, exists_eq_left, exists_eq_right, exists_eq]
  · rintro i hi
    by_cases h : i < xs.length
    · have hb := stepS_lt stB xs i h
      have hst : stB xs[i] = 5 + stepS stA xs[i].list := rfl
      have hl4 := stepS_const stA 4 (fun _ => rfl) xs[i].list
      have hK : k + (stepS stB (xs.take (i + 1)) : Int) = k + (stepS stB (xs.take i) : Int) + 1 + 1 + 1 + (stepS stA xs[i].list : Int) + 1 + 1 := by rw [stepS_take_succ _ _ _ h, hst]; omega
      have hg := markS_rget encB1 mkB stB xs i k h
      generalize hKe : k + (stepS stB (xs.take i) : Int) = K at *
      have hw1 : IntKind.i64.wrap (K + 1) = K + 1 := wrap_small _ (by omega) (by omega)
      have hw2 : IntKind.i64.wrap (K + 1 + 1) = K + 1 + 1 := wrap_small _ (by omega) (by omega)
      have hw3 : IntKind.i64.wrap (K + 1 + 1 + 1) = K + 1 + 1 + 1 := wrap_small _ (by omega) (by omega)
      have hw4 : IntKind.i64.wrap (K + 1 + 1 + 1 + (stepS stA xs[i].list : Int) + 1) = K + 1 + 1 + 1 + (stepS stA xs[i].list : Int) + 1 := wrap_small _ (by omega) (by omega)
      have hw5 : IntKind.i64.wrap (K + 1 + 1 + 1 + (stepS stA xs[i].list : Int) + 1 + 1) = K + 1 + 1 + 1 + (stepS stA xs[i].list : Int) + 1 + 1 := wrap_small _ (by omega) (by omega)
      have hd : decide (K + 1 + 1 + 1 + (stepS stA xs[i].list : Int) < 0) = false := by simp; omega
      simp (config := { maxSteps := 4000000 }) only [go_sem, simprocAttr, ↓dnA, Tryz.f153, rows_length, markS_length, nlt h, h, nn0, hg, encB1, encBk, mkB, hw1, hw2, hw3]
      refine CallTo.det (c_laws_heldActionS none xs[i].list (K + 1 + 1 + 1) (by omega) (by omega)) fun _ => ?_
      simp (config := { maxSteps := 4000000 }) only [go_sem, simprocAttr, ↓dnA, Tryz.f153, rows_length, markS_length, nlt h, h, nn0, hg, encB1, encBk, mkB, hw4, hw5, hd, wsucc h hx]
      refine ⟨i + 1, [], by omega, by dsimp only; omega, Weak.of rfl trivial ?_ rfl⟩
      simp (config := { maxSteps := 4000000 }) only [go_sem, simprocAttr, ↓dnA, Tryz.f153, hK, wsucc h hx, frW, wk2, wk1, wkL, wkB, hpW, List.mem_cons, Prod.mk.injEq, exists_eq_left, exists_eq_right, exists_eq]
    · have hi' : i = xs.length := by omega
      subst hi'
      simp (config := { maxSteps := 4000000 }) only [go_sem, simprocAttr, ↓dnA, Tryz.f153, nlf h, rows_length, List.take_length, markS_length]

def stT (t : Tree) : Nat := stepS stE t.base + stepS stB t.blocks + stepS stI t.before
def mkT (t : Tree) (k : Int) : Tree :=
  ⟨markS mkE stE t.base k, markS mkB stB t.blocks (k + (stepS stE t.base : Int)), markS mkI stI t.before (k + (stepS stE t.base : Int) + (stepS stB t.blocks : Int))⟩

theorem c_laws_markBlockTree (n1 n2 n3 : Bool) (t : Tree) (k : Int) (hx : TreeSz t) (hk : 0 ≤ k ∧ k + stT t < 2 ^ 62) :
    FSpecM Tryz.prog 52 [.agg [.row 800 t.base.length, .row 801 t.blocks.length, .row 802 t.before.length], .int .i64 k] [.osl n1 2 (rows encE t.base), .osl n2 6 (rows encB1 t.blocks), .osl n3 1 (rows encI t.before)]
      (fun r ls' => r = .int .i64 (k + stT t) ∧ ls' = [.osl n1 2 (rows encE (mkT t k).base), .osl n2 6 (rows encB1 (mkT t k).blocks), .osl n3 1 (rows encI (mkT t k).before)]) := by
  refine fspec_introM tab_ok Tryz.call52 Tryz.func52 rfl 18 Tryz.ntmps52 (of_decide_eq_true rfl) (of_decide_eq_true rfl) fun B => codeK_sound tab_ok _ _ _ ?_
  unfold stT at hk ⊢
  have he : k + ((stepS stE t.base + stepS stB t.blocks + stepS stI t.before : Nat) : Int) = k + (stepS stE t.base : Int) + (stepS stB t.blocks : Int) + (stepS stI t.before : Int) := by omega
  simp (config := { maxSteps := 4000000 }) only [go_sem, simprocAttr, ↓dnA, Tryz.f52, List.nodup_cons, rows_length]
  refine CallMTo.of (c_laws_markEntryS n1 2 t.base k (.inr rfl) hx.base ⟨hk.1, by omega⟩) ?_
  rintro r ls' ⟨rfl, rfl⟩
  simp (config := { maxSteps := 4000000 }) only [go_sem, simprocAttr, ↓dnA, Tryz.f52, List.nodup_cons, rows_length]
  refine CallMTo.of (c_laws_markBlockS n2 t.blocks _ hx.blocks ⟨by omega, by omega⟩) ?_
  rintro r ls' ⟨rfl, rfl⟩
  simp (config := { maxSteps := 4000000 }) only [go_sem, simprocAttr, ↓dnA, Tryz.f52, List.nodup_cons, rows_length]
  refine CallMTo.of (c_laws_markIntS n3 1 t.before _ (.inr rfl) hx.before ⟨by omega, by omega⟩) ?_
  rintro r ls' ⟨rfl, rfl⟩
  simp (config := { maxSteps := 4000000 }) only [go_sem, simprocAttr, ↓dnA, Tryz.f52, List.nodup_cons, rows_length, markS_length, mkT, he]

theorem c_laws_heldBlockTree (n1 n2 n3 : Option Bool) (t : Tree) (k : Int) (hx : TreeSz t) (hk : 0 ≤ k ∧ k + stT t < 2 ^ 62) :
    Det Tryz.prog 78 [.agg (encT n1 n2 n3 (mkT t k)), .int .i64 k] (.int .i64 (k + stT t)) := by
  refine fspec_det tab_ok Tryz.call78 Tryz.func78 rfl 24 Tryz.ntmps78 (of_decide_eq_true rfl) fun B => codeK_sound tab_ok _ _ _ ?_
  unfold stT at hk ⊢
  have he : k + ((stepS stE t.base + stepS stB t.blocks + stepS stI t.before : Nat) : Int) = k + (stepS stE t.base : Int) + (stepS stB t.blocks : Int) + (stepS stI t.before : Int) := by omega
  have d1 : decide (k + (stepS stE t.base : Int) < 0) = false := by simp; omega
  have d2 : decide (k + (stepS stE t.base : Int) + (stepS stB t.blocks : Int) < 0) = false := by simp; omega
  have d3 : decide (k + (stepS stE t.base : Int) + (stepS stB t.blocks : Int) + (stepS stI t.before : Int) < 0) = false := by simp; omega
  unfold encT mkT
  simp (config := { maxSteps := 4000000 }) only [go_sem, simprocAttr, ↓dnA, Tryz.f78, List.nodup_cons]
  refine CallTo.det (c_laws_heldEntryS n1 t.base k hx.base ⟨hk.1, by omega⟩) fun _ => ?_
  simp (config := { maxSteps := 4000000 }) only [go_sem, simprocAttr, ↓dnA, Tryz.f78, List.nodup_cons, d1]
  refine CallTo.det (c_laws_heldBlockS n2 t.blocks _ hx.blocks ⟨by omega, by omega⟩) fun _ => ?_
  simp (config := { maxSteps := 4000000 }) only [go_sem, simprocAttr, ↓dnA, Tryz.f78, List.nodup_cons, d1, d2]
  refine CallTo.det (c_laws_heldIntS n3 t.before _ hx.before ⟨by omega, by omega⟩) fun _ => ?_
  simp (config := { maxSteps := 4000000 }) only [go_sem, simprocAttr, ↓dnA, Tryz.f78, List.nodup_cons, d1, d2, d3, he]

end Go.Proofs.YtmibclbinebnjaaGreat

/- Contracts: reversed lists, the way to a block. -/
set_option linter.unusedSimpArgs false
set_option linter.unusedVariables false
set_option maxRecDepth 20000
set_option maxHeartbeats 4000000
namespace Go.Proofs.YtmibclbinebnjaaGreat
open Go Go.RowKit

theorem semL_ghost {P : Program} {B : Base} {c : Code} {s t : AState} {Kx : Exit → AState → Prop} (hg : Ghost s t) (h : @SemL P B c t ⟨Kx⟩) : @SemL P B c s ⟨Kx⟩ := by
  intro X a w hB hR
  obtain ⟨X', e, hR'⟩ := hg X a w hR
  exact h X' a w (e.trans hB) hR'

/-- The first i elements are exchanged with the last i. -/
def revTo {α : Type} (xs : List α) (i : Nat) : List α := (xs.drop (xs.length - i)).reverse ++ ((xs.take (xs.length - i)).drop i) ++ (xs.take i).reverse

theorem revTo_zero {α : Type} (xs : List α) : revTo xs 0 = xs := by simp [revTo]
theorem revTo_length {α : Type} (xs : List α) (i : Nat) (h : 2 * i ≤ xs.length) : (revTo xs i).length = xs.length := by
  simp only [revTo, List.length_append, List.length_reverse, List.length_drop, List.length_take]; omega
theorem revTo_getElem {α : Type} (xs : List α) (i k : Nat) (h : 2 * i ≤ xs.length) (hk : k < xs.length) :
    (revTo xs i)[k]? = if k < i ∨ xs.length - i ≤ k then xs[xs.length - 1 - k]? else xs[k]? := by
  unfold revTo
  have l1 : ((xs.drop (xs.length - i)).reverse).length = i := by rw [List.length_reverse, List.length_drop]; omega
  have l2 : ((xs.take (xs.length - i)).drop i).length = xs.length - i - i := by rw [List.length_drop, List.length_take]; omega
  by_cases h1 : k < i
  · rw [if_pos (.inl h1), List.append_assoc, List.getElem?_append_left (by omega), List.getElem?_reverse (by rw [List.length_drop]; omega), List.length_drop, List.getElem?_drop]
    congr 1; omega
  · by_cases h2 : xs.length - i ≤ k
    · rw [if_pos (.inr h2), List.getElem?_append_right (by rw [List.length_append]; omega), List.length_append, l1, l2, List.getElem?_reverse (by rw [List.length_take]; omega), List.length_take, List.getElem?_take, if_pos (by omega)]
      congr 1; omega
    · rw [if_neg (by omega), List.append_assoc, List.getElem?_append_right (by omega), List.getElem?_append_left (by omega), List.getElem?_drop, List.getElem?_take, l1, if_pos (by omega)]
      congr 1; omega
theorem revTo_step {α : Type} (xs : List α) (i : Nat) (h : i < xs.length - 1 - i) :
    ((revTo xs i).set i (xs[xs.length - 1 - i]'(by omega))).set (xs.length - 1 - i) (xs[i]'(by omega)) = revTo xs (i + 1) := by
  apply List.ext_getElem?
  intro k
  have hl := revTo_length xs i (by omega)
  have hl' := revTo_length xs (i + 1) (by omega)
  by_cases hk : k < xs.length
  · rw [List.getElem?_set, List.getElem?_set, revTo_getElem xs i k (by omega) hk, revTo_getElem xs (i + 1) k (by omega) hk]
    simp only [List.length_set, hl]
    by_cases h1 : xs.length - 1 - i = k
    · subst h1
      rw [if_pos rfl, if_pos (by omega), if_pos (.inr (by omega)), show xs.length - 1 - (xs.length - 1 - i) = i by omega, List.getElem?_eq_getElem (by omega)]
    · rw [if_neg h1]
      by_cases h2 : i = k
      · subst h2
        rw [if_pos rfl, if_pos (by omega), if_pos (.inl (by omega)), List.getElem?_eq_getElem (by omega)]
      · rw [if_neg h2]
        by_cases h3 : k < i ∨ xs.length - i ≤ k
        · rw [if_pos h3, if_pos (by omega)]
        · rw [if_neg h3, if_neg (by omega)]
  · rw [List.getElem?_eq_none (by simp; omega), List.getElem?_eq_none (by omega)]
theorem revTo_full {α : Type} (xs : List α) (i : Nat) (h : ¬ i < xs.length - 1 - i) (h2 : 2 * i ≤ xs.length) : revTo xs i = xs.reverse := by
  apply List.ext_getElem?
  intro k
  by_cases hk : k < xs.length
  · rw [revTo_getElem xs i k h2 hk, List.getElem?_reverse hk]
    split
    · rfl
    · rw [show xs.length - 1 - k = k by omega]
  · rw [List.getElem?_eq_none (by rw [revTo_length xs i h2]; omega), List.getElem?_eq_none (by simp; omega)]

theorem c_slices_Reverse_int (nn : Bool) (xs : List Int) (hx : xs.length < 2 ^ 62) :
    FSpecM Tryz.prog 192 [.row 800 xs.length] [.osl nn 1 (rows encI xs)] (fun r ls' => r = .tup [] ∧ ls' = [.osl nn 1 (rows encI xs.reverse)]) := by
  refine fspec_introM tab_ok Tryz.call192 Tryz.func192 rfl 28 Tryz.ntmps192 (of_decide_eq_true rfl) (of_decide_eq_true rfl) fun B => codeK_sound tab_ok _ _ _ ?_
  have hw0 : IntKind.i64.wrap ((xs.length : Int) - 1) = (xs.length : Int) - 1 := wrap_small _ (by omega) (by omega)
  simp (config := { maxSteps := 4000000 }) only [go_sem, simprocAttr, ↓dnA, Tryz.f192, rows_length, hw0]
  refine semL_for tab_ok (fun i : Nat => ⟨28, [(0, .row 800 xs.length), (2, .int .i64 i), (3, .int .i64 ((xs.length : Int) - 1 - i))], [(800, .row true nn 1 (rows encI (revTo xs i)))]⟩) (fun i => xs.length - i)
    (fun i => 2 * i ≤ xs.length) 0 [(800, 800)] (Weak.of (by rfl) ?_ ?_ (by rfl)) (by omega) ?_
  · simp (config := { maxSteps := 4000000 }) only [go_sem, simprocAttr, ↓dnA, Tryz.f192, revTo_zero, frW, wk2, wk1, wkL, wkB, hpW, List.mem_cons, Prod.mk.injEq, exists_eq_left, exists_eq_right, exists_eq]
  · simp (config := { maxSteps := 4000000 }) only [go_sem, simprocAttr, ↓dnA, Tryz.f192, nc0, Int.sub_zero, frW, wk2, wk1, wkL, wkB, hpW, List.mem_cons, Prod.mk.injEq, exists_eq_left, exists_eq_right, exists_eq]
  · rintro i hi
    have hl := revTo_length xs i hi
    by_cases h : (i : Int) < (xs.length : Int) - 1 - i
    · have hi1 : i < xs.length := by omega
      obtain ⟨j, hj⟩ : ∃ j : Nat, (xs.length : Int) - 1 - i = (j : Int) := ⟨((xs.length : Int) - 1 - i).toNat, by omega⟩
      have hj1 : j < xs.length := by omega
      have hje : j = xs.length - 1 - i := by omega
      have hij : ((i : Int) < (j : Int)) = True := by simp; omega
      have gi : (rows encI (revTo xs i)).getD i [] = encI xs[i] := by
        have := revTo_getElem xs i i hi hi1
        rw [if_neg (by omega), List.getElem?_eq_getElem hi1, List.getElem?_eq_getElem (by omega)] at this
        rw [rows_get _ _ _ (by omega), Option.some.inj this]
      have gj : (rows encI (revTo xs i)).getD j [] = encI xs[j] := by
        have := revTo_getElem xs i j hi hj1
        rw [if_neg (by omega), List.getElem?_eq_getElem hj1, List.getElem?_eq_getElem (by omega)] at this
        rw [rows_get _ _ _ (by omega), Option.some.inj this]
      have hs : ((rows encI (revTo xs i)).set i [.int .i64 xs[j]]).set j [.int .i64 xs[i]] = rows encI (revTo xs (i + 1)) := by
        have h3 := revTo_step xs i (by omega)
        subst hje
        rw [← h3, ← rows_set, ← rows_set]
        rfl
      have hj2 : ((rows encI (revTo xs i)).set i [.int .i64 xs[j]]).getD j [] = encI xs[j] := by
        rw [set_getD _ _ _ _ _ (by rw [rows_length, hl]; exact hi1), if_neg (by omega)]; exact gj
      have hw1 : IntKind.i64.wrap ((j : Int) - 1) = (xs.length : Int) - 1 - ((i + 1 : Nat) : Int) := by rw [wrap_small _ (by omega) (by omega)]; omega
      simp (config := { maxSteps := 4000000 }) only [go_sem, simprocAttr, ↓dnA, Tryz.f192, hj, hij, rows_length, hl]
      refine semL_draw tab_ok mixed_ rfl (ord := [(0, []), (1, []), (2, []), (3, []), (4, []), (5, []), (6, []), (7, []), (8, []), (9, []), (10, []), (11, []), (12, []), (13, [2, 3]), (14, []), (15, [])]) (by dsimp only; decide +kernel) ?_
      simp (config := { maxSteps := 4000000 }) only [go_sem, simprocAttr, ↓dnA, Tryz.f192, hj, rows_length, hl, List.length_set, nlt hi1, nlt hj1, hi1, hj1, nn0, gi, gj, encI, spliceL, hj2, hw1, wsucc hi1 hx]
      refine ⟨i + 1, [(800, 800)], by omega, by dsimp only; omega, Weak.of (by rfl) ?_ ?_ (by rfl)⟩
      · simp (config := { maxSteps := 4000000 }) only [go_sem, simprocAttr, ↓dnA, Tryz.f192, frW, wk2, wk1, wkL, wkB, hpW, List.mem_cons, Prod.mk.injEq, exists_eq_left, exists_eq_right, exists_eq]
        exact hs.symm
      · simp (config := { maxSteps := 4000000 }) only [go_sem, simprocAttr, ↓dnA, Tryz.f192, frW, wk2, wk1, wkL, wkB, hpW, List.mem_cons, Prod.mk.injEq, exists_eq_left, exists_eq_right, exists_eq]
    · simp (config := { maxSteps := 4000000 }) only [go_sem, simprocAttr, ↓dnA, Tryz.f192, eq_false h, rows_length, hl, revTo_full xs i (by omega) hi, List.length_reverse]

end Go.Proofs.YtmibclbinebnjaaGreat

/- Contracts: the way to a block. -/
set_option linter.unusedSimpArgs false
set_option linter.unusedVariables false
set_option maxRecDepth 20000
set_option maxHeartbeats 4000000
namespace Go.Proofs.YtmibclbinebnjaaGreat
open Go Go.RowKit

/-- The numbers of the blocks from one back to the first, at most f of them. -/
def backF (t : Tree) : Nat → Int → List Int
  | 0, _ => []
  | f + 1, n => if n < 0 then [] else n :: backF t f (t.bef n.toNat)
def back (t : Tree) (n : Int) : List Int := backF t (n.toNat + 1) n
def pathL (t : Tree) (n : Int) : List Int := (back t n).reverse

theorem backF_eq {t : Tree} (ht : TreeOk t) : ∀ (f : Nat) (n : Int), n < t.blocks.length → n + 1 ≤ f → backF t f n = back t n
  | 0, n, _, hf => by
    unfold back
    rw [show backF t 0 n = [] from rfl]
    unfold backF
    rw [if_pos (by omega)]
  | f + 1, n, hn, hf => by
    unfold back
    by_cases h : n < 0
    · unfold backF; rw [if_pos h, if_pos h]
    · unfold backF
      rw [if_neg h, if_neg h]
      obtain ⟨k, rfl⟩ : ∃ k : Nat, n = (k : Int) := ⟨n.toNat, by omega⟩
      rw [Int.toNat_natCast]
      have hb : t.bef k < k := by
        by_cases hk : k = 0
        · subst hk; rw [ht.bef0]; omega
        · exact (ht.link k (by omega) (by omega)).hi
      congr 1
      by_cases h2 : t.bef k < 0
      · have h0 : ∀ g, backF t g (t.bef k) = [] := fun g => by
          cases g with
          | zero => rfl
          | succ g => unfold backF; rw [if_pos h2]
        rw [h0, h0]
      · rw [backF_eq ht f (t.bef k) (by omega) (by omega), backF_eq ht k (t.bef k) (by omega) (by omega)]
termination_by f => f

theorem back_neg (t : Tree) (n : Int) (h : n < 0) : back t n = [] := by unfold back backF; rw [if_pos h]
theorem back_cons {t : Tree} (ht : TreeOk t) (k : Nat) (h : k < t.blocks.length) : back t (k : Int) = (k : Int) :: back t (t.bef k) ∧ t.bef k < k ∧ (t.bef k = -1 ∨ 0 ≤ t.bef k) := by
  have hb : t.bef k < k ∧ (t.bef k = -1 ∨ 0 ≤ t.bef k) := by
    by_cases hk : k = 0
    · subst hk; rw [ht.bef0]; omega
    · have := ht.link k (by omega) h
      exact ⟨this.hi, .inr this.lo⟩
  refine ⟨?_, hb⟩
  conv => lhs; unfold back backF
  rw [if_neg (by omega), Int.toNat_natCast]
  congr 1
  by_cases h2 : t.bef k < 0
  · rw [back_neg _ _ h2]
    cases k with
    | zero => rfl
    | succ k => unfold backF; rw [if_pos h2]
  · exact backF_eq ht k _ (by omega) (by omega)

theorem back_len {t : Tree} (ht : TreeOk t) : ∀ (m : Nat) (n : Int), n < m → n < t.blocks.length → ((back t n).length : Int) ≤ n + 1 ∨ n < 0
  | 0, n, h, _ => .inr (by omega)
  | m + 1, n, h, hn => by
    by_cases h0 : n < 0
    · exact .inr h0
    · obtain ⟨k, rfl⟩ : ∃ k : Nat, n = (k : Int) := ⟨n.toNat, by omega⟩
      obtain ⟨h1, h2, h3⟩ := back_cons ht k (by omega)
      rw [h1, List.length_cons]
      rcases back_len ht m (t.bef k) (by omega) (by omega) with h4 | h4
      · exact .inl (by omega)
      · rw [back_neg _ _ h4]; exact .inl (by simp; omega)

theorem pathL_len {t : Tree} (ht : TreeOk t) {n : Int} (hn : n < t.blocks.length) : (pathL t n).length ≤ 14 := by
  have h1 := back_len ht (n.toNat + 1) n (by omega) hn
  have h2 := ht.len
  unfold pathL
  rw [List.length_reverse]
  rcases h1 with h1 | h1
  · omega
  · rw [back_neg _ _ h1]; simp

theorem back_bd {t : Tree} (ht : TreeOk t) : ∀ (m : Nat) (n : Int), n < m → n < t.blocks.length → ∀ x, x ∈ back t n → 0 ≤ x ∧ x ≤ n
  | 0, n, h, _, x, hx => by rw [back_neg _ _ (by omega)] at hx; cases hx
  | m + 1, n, h, hn, x, hx => by
    by_cases h0 : n < 0
    · rw [back_neg _ _ h0] at hx; cases hx
    · obtain ⟨k, rfl⟩ : ∃ k : Nat, n = (k : Int) := ⟨n.toNat, by omega⟩
      obtain ⟨h1, h2, h3⟩ := back_cons ht k (by omega)
      rw [h1] at hx
      rcases List.mem_cons.1 hx with e | e
      · omega
      · have := back_bd ht m (t.bef k) (by omega) (by omega) x e
        omega
theorem pathL_bd {t : Tree} (ht : TreeOk t) {n : Int} (hn : n < t.blocks.length) : ∀ x, x ∈ pathL t n → 0 ≤ x ∧ x ≤ n := by
  intro x hx
  unfold pathL at hx
  rw [List.mem_reverse] at hx
  exact back_bd ht (n.toNat + 1) n (by omega) hn x hx

theorem c_impl_path (n1 n2 n3 : Option Bool) (t : Tree) (n : Int) (ht : TreeOk t) (hx : TreeSz t) (hn : n < t.blocks.length) :
    Det Tryz.prog 138 [.agg (encT n1 n2 n3 t), .int .i64 n] (.osl false 1 (rows encI (pathL t n))) := by
  refine fspec_det tab_ok Tryz.call138 Tryz.func138 rfl 20 Tryz.ntmps138 (of_decide_eq_true rfl) fun B => codeK_sound tab_ok _ _ _ ?_
  have hlen := ht.len
  simp (config := { maxSteps := 4000000 }) only [go_sem, simprocAttr, ↓dnA, Tryz.f138, encT]
  refine semL_nilA 5 5 1 true (by rfl) (by rfl) (by decide) (by decide) ?_
  refine semL_for tab_ok (fun p : Int × List Int => ⟨20, [(1, .int .i64 p.1), (2, .loc 2 0), (5, .row 5 p.2.length)], [(2, .var (encT n1 n2 n3 t)), (5, .row true false 1 (rows encI p.2))]⟩) (fun p => (p.1 + 1).toNat)
    (fun p => p.1 < t.blocks.length ∧ p.2.length + (p.1 + 1).toNat ≤ 30 ∧ p.2 ++ back t p.1 = back t n) (n, []) [(2, 2), (5, 5)] (Weak.of (by rfl) ?_ ?_ (by rfl)) ⟨hn, by simp; omega, rfl⟩ ?_
  · simp (config := { maxSteps := 4000000 }) only [go_sem, simprocAttr, ↓dnA, Tryz.f138, encT, frW, wk2, wk1, wkL, wkB, hpW, List.mem_cons, Prod.mk.injEq, exists_eq_left, exists_eq_right, exists_eq]
    rfl
  · simp (config := { maxSteps := 4000000 }) only [go_sem, simprocAttr, ↓dnA, Tryz.f138, frW, wk2, wk1, wkL, wkB, hpW, List.mem_cons, Prod.mk.injEq, exists_eq_left, exists_eq_right, exists_eq]
  · rintro ⟨m, acc⟩ ⟨hm, hac, hp⟩
    dsimp only at hm hac hp
    have htk := take_rows encI acc acc.length rfl
    by_cases h : m < 0
    · have hd : decide (m ≥ 0) = false := by simp; omega
      rw [back_neg _ _ h, List.append_nil] at hp
      subst hp
      simp (config := { maxSteps := 4000000 }) only [go_sem, simprocAttr, ↓dnA, Tryz.f138, hd, rows_length, List.nodup_cons]
      refine CallMTo.of (c_slices_Reverse_int false (back t n) (by omega)) ?_
      rintro r ls' ⟨rfl, rfl⟩
      simp (config := { maxSteps := 4000000 }) only [go_sem, simprocAttr, ↓dnA, Tryz.f138, rows_length, List.length_reverse, pathL]
    · have hd : decide (m ≥ 0) = true := by simp; omega
      obtain ⟨k, rfl⟩ : ∃ k : Nat, m = (k : Int) := ⟨m.toNat, by omega⟩
      have hk : k < t.blocks.length := by omega
      have hkb : k < t.before.length := by rw [ht.bef]; exact hk
      obtain ⟨h1, h2, h3⟩ := back_cons ht k hk
      have g1 : (rows encI t.before).getD k [] = encI (t.bef k) := by rw [rows_get _ _ k hkb, t.bef_get k hkb]
      simp (config := { maxSteps := 4000000 }) only [go_sem, simprocAttr, ↓dnA, Tryz.f138, encT, hd, rows_length, htk, nn0, nlt hkb, g1, encI]
      repeat refine And.intro (by first | omega | (simp; done) | (simp; omega) | assumption) ?_
      refine ⟨(t.bef k, acc ++ [(k : Int)]), [(2, 2), (16, 5)], ⟨by dsimp only; omega, by simp; omega, by rw [← hp, h1]; simp⟩, by dsimp only; omega, Weak.of (by rfl) ?_ ?_ (by rfl)⟩
      · simp (config := { maxSteps := 4000000 }) only [go_sem, simprocAttr, ↓dnA, Tryz.f138, encT, frW, wk2, wk1, wkL, wkB, hpW, List.mem_cons, Prod.mk.injEq, exists_eq_left, exists_eq_right, exists_eq]
        exact (rows_snoc encI _ _).symm
      · simp (config := { maxSteps := 4000000 }) only [go_sem, simprocAttr, ↓dnA, Tryz.f138, List.length_append, frW, wk2, wk1, wkL, wkB, hpW, List.mem_cons, Prod.mk.injEq, exists_eq_left, exists_eq_right, exists_eq]

theorem flatI (xs : List Int) : ((rows encI xs).all fun r => r.all AV.flat) = true := by
  simp [rows, encI, AV.flat]
theorem oneI (xs : List Int) : ((rows encI xs).all fun r => r.all AV.one) = true := by
  simp [rows, encI, AV.one]
theorem sz0I (xs : List Int) : xs.length = 0 ∨ ((rows encI xs).getD 0 []).length = 1 := by
  cases xs with
  | nil => exact .inl rfl
  | cons x r => exact .inr rfl

open Classical in
/-- The way to a block of a valid tree. -/
noncomputable def pathTo (t : Tree) (n : Int) : List Int := if treeValid t = true ∧ 0 ≤ n ∧ n < t.blocks.length then pathL t n else []

theorem pathTo_in {t : Tree} (h : treeValid t = true) {n : Int} (h1 : 0 ≤ n) (h2 : n < t.blocks.length) : pathTo t n = pathL t n := by
  unfold pathTo; rw [if_pos ⟨h, h1, h2⟩]

theorem c_spec_PathTo (n1 n2 n3 : Option Bool) (t : Tree) (n : Int) (hx : TreeSz t) :
    Det Tryz.prog 137 [.agg (encT n1 n2 n3 t), .int .i64 n] (.osl true 1 (rows encI (pathTo t n))) := by
  refine fspec_det tab_ok Tryz.call137 Tryz.func137 rfl 27 Tryz.ntmps137 (of_decide_eq_true rfl) fun B => codeK_sound tab_ok _ _ _ ?_
  have hb := hx.blocks
  have hw : IntKind.i64.wrap ((t.blocks.length : Int) - 1) = (t.blocks.length : Int) - 1 := wrap_small _ (by omega) (by omega)
  simp (config := { maxSteps := 4000000 }) only [go_sem, simprocAttr, ↓dnA, Tryz.f137, encT]
  by_cases hok : treeValid t = true ∧ 0 ≤ n ∧ n < t.blocks.length
  · obtain ⟨h0, hn0, hn⟩ := hok
    have ht := treeOk_of h0
    have hlen := ht.len
    have hp0 : pathTo t n = pathL t n := by unfold pathTo; rw [if_pos ⟨h0, hn0, hn⟩]
    rw [hp0]
    refine semL_for tab_ok (fun p : Int × List Int => ⟨27, [(1, .int .i64 p.1), (2, .loc 2 0), (5, .row 6 p.2.length)], [(2, .var (encT n1 n2 n3 t)), (6, .row true true 1 (rows encI p.2))]⟩) (fun p => (p.1 + 1).toNat)
      (fun p => p.1 < t.blocks.length ∧ (p.1 = -1 ∨ 0 ≤ p.1) ∧ p.2.length + (p.1 + 1).toNat ≤ 30 ∧ (back t p.1).reverse ++ p.2 = pathL t n) (n, []) [(2, 2), (6, 6)] (Weak.of (by rfl) ?_ ?_ (by rfl)) ⟨hn, .inr hn0, by simp; omega, by simp [pathL]⟩ ?_
    · simp (config := { maxSteps := 4000000 }) only [go_sem, simprocAttr, ↓dnA, Tryz.f137, encT, frW, wk2, wk1, wkL, wkB, hpW, List.mem_cons, Prod.mk.injEq, exists_eq_left, exists_eq_right, exists_eq]
      rfl
    · simp (config := { maxSteps := 4000000 }) only [go_sem, simprocAttr, ↓dnA, Tryz.f137, frW, wk2, wk1, wkL, wkB, hpW, List.mem_cons, Prod.mk.injEq, exists_eq_left, exists_eq_right, exists_eq]
    · rintro ⟨m, acc⟩ ⟨hm, hm1, hac, hp⟩
      dsimp only at hm hm1 hac hp
      have htk := take_rows encI acc acc.length rfl
      simp (config := { maxSteps := 4000000 }) only [go_sem, simprocAttr, ↓dnA, Tryz.f137, encT]
      refine CallTo.det (c_spec_BlockTreeValid n1 n2 n3 t hx) fun _ => ?_
      simp (config := { maxSteps := 4000000 }) only [go_sem, simprocAttr, ↓dnA, Tryz.f137, encT, h0, rows_length, hw]
      refine CallTo.det (c_l1In _ _ _) fun _ => ?_
      rcases hm1 with rfl | hm1
      · have hd : inB (-1) 0 ((t.blocks.length : Int) - 1) = false := by simp [inB]
        rw [back_neg _ _ (by omega), List.reverse_nil, List.nil_append] at hp
        simp (config := { maxSteps := 4000000 }) only [go_sem, simprocAttr, ↓dnA, Tryz.f137, encT, h0, rows_length, hw, hd, hp]
      · have hd : inB m 0 ((t.blocks.length : Int) - 1) = true := inB_iff.2 (by omega)
        obtain ⟨k, rfl⟩ : ∃ k : Nat, m = (k : Int) := ⟨m.toNat, by omega⟩
        have hk : k < t.blocks.length := by omega
        have hkb : k < t.before.length := by rw [ht.bef]; exact hk
        obtain ⟨h1, h2, h3⟩ := back_cons ht k hk
        have g1 : (rows encI t.before).getD k [] = encI (t.bef k) := by rw [rows_get _ _ k hkb, t.bef_get k hkb]
        have hfl := flatI acc
        have hon := oneI acc
        have hsz := sz0I acc
        simp (config := { maxSteps := 4000000 }) only [go_sem, simprocAttr, ↓dnA, Tryz.f137, encT, h0, rows_length, hw, hd, htk, nn0, nlt hkb, g1, encI]
        repeat refine And.intro (by first | omega | (simp; done) | (simp; omega) | assumption) ?_
        refine ⟨(t.bef k, (k : Int) :: acc), [(2, 2), (20, 6)], ⟨by dsimp only; omega, h3, by simp; omega, by rw [← hp, h1]; simp⟩, by dsimp only; omega, Weak.of (by rfl) ?_ ?_ (by rfl)⟩
        · simp (config := { maxSteps := 4000000 }) only [go_sem, simprocAttr, ↓dnA, Tryz.f137, encT, frW, wk2, wk1, wkL, wkB, hpW, List.mem_cons, Prod.mk.injEq, exists_eq_left, exists_eq_right, exists_eq]
          try rfl
        · simp (config := { maxSteps := 4000000 }) only [go_sem, simprocAttr, ↓dnA, Tryz.f137, List.length_cons, frW, wk2, wk1, wkL, wkB, hpW, List.mem_cons, Prod.mk.injEq, exists_eq_left, exists_eq_right, exists_eq]
          rw [Nat.add_comm]
  · have hp0 : pathTo t n = [] := by unfold pathTo; rw [if_neg hok]
    rw [hp0]
    refine semL_for tab_ok (fun _ : Nat => ⟨27, [(1, .int .i64 n), (2, .loc 2 0), (5, .row 6 0)], [(2, .var (encT n1 n2 n3 t)), (6, .row true true 1 (rows encI []))]⟩) (fun i => i) (fun _ => True) 0 [(2, 2), (6, 6)] (Weak.of (by rfl) ?_ ?_ (by rfl)) trivial ?_
    · simp (config := { maxSteps := 4000000 }) only [go_sem, simprocAttr, ↓dnA, Tryz.f137, encT, frW, wk2, wk1, wkL, wkB, hpW, List.mem_cons, Prod.mk.injEq, exists_eq_left, exists_eq_right, exists_eq]
      rfl
    · simp (config := { maxSteps := 4000000 }) only [go_sem, simprocAttr, ↓dnA, Tryz.f137, frW, wk2, wk1, wkL, wkB, hpW, List.mem_cons, Prod.mk.injEq, exists_eq_left, exists_eq_right, exists_eq]
    · rintro i -
      simp (config := { maxSteps := 4000000 }) only [go_sem, simprocAttr, ↓dnA, Tryz.f137, encT]
      refine CallTo.det (c_spec_BlockTreeValid n1 n2 n3 t hx) fun _ => ?_
      cases h0 : treeValid t with
      | false => simp (config := { maxSteps := 4000000 }) only [go_sem, simprocAttr, ↓dnA, Tryz.f137, encT, h0, rows_length, List.length_nil]
      | true =>
        simp (config := { maxSteps := 4000000 }) only [go_sem, simprocAttr, ↓dnA, Tryz.f137, encT, h0, rows_length, hw]
        refine CallTo.det (c_l1In _ _ _) fun _ => ?_
        have hd : inB n 0 ((t.blocks.length : Int) - 1) = false := by
          cases e : inB n 0 ((t.blocks.length : Int) - 1) with
          | false => rfl
          | true =>
            have := inB_iff.1 e
            exact absurd ⟨h0, by omega, by omega⟩ hok
        simp (config := { maxSteps := 4000000 }) only [go_sem, simprocAttr, ↓dnA, Tryz.f137, encT, h0, rows_length, hw, hd, List.length_nil]

noncomputable def isBefore (t : Tree) (a b : Int) : Bool := (pathTo t b).any fun x => a == x

theorem pathTo_len (t : Tree) (n : Int) : (pathTo t n).length ≤ 14 := by
  unfold pathTo
  split
  · rename_i h
    exact pathL_len (treeOk_of h.1) h.2.2
  · simp

theorem c_spec_IsBefore (n1 n2 n3 : Option Bool) (t : Tree) (a b : Int) (hx : TreeSz t) :
    Det Tryz.prog 133 [.agg (encT n1 n2 n3 t), .int .i64 a, .int .i64 b] (.bool (isBefore t a b)) := by
  refine fspec_det tab_ok Tryz.call133 Tryz.func133 rfl 24 Tryz.ntmps133 (of_decide_eq_true rfl) fun B => codeK_sound tab_ok _ _ _ ?_
  have hlen := pathTo_len t b
  simp (config := { maxSteps := 4000000 }) only [go_sem, simprocAttr, ↓dnA, Tryz.f133, encT]
  refine CallTo.det (c_spec_PathTo n1 n2 n3 t b hx) fun _ => ?_
  simp (config := { maxSteps := 4000000 }) only [go_sem, simprocAttr, ↓dnA, Tryz.f133, encT, rows_length]
  unfold isBefore
  generalize pathTo t b = xs at hlen ⊢
  refine semL_for tab_ok (fun i : Nat => ⟨24, [(1, .int .i64 a), (7, .row 12000 xs.length), (8, .int .i64 i)], [(12000, .row true true 1 (rows encI xs))]⟩) (fun i => xs.length - i)
    (fun i => i ≤ xs.length ∧ (xs.drop i).any (fun x => a == x) = xs.any fun x => a == x) 0 [(12000, 12000)] (Weak.of (by rfl) ?_ ?_ (by rfl)) ⟨by omega, rfl⟩ ?_
  · simp (config := { maxSteps := 4000000 }) only [go_sem, simprocAttr, ↓dnA, Tryz.f133, frW, wk2, wk1, wkL, wkB, hpW, List.mem_cons, Prod.mk.injEq, exists_eq_left, exists_eq_right, exists_eq]
  · simp (config := { maxSteps := 4000000 }) only [go_sem, simprocAttr, ↓dnA, Tryz.f133, frW, wk2, wk1, wkL, wkB, hpW, List.mem_cons, Prod.mk.injEq, exists_eq_left, exists_eq_right, exists_eq]
  · rintro i ⟨hi, hp⟩
    by_cases h : i < xs.length
    · rw [drop_cons xs i h, List.any_cons] at hp
      cases h1 : (xs[i] == a) with
      | true =>
        have h2 : (a == xs[i]) = true := by rw [beq_iff_eq] at h1 ⊢; exact h1.symm
        rw [h2, Bool.true_or] at hp
        simp (config := { maxSteps := 4000000 }) only [go_sem, simprocAttr, ↓dnA, Tryz.f133, rows_length, rows_get _ _ _ h, encI, nlt h, h, nn0, h1, ← hp]
      | false =>
        have h2 : (a == xs[i]) = false := by
          rw [beq_eq_false_iff_ne] at h1 ⊢; exact fun e => h1 e.symm
        rw [h2, Bool.false_or] at hp
        simp (config := { maxSteps := 4000000 }) only [go_sem, simprocAttr, ↓dnA, Tryz.f133, rows_length, rows_get _ _ _ h, encI, nlt h, h, nn0, h1, wsucc h (show xs.length < 2 ^ 62 by omega)]
        refine ⟨i + 1, [(12000, 12000)], ⟨by omega, hp⟩, by dsimp only; omega, Weak.of (by rfl) ?_ ?_ (by rfl)⟩
        · simp (config := { maxSteps := 4000000 }) only [go_sem, simprocAttr, ↓dnA, Tryz.f133, frW, wk2, wk1, wkL, wkB, hpW, List.mem_cons, Prod.mk.injEq, exists_eq_left, exists_eq_right, exists_eq]
        · simp (config := { maxSteps := 4000000 }) only [go_sem, simprocAttr, ↓dnA, Tryz.f133, frW, wk2, wk1, wkL, wkB, hpW, List.mem_cons, Prod.mk.injEq, exists_eq_left, exists_eq_right, exists_eq]
    · have hi' : i = xs.length := by omega
      subst hi'
      rw [List.drop_length, List.any_nil] at hp
      simp (config := { maxSteps := 4000000 }) only [go_sem, simprocAttr, ↓dnA, Tryz.f133, rows_length, nlf h, ← hp]

end Go.Proofs.YtmibclbinebnjaaGreat

/- Contracts: leaves, and the blocks that are kept. -/
set_option linter.unusedSimpArgs false
set_option linter.unusedVariables false
set_option maxRecDepth 20000
set_option maxHeartbeats 4000000
namespace Go.Proofs.YtmibclbinebnjaaGreat
open Go Go.RowKit

/-- The numbers from i on, f of them, for which p holds. -/
def fltF (p : Nat → Bool) : Nat → Nat → List Int
  | 0, _ => []
  | f + 1, i => if p i then (i : Int) :: fltF p f (i + 1) else fltF p f (i + 1)

theorem fltF_len (p : Nat → Bool) : ∀ (f i : Nat), (fltF p f i).length ≤ f
  | 0, _ => by simp [fltF]
  | f + 1, i => by
    have := fltF_len p f (i + 1)
    unfold fltF
    split
    · simp; omega
    · omega

theorem fltF_step (p : Nat → Bool) (n i : Nat) (h : i < n) : fltF p (n - i) i = (if p i then [(i : Int)] else []) ++ fltF p (n - (i + 1)) (i + 1) := by
  rw [show n - i = (n - (i + 1)) + 1 by omega]
  conv => lhs; unfold fltF
  split <;> simp

def leafB (t : Tree) (n : Nat) : Bool := !t.before.any fun x => (n : Int) == x
noncomputable def leaves_ (t : Tree) : List Int := if treeValid t then fltF (leafB t) t.blocks.length 0 else []

end Go.Proofs.YtmibclbinebnjaaGreat

/- Contracts: FnExactLeavesOf. -/
set_option linter.unusedSimpArgs false
set_option linter.unusedVariables false
set_option maxRecDepth 20000
set_option maxHeartbeats 4000000
namespace Go.Proofs.YtmibclbinebnjaaGreat
open Go Go.RowKit

theorem stB_sum : ∀ bs : List Block, stepS stB bs = 5 * bs.length + 4 * lsum bs
  | [] => rfl
  | b :: r => by
    have h1 := stepS_const stA 4 (fun _ => rfl) b.list
    have h2 := stB_sum r
    unfold stepS lsum
    rw [h2, List.length_cons]
    show 5 + stepS stA b.list + _ = _
    rw [h1]; omega

/-- The marks of a tree of a law's size stay small. -/
theorem stT_small {t : Tree} (h : TreeS32 t) : stT t ≤ 5 * 1048576 := by
  have h0 := h.sum
  unfold tsz at h0
  unfold stT
  rw [stepS_const stE 2 (fun _ => rfl), stepS_const stI 1 (fun _ => rfl), stB_sum]
  omega

theorem intsEq (xs : List Int) : decide (xs = xs) = true := by simp

end Go.Proofs.YtmibclbinebnjaaGreat

/- Blocks that are certified, blocks that are committed: plain. -/
set_option linter.unusedSimpArgs false
set_option linter.unusedVariables false
set_option maxRecDepth 20000
set_option maxHeartbeats 4000000
namespace Go.Proofs.YtmibclbinebnjaaGreat
open Go Go.RowKit

def certStep (t : Tree) (l : List Bool) (c : Cert) : List Bool := if certBlock t c < 0 then l else l.set (certBlock t c).toNat true
/-- Which blocks certificates count for, besides those of a list. -/
def certF (t : Tree) (cs : List Cert) (l : List Bool) : List Bool := cs.foldl (certStep t) l
def certs0 (n : Nat) : List Bool := (List.replicate n false).set 0 true
def certL (t : Tree) (cs : List Cert) : List Bool := certF t cs (certs0 t.blocks.length)
open Classical in
noncomputable def certified (t : Tree) (cs : List Cert) : List Bool := if treeValid t = true ∧ cs.length ≤ 30 then certL t cs else []

theorem certBlock_cases (t : Tree) (c : Cert) : certBlock t c = -1 ∨ ∃ i : Nat, i < t.blocks.length ∧ certBlock t c = (i : Int) := by
  unfold certBlock
  split
  · rcases findB_cases t c.sum with ⟨hf, _⟩ | ⟨i, hi, hf, _⟩
    · rw [hf]; exact .inl rfl
    · rw [hf, if_neg (by omega)]
      split
      · exact .inr ⟨i, hi, rfl⟩
      · exact .inl rfl
  · exact .inl rfl

theorem certStep_len (t : Tree) (l : List Bool) (c : Cert) : (certStep t l c).length = l.length := by
  unfold certStep; split
  · rfl
  · simp
theorem certF_len (t : Tree) : ∀ (cs : List Cert) (l : List Bool), (certF t cs l).length = l.length
  | [], l => rfl
  | c :: cs, l => by
    show (certF t cs (certStep t l c)).length = _
    rw [certF_len t cs, certStep_len]
theorem certL_len (t : Tree) (cs : List Cert) : (certL t cs).length = t.blocks.length := by
  unfold certL; rw [certF_len]; simp [certs0]
theorem certF_drop (t : Tree) (cs : List Cert) (i : Nat) (h : i < cs.length) (l : List Bool) : certF t (cs.drop i) l = certF t (cs.drop (i + 1)) (certStep t l cs[i]) := by
  rw [drop_cons cs i h]; rfl

theorem boolRows_rep (n : Nat) (b : Bool) : boolRows (List.replicate n b) = List.replicate n [.bool b] := by
  simp [boolRows]

theorem view_bd {b : Block} (h : blockValid b = true) : 0 ≤ b.view ∧ b.view ≤ 1000 := by
  unfold blockValid at h
  simp only [Bool.and_eq_true] at h
  obtain ⟨⟨⟨⟨⟨_, _⟩, _⟩, _⟩, h5⟩, _⟩ := h
  exact inB_iff.1 h5
/-- The block d, with those before it, commits. -/
def threeB (t : Tree) (ce : List Bool) (b c d : Nat) : Bool :=
  ce.getD b false && (ce.getD c false && (ce.getD d false && (((t.blk b).view + 1 == (t.blk c).view) && ((t.blk c).view + 1 == (t.blk d).view))))
def headStep (t : Tree) (ce : List Bool) (l : List Bool) (d : Nat) : List Bool :=
  if t.bef d < 0 then l else if t.bef (t.bef d).toNat < 0 then l else
  if threeB t ce (t.bef (t.bef d).toNat).toNat (t.bef d).toNat d then l.set (t.bef (t.bef d).toNat).toNat true else l
/-- The blocks that are committed by the first d blocks. -/
def headsTo (t : Tree) (ce : List Bool) : Nat → List Bool
  | 0 => List.replicate t.blocks.length false
  | d + 1 => headStep t ce (headsTo t ce d) d
def headsB (t : Tree) (ce : List Bool) (i : Nat) : Bool := (headsTo t ce t.blocks.length).getD i false
/-- The numbers of the blocks that are committed at once. -/
def headsL (t : Tree) (ce : List Bool) : List Int := fltF (headsB t ce) t.blocks.length 0
noncomputable def commitHeads (t : Tree) (cs : List Cert) : List Int := if certified t cs = [] then [] else headsL t (certified t cs)

theorem headStep_len (t : Tree) (ce l : List Bool) (d : Nat) : (headStep t ce l d).length = l.length := by
  unfold headStep; split
  · rfl
  · split
    · rfl
    · split
      · simp
      · rfl
theorem headsTo_len (t : Tree) (ce : List Bool) : ∀ d, (headsTo t ce d).length = t.blocks.length
  | 0 => by simp [headsTo]
  | d + 1 => by unfold headsTo; rw [headStep_len, headsTo_len t ce d]

theorem fltF_bd (p : Nat → Bool) : ∀ (f i : Nat), ∀ x, x ∈ fltF p f i → (i : Int) ≤ x ∧ x < ((i + f : Nat) : Int)
  | 0, i, x, h => by simp [fltF] at h
  | f + 1, i, x, h => by
    unfold fltF at h
    split at h
    · rcases List.mem_cons.1 h with rfl | h
      · omega
      · have := fltF_bd p f (i + 1) x h; omega
    · have := fltF_bd p f (i + 1) x h; omega

theorem headsL_bd (t : Tree) (ce : List Bool) : ∀ x, x ∈ headsL t ce → 0 ≤ x ∧ x < t.blocks.length := fun x h => by
  have := fltF_bd _ _ _ x h; omega

/-- The first block of a valid tree has the least view. -/
theorem view0_lt {t : Tree} (ht : TreeOk t) : ∀ (m k : Nat), k < m → 0 < k → k < t.blocks.length → (t.blk 0).view < (t.blk k).view
  | 0, k, h, _, _ => by omega
  | m + 1, k, h, h0, hk => by
    have hl := ht.link k h0 hk
    have h1 := hl.lo
    have h2 := hl.hi
    have h3 := hl.view
    rcases Nat.eq_zero_or_pos (t.bef k).toNat with e | e
    · rw [e] at h3; exact h3
    · have := view0_lt ht m (t.bef k).toNat (by omega) e (by omega)
      omega

def bestF (t : Tree) : List Int → Int → Int
  | [], b => b
  | x :: r, b => bestF t r (if (t.blk x.toNat).view > (t.blk b.toNat).view then x else b)
noncomputable def committedTo (t : Tree) (cs : List Cert) : Int := if certified t cs = [] then -1 else bestF t (headsL t (certified t cs)) 0

theorem bestF_bd (t : Tree) (m : Nat) : ∀ (l : List Int) (b : Int), (∀ x, x ∈ l → 0 ≤ x ∧ x < (m : Int)) → 0 ≤ b ∧ b < (m : Int) → 0 ≤ bestF t l b ∧ bestF t l b < (m : Int)
  | [], b, _, hb => hb
  | x :: r, b, h, hb => bestF_bd t m r _ (fun y hy => h y (List.mem_cons_of_mem _ hy)) (by split; exact h x (List.mem_cons_self ..); exact hb)

noncomputable def agreeB (t : Tree) (a b : Int) : Bool := isBefore t a b || isBefore t b a
theorem agreeB_symm (t : Tree) (a b : Int) : agreeB t a b = agreeB t b a := Bool.or_comm _ _
/-- Of every two numbers of a list one is on the way to the other. -/
def AgreeAll (t : Tree) (l : List Int) : Prop := ∀ i j, j < i → i < l.length → agreeB t (l.getD i 0) (l.getD j 0) = true
open Classical in
noncomputable def agreeAllB (t : Tree) (l : List Int) : Bool := decide (AgreeAll t l)
theorem agreeAllB_yes {t : Tree} {l : List Int} (h : AgreeAll t l) : agreeAllB t l = true := by simp [agreeAllB, h]
theorem agreeAllB_no {t : Tree} {l : List Int} (h : ¬ AgreeAll t l) : agreeAllB t l = false := by simp [agreeAllB, h]
noncomputable def commitsAgree (t : Tree) (cs : List Cert) : Bool := if certified t cs = [] then false else agreeAllB t (headsL t (certified t cs))

theorem certified_ne {t : Tree} {cs : List Cert} (ht : treeValid t = true) (h : cs.length ≤ 30) : certified t cs = certL t cs ∧ certified t cs ≠ [] := by
  have e : certified t cs = certL t cs := by unfold certified; rw [if_pos ⟨ht, h⟩]
  refine ⟨e, fun h0 => ?_⟩
  have h1 := certL_len t cs
  rw [← e, h0] at h1
  have := (treeOk_of ht).len
  simp at h1; omega

end Go.Proofs.YtmibclbinebnjaaGreat

/- How much a tree is: plain. -/
set_option linter.unusedSimpArgs false
set_option linter.unusedVariables false
set_option maxRecDepth 20000
set_option maxHeartbeats 4000000
namespace Go.Proofs.YtmibclbinebnjaaGreat
open Go Go.RowKit

theorem stT_le (t : Tree) : stT t ≤ 5 * tsz t := by
  unfold stT tsz
  rw [stepS_const stE 2 (fun _ => rfl), stepS_const stI 1 (fun _ => rfl), stB_sum]
  omega
theorem tsz_sz {t : Tree} {m : Nat} (h : tsz t ≤ m) (hm : m < 2 ^ 62) : TreeSz t :=
  ⟨by unfold tsz at h; omega, by unfold tsz at h; omega, by unfold tsz at h; omega, fun b hb => by have := lsum_mem t.blocks b hb; unfold tsz at h; omega⟩
theorem lsum_snoc : ∀ (bs : List Block) (b : Block), lsum (bs ++ [b]) = lsum bs + b.list.length
  | [], b => by simp [lsum]
  | c :: r, b => by
    simp only [List.cons_append, lsum, lsum_snoc r b]
    omega

end Go.Proofs.YtmibclbinebnjaaGreat

/- Contracts: FnExactCertBlock. -/
set_option linter.unusedSimpArgs false
set_option linter.unusedVariables false
set_option maxRecDepth 20000
set_option maxHeartbeats 4000000
namespace Go.Proofs.YtmibclbinebnjaaGreat
open Go Go.RowKit

theorem c_laws_toCert (c : Cert) : Det Tryz.prog 116 [.agg (encC c)] (.agg (encC c)) := by
  refine fspec_det tab_ok Tryz.call116 Tryz.func116 rfl 14 Tryz.ntmps116 (of_decide_eq_true rfl) fun B => codeK_sound tab_ok _ _ _ ?_
  simp (config := { maxSteps := 4000000 }) only [go_sem, simprocAttr, ↓dnA, Tryz.f116, encC]

theorem c_impl_CertBlock (n1 n2 n3 : Option Bool) (t : Tree) (c : Cert) (hx : TreeSz t) : Det Tryz.prog 25 [.agg (encT n1 n2 n3 t), .agg (encC c)] (.int .i64 (if treeValid t then certBlock t c else -1)) := by
  refine fspec_det tab_ok Tryz.call25 Tryz.func25 rfl 11 Tryz.ntmps25 (of_decide_eq_true rfl) fun B => codeK_sound tab_ok _ _ _ ?_
  unfold encT
  simp (config := { maxSteps := 4000000 }) only [go_sem, simprocAttr, ↓dnA, Tryz.f25, encC]
  refine CallTo.det (c_impl_BlockTreeValid n1 n2 n3 t hx) fun _ => ?_
  cases h1 : treeValid t with
  | false => simp (config := { maxSteps := 4000000 }) only [go_sem, simprocAttr, ↓dnA, Tryz.f25, h1]
  | true =>
    simp (config := { maxSteps := 4000000 }) only [go_sem, simprocAttr, ↓dnA, Tryz.f25, h1]
    refine CallTo.det (c_impl_certBlock n1 n2 n3 t c hx) fun _ => ?_
    simp (config := { maxSteps := 4000000 }) only [go_sem, simprocAttr, ↓dnA, Tryz.f25, h1]

theorem c_spec_CertBlock (n1 n2 n3 : Option Bool) (t : Tree) (c : Cert) (hx : TreeSz t) : Det Tryz.prog 26 [.agg (encT n1 n2 n3 t), .agg (encC c)] (.int .i64 (if treeValid t then certBlock t c else -1)) := by
  refine fspec_det tab_ok Tryz.call26 Tryz.func26 rfl 32 Tryz.ntmps26 (of_decide_eq_true rfl) fun B => codeK_sound tab_ok _ _ _ ?_
  unfold certBlock encT
  simp (config := { maxSteps := 4000000 }) only [go_sem, simprocAttr, ↓dnA, Tryz.f26, encC]
  refine CallTo.det (c_spec_BlockTreeValid n1 n2 n3 t hx) fun _ => ?_
  cases h0 : treeValid t with
  | false => simp (config := { maxSteps := 4000000 }) only [go_sem, simprocAttr, ↓dnA, Tryz.f26, h0]
  | true =>
  simp (config := { maxSteps := 4000000 }) only [go_sem, simprocAttr, ↓dnA, Tryz.f26, h0]
  refine CallTo.det (c_spec_CertCounts c) fun _ => ?_
  cases h1 : certCounts c with
  | false => simp (config := { maxSteps := 4000000 }) only [go_sem, simprocAttr, ↓dnA, Tryz.f26, h0, h1]
  | true =>
    simp (config := { maxSteps := 4000000 }) only [go_sem, simprocAttr, ↓dnA, Tryz.f26, h0, h1]
    refine CallTo.det (c_spec_find n1 n2 n3 t c.sum hx) fun _ => ?_
    simp (config := { maxSteps := 4000000 }) only [go_sem, simprocAttr, ↓dnA, Tryz.f26, h0, h1]
    refine semL_draw tab_ok mixed_ rfl (ord := [(0, []), (1, []), (2, []), (3, []), (4, []), (5, []), (6, []), (7, []), (8, []), (9, []), (10, []), (11, []), (12, [])]) (by dsimp only; decide +kernel) ?_
    rcases findB_cases t c.sum with ⟨hf, _⟩ | ⟨i, hi, hf, _⟩
    · simp (config := { maxSteps := 4000000 }) only [go_sem, simprocAttr, ↓dnA, Tryz.f26, h0, h1, hf]
    · have hd : decide ((i : Int) < 0) = false := by simp
      have hn : ((i : Int) < 0) = False := by simp
      by_cases h2 : (t.blk i).view = c.view
      · have h2' : ((t.blk i).view != c.view) = false := by simp [h2]
        unfold Tree.blk at h2 h2'
        simp (config := { maxSteps := 4000000 }) only [go_sem, simprocAttr, ↓dnA, Tryz.f26, h0, h1, hf, hd, nn0, nlt hi, rows_length, rows_gd _ _ i hi, Tree.blk, encB1, encBk, hn, h2, h2']
      · have h2' : ((t.blk i).view != c.view) = true := by simp [h2]
        unfold Tree.blk at h2 h2'
        simp (config := { maxSteps := 4000000 }) only [go_sem, simprocAttr, ↓dnA, Tryz.f26, h0, h1, hf, hd, nn0, nlt hi, rows_length, rows_gd _ _ i hi, Tree.blk, encB1, encBk, hn, h2, h2']

end Go.Proofs.YtmibclbinebnjaaGreat

/- Contracts: blocks that are certified. -/
set_option linter.unusedSimpArgs false
set_option linter.unusedVariables false
set_option maxRecDepth 20000
set_option maxHeartbeats 4000000
namespace Go.Proofs.YtmibclbinebnjaaGreat
open Go Go.RowKit

theorem rwC_same (a : AV) : rwC a a := by cases a <;> simp [rwC]
theorem rwL_same : ∀ l : List AV, rwL l l
  | [] => trivial
  | a :: r => ⟨rwC_same a, rwL_same r⟩
theorem Det.less {P : Program} {k : FuncId} {args : List AV} {r r' : AV} (h : Det P k args r) (hr : rwR r r') : Det P k args r' :=
  FSpec.rw h fun q b e => ⟨r', b, by rw [e]; exact hr, rwL_same b, rfl⟩

theorem OwnS.readsT {w : World} {v : Value} {sz : Nat} {es : List (List AV)} {F : Nat → Prop} (h : OwnS w v true sz es F) : Reads w F v (.sl (some true) es) := by
  obtain ⟨h1, h2, h3⟩ := h
  rcases h3 with ⟨_, _, g, _⟩ | ⟨b, cap, c, ty, FF, rfl, hb, hc, hcap, hO, hd, hnb, hF⟩
  · cases g
  · exact (OwnV.slice b cap sz (some true) es c ty FF F (by simp) h2 h1 hcap hb hc hO hd hnb hF).reads

/-- A result that is owned may be taken as one that is only read. -/
theorem Det.pureT {P : Program} {k : FuncId} {args : List AV} {sz : Nat} {es : List (List AV)} (h : Det P k args (.osl true sz es)) : Det P k args (.sl (some true) es) := by
  refine ⟨h.1, fun w S vs b BF h1 h2 h3 h4 => (h.2 w S vs b BF h1 h2 h3 h4).mono ?_⟩
  rintro e w' ⟨v, r, bx1, F, BF', rfl, hQ, g1, g2, g3, g4, g5⟩
  subst hQ
  have hno : ∀ {b : Nat} {cs : List AV} {B : Nat → Nat → Prop} (x : Nat), ¬ BoxM false b cs B x := fun x e => by cases e.1
  refine ⟨v, .sl (some true) es, bx1, fun _ => False, BF', rfl, rfl, g1, ?_, (fun e => by cases e), fun x e => e.elim, fun x e => ?_⟩
  · have hO : OwnS w' v true sz es F := by
      cases g2 with
      | part v a F h =>
        cases h with
        | cell v a F h =>
          cases h with
          | pure a F h hF => cases h
          | osl nn sz es F h => exact h
    refine .part _ _ _ (.cell _ _ _ (.pure _ _ _ (hO.readsT.mono fun x hx => ?_) (fun _ e => e)))
    exact ⟨fun e => e, hno x, .inr (.inr (((g5 x (.inl hx)).1).resolve_left (hno x)))⟩
  · rcases e with e | e
    · exact e.elim
    · exact (hno x e).elim

theorem certified_len (t : Tree) (cs : List Cert) : (certified t cs).length ≤ t.blocks.length := by
  unfold certified
  split
  · rw [certL_len]; exact Nat.le_refl _
  · simp
theorem certified_yes {t : Tree} {cs : List Cert} (h0 : treeValid t = true) (hc : cs.length ≤ 30) : certified t cs = certL t cs := by
  unfold certified; rw [if_pos ⟨h0, hc⟩]
theorem certified_no {t : Tree} {cs : List Cert} (h : ¬ (treeValid t = true ∧ cs.length ≤ 30)) : certified t cs = [] := by
  unfold certified; rw [if_neg h]
theorem certF_take (t : Tree) (cs : List Cert) (l : List Bool) (i : Nat) (h : i < cs.length) : certF t (cs.take (i + 1)) l = certStep t (certF t (cs.take i) l) cs[i] := by
  unfold certF; rw [take_snoc _ _ h, List.foldl_append]; rfl
theorem certs0_rows (n : Nat) : boolRows (certs0 n) = (List.replicate n [.bool false]).set 0 [.bool true] := by
  unfold certs0; rw [← boolRows_set, boolRows_rep]

theorem c_impl_CertifiedBlocks_yes (n1 n2 n3 n4 : Option Bool) (t : Tree) (cs : List Cert) (hx : TreeSz t) (h0 : treeValid t = true) (hc : cs.length ≤ 30) :
    Det Tryz.prog 30 [.agg (encT n1 n2 n3 t), .sl n4 (rows encC cs)] (.osl true 1 (boolRows (certL t cs))) := by
  refine fspec_det tab_ok Tryz.call30 Tryz.func30 rfl 39 Tryz.ntmps30 (of_decide_eq_true rfl) fun B => codeK_sound tab_ok _ _ _ ?_
  have ht := treeOk_of h0
  have hlen := ht.len
  have hd : decide ((cs.length : Int) > 30) = false := by simp; omega
  have hp : (0 < t.blocks.length) = True := by simp; omega
  have hp2 : ((0 : Int) < (t.blocks.length : Int)) = True := by simp; omega
  have hg0 : (List.replicate t.blocks.length [AV.bool false]).getD 0 [] = [.bool false] := by
    rw [List.getD_eq_getElem?_getD, List.getElem?_replicate, if_pos (by omega)]; rfl
  simp (config := { maxSteps := 4000000 }) only [go_sem, simprocAttr, ↓dnA, Tryz.f30, encT, rows_length, boolRows_length, List.length_set, List.length_replicate]
  refine CallTo.det (c_impl_BlockTreeValid n1 n2 n3 t hx) fun _ => ?_
  simp (config := { maxSteps := 4000000 }) only [go_sem, simprocAttr, ↓dnA, Tryz.f30, encT, rows_length, boolRows_length, List.length_set, List.length_replicate, h0, hd, hp, hp2, hg0, spliceL]
  repeat refine And.intro (by first | omega | (simp; done) | (simp; omega) | assumption) ?_
  refine semL_for tab_ok (fun i : Nat => ⟨39, [(2, .loc 2 0), (5, .row 600 t.blocks.length), (23, .sl n4 (rows encC cs)), (24, .int .i64 cs.length), (25, .int .i64 i)],
      [(2, .var (encT n1 n2 n3 t)), (600, .row true true 1 (boolRows (certF t (cs.take i) (certs0 t.blocks.length))))]⟩) (fun i => cs.length - i)
    (fun i => i ≤ cs.length) 0 [(2, 2), (20, 600)] (Weak.of (by rfl) ?_ ?_ (by rfl)) (by omega) ?_
  · simp (config := { maxSteps := 4000000 }) only [go_sem, simprocAttr, ↓dnA, Tryz.f30, encT, rows_length, boolRows_length, List.length_set, List.length_replicate, frW, wk2, wk1, wkL, wkB, hpW, List.mem_cons, Prod.mk.injEq, exists_eq_left, exists_eq_right, exists_eq]
    exact certs0_rows _
  · simp (config := { maxSteps := 4000000 }) only [go_sem, simprocAttr, ↓dnA, Tryz.f30, encT, rows_length, boolRows_length, List.length_set, List.length_replicate, frW, wk2, wk1, wkL, wkB, hpW, List.mem_cons, Prod.mk.injEq, exists_eq_left, exists_eq_right, exists_eq]
  · rintro i hi
    have hl : (certF t (cs.take i) (certs0 t.blocks.length)).length = t.blocks.length := by rw [certF_len]; simp [certs0]
    by_cases h : i < cs.length
    · have hst := certF_take t cs (certs0 t.blocks.length) i h
      generalize certF t (cs.take i) (certs0 t.blocks.length) = l at hl hst
      have hw : IntKind.i64.wrap ((i : Int) + 1) = ((i + 1 : Nat) : Int) := wsucc h (by omega)
      simp (config := { maxSteps := 4000000 }) only [go_sem, simprocAttr, ↓dnA, Tryz.f30, encT, rows_length, boolRows_length, List.length_set, List.length_replicate, nlt h, h, rows_get _ _ _ h, nn0, encC]
      refine CallTo.det (c_impl_certBlock n1 n2 n3 t cs[i] hx) fun _ => ?_
      rcases certBlock_cases t cs[i] with hb | ⟨k, hk, hb⟩
      · have hs : certStep t l cs[i] = l := by unfold certStep; rw [hb, if_pos (by omega)]
        rw [hs] at hst
        simp (config := { maxSteps := 4000000 }) only [go_sem, simprocAttr, ↓dnA, Tryz.f30, encT, rows_length, boolRows_length, List.length_set, List.length_replicate, nlt h, h, rows_get _ _ _ h, nn0, encC, hb, hw]
        refine ⟨i + 1, [(2, 2), (600, 600)], by omega, by dsimp only; omega, Weak.of (by rfl) ?_ ?_ (by rfl)⟩
        · simp (config := { maxSteps := 4000000 }) only [go_sem, simprocAttr, ↓dnA, Tryz.f30, encT, rows_length, boolRows_length, List.length_set, List.length_replicate, hst, frW, wk2, wk1, wkL, wkB, hpW, List.mem_cons, Prod.mk.injEq, exists_eq_left, exists_eq_right, exists_eq]
        · simp (config := { maxSteps := 4000000 }) only [go_sem, simprocAttr, ↓dnA, Tryz.f30, encT, rows_length, boolRows_length, List.length_set, List.length_replicate, frW, wk2, wk1, wkL, wkB, hpW, List.mem_cons, Prod.mk.injEq, exists_eq_left, exists_eq_right, exists_eq]
      · have hs : certStep t l cs[i] = l.set k true := by unfold certStep; rw [hb, if_neg (by omega), Int.toNat_natCast]
        rw [hs] at hst
        have hd2 : decide ((k : Int) ≥ 0) = true := by simp
        simp (config := { maxSteps := 4000000 }) only [go_sem, simprocAttr, ↓dnA, Tryz.f30, encT, rows_length, boolRows_length, List.length_set, List.length_replicate, nlt h, h, rows_get _ _ _ h, nn0, encC, hb, hd2, nlt hk, hk, hl, boolRows_get l k (by omega), spliceL, hw]
        refine ⟨i + 1, [(2, 2), (600, 600)], by omega, by dsimp only; omega, Weak.of (by rfl) ?_ ?_ (by rfl)⟩
        · simp (config := { maxSteps := 4000000 }) only [go_sem, simprocAttr, ↓dnA, Tryz.f30, encT, rows_length, boolRows_length, List.length_set, List.length_replicate, hst, ← boolRows_set, frW, wk2, wk1, wkL, wkB, hpW, List.mem_cons, Prod.mk.injEq, exists_eq_left, exists_eq_right, exists_eq]
        · simp (config := { maxSteps := 4000000 }) only [go_sem, simprocAttr, ↓dnA, Tryz.f30, encT, rows_length, boolRows_length, List.length_set, List.length_replicate, frW, wk2, wk1, wkL, wkB, hpW, List.mem_cons, Prod.mk.injEq, exists_eq_left, exists_eq_right, exists_eq]
    · have hi' : i = cs.length := by omega
      subst hi'
      rw [List.take_length] at hl
      simp (config := { maxSteps := 4000000 }) only [go_sem, simprocAttr, ↓dnA, Tryz.f30, encT, rows_length, boolRows_length, List.length_set, List.length_replicate, nlf h, List.take_length, certL, hl]

theorem c_impl_CertifiedBlocks_T (n1 n2 n3 n4 : Option Bool) (t : Tree) (cs : List Cert) (hx : TreeSz t) (h0 : treeValid t = true) (hc : cs.length ≤ 30) :
    Det Tryz.prog 30 [.agg (encT n1 n2 n3 t), .sl n4 (rows encC cs)] (.sl (some true) (boolRows (certL t cs))) := (c_impl_CertifiedBlocks_yes n1 n2 n3 n4 t cs hx h0 hc).pureT

theorem c_impl_CertifiedBlocks_no (n1 n2 n3 n4 : Option Bool) (t : Tree) (cs : List Cert) (hx : TreeSz t) (h : ¬ (treeValid t = true ∧ cs.length ≤ 30)) :
    Det Tryz.prog 30 [.agg (encT n1 n2 n3 t), .sl n4 (rows encC cs)] (.sl (some false) []) := by
  refine fspec_det tab_ok Tryz.call30 Tryz.func30 rfl 39 Tryz.ntmps30 (of_decide_eq_true rfl) fun B => codeK_sound tab_ok _ _ _ ?_
  simp (config := { maxSteps := 4000000 }) only [go_sem, simprocAttr, ↓dnA, Tryz.f30, encT, rows_length, boolRows_length, List.length_set, List.length_replicate]
  refine CallTo.det (c_impl_BlockTreeValid n1 n2 n3 t hx) fun _ => ?_
  cases h0 : treeValid t with
  | false => simp (config := { maxSteps := 4000000 }) only [go_sem, simprocAttr, ↓dnA, Tryz.f30, encT, rows_length, boolRows_length, List.length_set, List.length_replicate, h0]
  | true =>
    have hd : decide ((cs.length : Int) > 30) = true := by
      have : ¬ cs.length ≤ 30 := fun e => h ⟨h0, e⟩
      simp; omega
    simp (config := { maxSteps := 4000000 }) only [go_sem, simprocAttr, ↓dnA, Tryz.f30, encT, rows_length, boolRows_length, List.length_set, List.length_replicate, h0, hd]

theorem c_impl_CertifiedBlocks (n1 n2 n3 n4 : Option Bool) (t : Tree) (cs : List Cert) (hx : TreeSz t) :
    Det Tryz.prog 30 [.agg (encT n1 n2 n3 t), .sl n4 (rows encC cs)] (.osl false 1 (boolRows (certified t cs))) := by
  by_cases h : treeValid t = true ∧ cs.length ≤ 30
  · rw [certified_yes h.1 h.2]
    exact (c_impl_CertifiedBlocks_yes n1 n2 n3 n4 t cs hx h.1 h.2).less ⟨.inr rfl, rfl, rfl⟩
  · rw [certified_no h]
    exact (c_impl_CertifiedBlocks_no n1 n2 n3 n4 t cs hx h).less ⟨rfl, rfl, rfl, by decide, rfl⟩

theorem c_spec_CertifiedBlocks (n1 n2 n3 n4 : Option Bool) (t : Tree) (cs : List Cert) (hx : TreeSz t) :
    Det Tryz.prog 31 [.agg (encT n1 n2 n3 t), .sl n4 (rows encC cs)] (.osl true 1 (boolRows (certified t cs))) := by
  refine fspec_det tab_ok Tryz.call31 Tryz.func31 rfl 42 Tryz.ntmps31 (of_decide_eq_true rfl) fun B => codeK_sound tab_ok _ _ _ ?_
  simp (config := { maxSteps := 4000000 }) only [go_sem, simprocAttr, ↓dnA, Tryz.f31, encT, rows_length, boolRows_length, List.length_set, List.length_replicate]
  refine CallTo.det (c_spec_BlockTreeValid n1 n2 n3 t hx) fun _ => ?_
  cases h0 : treeValid t with
  | false =>
    have hr := certified_no (t := t) (cs := cs) (fun e => by rw [h0] at e; cases e.1)
    simp (config := { maxSteps := 4000000 }) only [go_sem, simprocAttr, ↓dnA, Tryz.f31, encT, rows_length, boolRows_length, List.length_set, List.length_replicate, h0, hr, boolRows, List.map_nil]
  | true =>
    by_cases hc : cs.length ≤ 30
    · have ht := treeOk_of h0
      have hlen := ht.len
      have hd : decide ((cs.length : Int) > 30) = false := by simp; omega
      have hp : (0 < t.blocks.length) = True := by simp; omega
      have hp2 : ((0 : Int) < (t.blocks.length : Int)) = True := by simp; omega
      have hg0 : (List.replicate t.blocks.length [AV.bool false]).getD 0 [] = [.bool false] := by
        rw [List.getD_eq_getElem?_getD, List.getElem?_replicate, if_pos (by omega)]; rfl
      rw [certified_yes h0 hc]
      simp (config := { maxSteps := 4000000 }) only [go_sem, simprocAttr, ↓dnA, Tryz.f31, encT, rows_length, boolRows_length, List.length_set, List.length_replicate, h0, hd, hp, hp2, hg0, spliceL]
      repeat refine And.intro (by first | omega | (simp; done) | (simp; omega) | assumption) ?_
      refine semL_for tab_ok (fun i : Nat => ⟨42, [(2, .loc 2 0), (1, .sl n4 (rows encC cs)), (5, .row 600 t.blocks.length), (6, .int .i64 i)],
          [(2, .var (encT n1 n2 n3 t)), (600, .row true true 1 (boolRows (certF t (cs.take i) (certs0 t.blocks.length))))]⟩) (fun i => cs.length - i)
        (fun i => i ≤ cs.length) 0 [(2, 2), (21, 600)] (Weak.of (by rfl) ?_ ?_ (by rfl)) (by omega) ?_
      · simp (config := { maxSteps := 4000000 }) only [go_sem, simprocAttr, ↓dnA, Tryz.f31, encT, rows_length, boolRows_length, List.length_set, List.length_replicate, frW, wk2, wk1, wkL, wkB, hpW, List.mem_cons, Prod.mk.injEq, exists_eq_left, exists_eq_right, exists_eq]
        exact certs0_rows _
      · simp (config := { maxSteps := 4000000 }) only [go_sem, simprocAttr, ↓dnA, Tryz.f31, encT, rows_length, boolRows_length, List.length_set, List.length_replicate, frW, wk2, wk1, wkL, wkB, hpW, List.mem_cons, Prod.mk.injEq, exists_eq_left, exists_eq_right, exists_eq]
      · rintro i hi
        have hl : (certF t (cs.take i) (certs0 t.blocks.length)).length = t.blocks.length := by rw [certF_len]; simp [certs0]
        by_cases h : i < cs.length
        · have hst := certF_take t cs (certs0 t.blocks.length) i h
          generalize certF t (cs.take i) (certs0 t.blocks.length) = l at hl hst
          have hw : IntKind.i64.wrap ((i : Int) + 1) = ((i + 1 : Nat) : Int) := wsucc h (by omega)
          simp (config := { maxSteps := 4000000 }) only [go_sem, simprocAttr, ↓dnA, Tryz.f31, encT, rows_length, boolRows_length, List.length_set, List.length_replicate, nlt h, h, rows_get _ _ _ h, nn0, encC]
          refine semL_draw tab_ok mixed_ rfl (ord := [(0, []), (1, []), (2, []), (3, []), (4, []), (5, []), (6, [])]) (by dsimp only; decide +kernel) ?_
          simp (config := { maxSteps := 4000000 }) only [go_sem, simprocAttr, ↓dnA, Tryz.f31, encT, rows_length, boolRows_length, List.length_set, List.length_replicate, nlt h, h, rows_get _ _ _ h, nn0, encC]
          refine CallTo.det (c_spec_CertBlock n1 n2 n3 t cs[i] hx) fun _ => ?_
          rw [if_pos h0]
          rcases certBlock_cases t cs[i] with hb | ⟨k, hk, hb⟩
          · have hs : certStep t l cs[i] = l := by unfold certStep; rw [hb, if_pos (by omega)]
            rw [hs] at hst
            simp (config := { maxSteps := 4000000 }) only [go_sem, simprocAttr, ↓dnA, Tryz.f31, encT, rows_length, boolRows_length, List.length_set, List.length_replicate, nlt h, h, rows_get _ _ _ h, nn0, encC, hb, hw]
            refine ⟨i + 1, [(2, 2), (600, 600)], by omega, by dsimp only; omega, Weak.of (by rfl) ?_ ?_ (by rfl)⟩
            · simp (config := { maxSteps := 4000000 }) only [go_sem, simprocAttr, ↓dnA, Tryz.f31, encT, rows_length, boolRows_length, List.length_set, List.length_replicate, hst, frW, wk2, wk1, wkL, wkB, hpW, List.mem_cons, Prod.mk.injEq, exists_eq_left, exists_eq_right, exists_eq]
            · simp (config := { maxSteps := 4000000 }) only [go_sem, simprocAttr, ↓dnA, Tryz.f31, encT, rows_length, boolRows_length, List.length_set, List.length_replicate, frW, wk2, wk1, wkL, wkB, hpW, List.mem_cons, Prod.mk.injEq, exists_eq_left, exists_eq_right, exists_eq]
          · have hs : certStep t l cs[i] = l.set k true := by unfold certStep; rw [hb, if_neg (by omega), Int.toNat_natCast]
            rw [hs] at hst
            have hd2 : decide ((k : Int) ≥ 0) = true := by simp
            simp (config := { maxSteps := 4000000 }) only [go_sem, simprocAttr, ↓dnA, Tryz.f31, encT, rows_length, boolRows_length, List.length_set, List.length_replicate, nlt h, h, rows_get _ _ _ h, nn0, encC, hb, hd2, nlt hk, hk, hl, boolRows_get l k (by omega), spliceL, hw]
            refine ⟨i + 1, [(2, 2), (600, 600)], by omega, by dsimp only; omega, Weak.of (by rfl) ?_ ?_ (by rfl)⟩
            · simp (config := { maxSteps := 4000000 }) only [go_sem, simprocAttr, ↓dnA, Tryz.f31, encT, rows_length, boolRows_length, List.length_set, List.length_replicate, hst, ← boolRows_set, frW, wk2, wk1, wkL, wkB, hpW, List.mem_cons, Prod.mk.injEq, exists_eq_left, exists_eq_right, exists_eq]
            · simp (config := { maxSteps := 4000000 }) only [go_sem, simprocAttr, ↓dnA, Tryz.f31, encT, rows_length, boolRows_length, List.length_set, List.length_replicate, frW, wk2, wk1, wkL, wkB, hpW, List.mem_cons, Prod.mk.injEq, exists_eq_left, exists_eq_right, exists_eq]
        · have hi' : i = cs.length := by omega
          subst hi'
          rw [List.take_length] at hl
          simp (config := { maxSteps := 4000000 }) only [go_sem, simprocAttr, ↓dnA, Tryz.f31, encT, rows_length, boolRows_length, List.length_set, List.length_replicate, nlf h, List.take_length, certL, hl]
    · have hr := certified_no (t := t) (cs := cs) (fun e => hc e.2)
      have hd : decide ((cs.length : Int) > 30) = true := by simp; omega
      simp (config := { maxSteps := 4000000 }) only [go_sem, simprocAttr, ↓dnA, Tryz.f31, encT, rows_length, boolRows_length, List.length_set, List.length_replicate, h0, hd, hr, boolRows, List.map_nil]

end Go.Proofs.YtmibclbinebnjaaGreat

/- Contracts: blocks that are committed at once. -/
set_option linter.unusedSimpArgs false
set_option linter.unusedVariables false
set_option maxRecDepth 20000
set_option maxHeartbeats 4000000
namespace Go.Proofs.YtmibclbinebnjaaGreat
open Go Go.RowKit

/-- What is read of a tree at the block d, those before it. -/
theorem head_facts {t : Tree} (ht : TreeOk t) {d : Nat} (hd : d < t.blocks.length) (ce : List Bool) (hce : ce.length = t.blocks.length) :
    d < t.before.length ∧ (rows encI t.before).getD d [] = [.int .i64 (t.bef d)] ∧ (rows encB1 t.blocks).getD d [] = encB1 (t.blk d) ∧ (boolRows ce).getD d [] = [.bool (ce.getD d false)] ∧
      (0 ≤ (t.blk d).view ∧ (t.blk d).view ≤ 1000) ∧ (t.bef d < 0 ∨ ∃ c : Nat, t.bef d = (c : Int) ∧ c < t.blocks.length) := by
  have hb : d < t.before.length := by rw [ht.bef]; exact hd
  have hv := view_bd (ht.valid d hd)
  refine ⟨hb, by rw [rows_get _ _ d hb, t.bef_get d hb]; rfl, rows_gd _ _ d hd, boolRows_get ce d (by omega), hv, ?_⟩
  by_cases h : t.bef d < 0
  · exact .inl h
  · refine .inr ⟨(t.bef d).toNat, by omega, ?_⟩
    by_cases h0 : d = 0
    · subst h0; rw [ht.bef0] at h; omega
    · have := (ht.link d (by omega) hd).hi; omega

theorem headsTo_step (t : Tree) (ce : List Bool) (d : Nat) : headsTo t ce (d + 1) = headStep t ce (headsTo t ce d) d := rfl

/-- What a block does, in the words of its cells. -/
theorem headStep_no {t : Tree} {ce l : List Bool} {d : Nat} (h : t.bef d < 0) : headStep t ce l d = l := by
  unfold headStep; rw [if_pos h]
theorem headStep_no2 {t : Tree} {ce l : List Bool} {d c : Nat} (hc : t.bef d = (c : Int)) (h : t.bef c < 0) : headStep t ce l d = l := by
  unfold headStep; rw [hc, if_neg (by omega), Int.toNat_natCast, if_pos h]
theorem headStep_yes {t : Tree} {ce l : List Bool} {d c b : Nat} (hc : t.bef d = (c : Int)) (hb : t.bef c = (b : Int)) : headStep t ce l d = if threeB t ce b c d then l.set b true else l := by
  unfold headStep; rw [hc, if_neg (by omega), Int.toNat_natCast, hb, if_neg (by omega), Int.toNat_natCast]

theorem headsL_len (t : Tree) (ce : List Bool) : (headsL t ce).length ≤ t.blocks.length := fltF_len _ _ _
theorem commitHeads_len (t : Tree) (cs : List Cert) : (commitHeads t cs).length ≤ t.blocks.length := by
  unfold commitHeads
  split
  · simp
  · exact headsL_len _ _

theorem v2 (b c d : Int) : ((c == b + 1) && (d == b + 2)) = ((b + 1 == c) && (c + 1 == d)) := by
  rw [Bool.eq_iff_iff]
  simp only [Bool.and_eq_true, beq_iff_eq]
  omega

theorem c_impl_heads (n1 n2 n3 n4 : Option Bool) (t : Tree) (ce : List Bool) (hx : TreeSz t) (ht : TreeOk t) (hce : ce.length = t.blocks.length) :
    Det Tryz.prog 117 [.agg (encT n1 n2 n3 t), .sl n4 (boolRows ce)] (.osl false 1 (rows encI (headsL t ce))) := by
  refine fspec_det tab_ok Tryz.call117 Tryz.func117 rfl 105 Tryz.ntmps117 (of_decide_eq_true rfl) fun B => codeK_sound tab_ok _ _ _ ?_
  have hlen := ht.len
  simp (config := { maxSteps := 4000000 }) only [go_sem, simprocAttr, ↓dnA, Tryz.f117, encT, rows_length, boolRows_length, List.length_set, List.length_replicate]
  repeat refine And.intro (by first | omega | (simp; done) | (simp; omega) | assumption) ?_
  refine semL_for tab_ok (fun i : Nat => ⟨105, [(1, .sl n4 (boolRows ce)), (2, .loc 2 0), (5, .row 600 t.blocks.length), (19, .int .i64 t.blocks.length), (20, .int .i64 i)],
      [(2, .var (encT n1 n2 n3 t)), (600, .row true true 1 (boolRows (headsTo t ce i)))]⟩) (fun i => t.blocks.length - i)
    (fun i => i ≤ t.blocks.length) 0 [(2, 2), (16, 600)] (Weak.of (by rfl) ?_ ?_ (by rfl)) (by omega) ?_
  · simp (config := { maxSteps := 4000000 }) only [go_sem, simprocAttr, ↓dnA, Tryz.f117, encT, rows_length, boolRows_length, List.length_set, List.length_replicate, frW, wk2, wk1, wkL, wkB, hpW, List.mem_cons, Prod.mk.injEq, exists_eq_left, exists_eq_right, exists_eq]
    exact boolRows_rep _ _
  · simp (config := { maxSteps := 4000000 }) only [go_sem, simprocAttr, ↓dnA, Tryz.f117, encT, rows_length, boolRows_length, List.length_set, List.length_replicate, frW, wk2, wk1, wkL, wkB, hpW, List.mem_cons, Prod.mk.injEq, exists_eq_left, exists_eq_right, exists_eq]
  · rintro i hi
    have hl := headsTo_len t ce i
    by_cases h : i < t.blocks.length
    · have hw : IntKind.i64.wrap ((i : Int) + 1) = ((i + 1 : Nat) : Int) := wsucc h (by omega)
      have hst := headsTo_step t ce i
      generalize headsTo t ce i = l at hl hst
      obtain ⟨f1, f2, f3, f4, f5, f6⟩ := head_facts ht h ce hce
      rcases f6 with hc | ⟨c, hc, hcl⟩
      · rw [headStep_no hc] at hst
        simp (config := { maxSteps := 4000000 }) only [go_sem, simprocAttr, ↓dnA, Tryz.f117, encT, rows_length, boolRows_length, List.length_set, List.length_replicate, nlt h, h, nn0, nlt f1, f1, f2, decide_eq_true hc, hw]
        refine ⟨i + 1, [(2, 2), (600, 600)], by omega, by dsimp only; omega, Weak.of (by rfl) ?_ ?_ (by rfl)⟩
        · simp (config := { maxSteps := 4000000 }) only [go_sem, simprocAttr, ↓dnA, Tryz.f117, encT, rows_length, boolRows_length, List.length_set, List.length_replicate, hst, frW, wk2, wk1, wkL, wkB, hpW, List.mem_cons, Prod.mk.injEq, exists_eq_left, exists_eq_right, exists_eq]
        · simp (config := { maxSteps := 4000000 }) only [go_sem, simprocAttr, ↓dnA, Tryz.f117, encT, rows_length, boolRows_length, List.length_set, List.length_replicate, frW, wk2, wk1, wkL, wkB, hpW, List.mem_cons, Prod.mk.injEq, exists_eq_left, exists_eq_right, exists_eq]
      · have dc : decide ((c : Int) < 0) = false := by simp
        obtain ⟨c1, c2, c3, c4, c5, c6⟩ := head_facts ht hcl ce hce
        rcases c6 with hb | ⟨b, hb, hbl⟩
        · rw [headStep_no2 hc hb] at hst
          simp (config := { maxSteps := 4000000 }) only [go_sem, simprocAttr, ↓dnA, Tryz.f117, encT, rows_length, boolRows_length, List.length_set, List.length_replicate, nlt h, h, nn0, nlt f1, f1, f2, hc, dc, nlt c1, c1, c2, decide_eq_true hb, hw]
          refine ⟨i + 1, [(2, 2), (600, 600)], by omega, by dsimp only; omega, Weak.of (by rfl) ?_ ?_ (by rfl)⟩
          · simp (config := { maxSteps := 4000000 }) only [go_sem, simprocAttr, ↓dnA, Tryz.f117, encT, rows_length, boolRows_length, List.length_set, List.length_replicate, hst, frW, wk2, wk1, wkL, wkB, hpW, List.mem_cons, Prod.mk.injEq, exists_eq_left, exists_eq_right, exists_eq]
          · simp (config := { maxSteps := 4000000 }) only [go_sem, simprocAttr, ↓dnA, Tryz.f117, encT, rows_length, boolRows_length, List.length_set, List.length_replicate, frW, wk2, wk1, wkL, wkB, hpW, List.mem_cons, Prod.mk.injEq, exists_eq_left, exists_eq_right, exists_eq]
        · have db : decide ((b : Int) < 0) = false := by simp
          obtain ⟨b1, b2, b3, b4, b5, b6⟩ := head_facts ht hbl ce hce
          have w1 : IntKind.i64.wrap ((t.blk b).view + 1) = (t.blk b).view + 1 := wrap_small _ (by omega) (by omega)
          have w2 : IntKind.i64.wrap ((t.blk b).view + 2) = (t.blk b).view + 2 := wrap_small _ (by omega) (by omega)
          rw [headStep_yes hc hb] at hst
          have h3 : threeB t ce b c i = (ce.getD b false && (ce.getD c false && (ce.getD i false && (((t.blk c).view == (t.blk b).view + 1) && ((t.blk i).view == (t.blk b).view + 2))))) := by
            unfold threeB; rw [v2]
          rw [h3] at hst
          have no : ∀ q : Bool, q = false → (if q then l.set b true else l) = l := fun q e => by rw [e, if_neg Bool.false_ne_true]
          have yes : ∀ q : Bool, q = true → (if q then l.set b true else l) = l.set b true := fun q e => by rw [e, if_pos rfl]
          cases e1 : ce.getD b false with
          | false =>
            rw [no _ (by rw [e1]; rfl)] at hst
            simp (config := { maxSteps := 4000000 }) only [go_sem, simprocAttr, ↓dnA, Tryz.f117, encT, rows_length, boolRows_length, List.length_set, List.length_replicate, nlt h, h, nn0, nlt f1, f1, f2, hc, dc, nlt c1, c1, c2, hb, db, nlt hcl, hcl, nlt hbl, hbl, f3, c3, b3, f4, c4, b4, hce, encB1, encBk, w1, w2, e1, hw]
            refine ⟨i + 1, [(2, 2), (600, 600)], by omega, by dsimp only; omega, Weak.of (by rfl) ?_ ?_ (by rfl)⟩
            · simp (config := { maxSteps := 4000000 }) only [go_sem, simprocAttr, ↓dnA, Tryz.f117, encT, rows_length, boolRows_length, List.length_set, List.length_replicate, hst, frW, wk2, wk1, wkL, wkB, hpW, List.mem_cons, Prod.mk.injEq, exists_eq_left, exists_eq_right, exists_eq]
            · simp (config := { maxSteps := 4000000 }) only [go_sem, simprocAttr, ↓dnA, Tryz.f117, encT, rows_length, boolRows_length, List.length_set, List.length_replicate, frW, wk2, wk1, wkL, wkB, hpW, List.mem_cons, Prod.mk.injEq, exists_eq_left, exists_eq_right, exists_eq]
          | true =>
          cases e2 : ce.getD c false with
          | false =>
            rw [no _ (by rw [e1, e2]; rfl)] at hst
            simp (config := { maxSteps := 4000000 }) only [go_sem, simprocAttr, ↓dnA, Tryz.f117, encT, rows_length, boolRows_length, List.length_set, List.length_replicate, nlt h, h, nn0, nlt f1, f1, f2, hc, dc, nlt c1, c1, c2, hb, db, nlt hcl, hcl, nlt hbl, hbl, f3, c3, b3, f4, c4, b4, hce, encB1, encBk, w1, w2, e1, e2, hw]
            refine ⟨i + 1, [(2, 2), (600, 600)], by omega, by dsimp only; omega, Weak.of (by rfl) ?_ ?_ (by rfl)⟩
            · simp (config := { maxSteps := 4000000 }) only [go_sem, simprocAttr, ↓dnA, Tryz.f117, encT, rows_length, boolRows_length, List.length_set, List.length_replicate, hst, frW, wk2, wk1, wkL, wkB, hpW, List.mem_cons, Prod.mk.injEq, exists_eq_left, exists_eq_right, exists_eq]
            · simp (config := { maxSteps := 4000000 }) only [go_sem, simprocAttr, ↓dnA, Tryz.f117, encT, rows_length, boolRows_length, List.length_set, List.length_replicate, frW, wk2, wk1, wkL, wkB, hpW, List.mem_cons, Prod.mk.injEq, exists_eq_left, exists_eq_right, exists_eq]
          | true =>
          cases e3 : ce.getD i false with
          | false =>
            rw [no _ (by rw [e1, e2, e3]; rfl)] at hst
            simp (config := { maxSteps := 4000000 }) only [go_sem, simprocAttr, ↓dnA, Tryz.f117, encT, rows_length, boolRows_length, List.length_set, List.length_replicate, nlt h, h, nn0, nlt f1, f1, f2, hc, dc, nlt c1, c1, c2, hb, db, nlt hcl, hcl, nlt hbl, hbl, f3, c3, b3, f4, c4, b4, hce, encB1, encBk, w1, w2, e1, e2, e3, hw]
            refine ⟨i + 1, [(2, 2), (600, 600)], by omega, by dsimp only; omega, Weak.of (by rfl) ?_ ?_ (by rfl)⟩
            · simp (config := { maxSteps := 4000000 }) only [go_sem, simprocAttr, ↓dnA, Tryz.f117, encT, rows_length, boolRows_length, List.length_set, List.length_replicate, hst, frW, wk2, wk1, wkL, wkB, hpW, List.mem_cons, Prod.mk.injEq, exists_eq_left, exists_eq_right, exists_eq]
            · simp (config := { maxSteps := 4000000 }) only [go_sem, simprocAttr, ↓dnA, Tryz.f117, encT, rows_length, boolRows_length, List.length_set, List.length_replicate, frW, wk2, wk1, wkL, wkB, hpW, List.mem_cons, Prod.mk.injEq, exists_eq_left, exists_eq_right, exists_eq]
          | true =>
          cases e4 : ((t.blk c).view == (t.blk b).view + 1) with
          | false =>
            rw [no _ (by rw [e1, e2, e3, e4]; rfl)] at hst
            simp (config := { maxSteps := 4000000 }) only [go_sem, simprocAttr, ↓dnA, Tryz.f117, encT, rows_length, boolRows_length, List.length_set, List.length_replicate, nlt h, h, nn0, nlt f1, f1, f2, hc, dc, nlt c1, c1, c2, hb, db, nlt hcl, hcl, nlt hbl, hbl, f3, c3, b3, f4, c4, b4, hce, encB1, encBk, w1, w2, e1, e2, e3, e4, hw]
            refine ⟨i + 1, [(2, 2), (600, 600)], by omega, by dsimp only; omega, Weak.of (by rfl) ?_ ?_ (by rfl)⟩
            · simp (config := { maxSteps := 4000000 }) only [go_sem, simprocAttr, ↓dnA, Tryz.f117, encT, rows_length, boolRows_length, List.length_set, List.length_replicate, hst, frW, wk2, wk1, wkL, wkB, hpW, List.mem_cons, Prod.mk.injEq, exists_eq_left, exists_eq_right, exists_eq]
            · simp (config := { maxSteps := 4000000 }) only [go_sem, simprocAttr, ↓dnA, Tryz.f117, encT, rows_length, boolRows_length, List.length_set, List.length_replicate, frW, wk2, wk1, wkL, wkB, hpW, List.mem_cons, Prod.mk.injEq, exists_eq_left, exists_eq_right, exists_eq]
          | true =>
          cases e5 : ((t.blk i).view == (t.blk b).view + 2) with
          | false =>
            rw [no _ (by rw [e1, e2, e3, e4, e5]; rfl)] at hst
            simp (config := { maxSteps := 4000000 }) only [go_sem, simprocAttr, ↓dnA, Tryz.f117, encT, rows_length, boolRows_length, List.length_set, List.length_replicate, nlt h, h, nn0, nlt f1, f1, f2, hc, dc, nlt c1, c1, c2, hb, db, nlt hcl, hcl, nlt hbl, hbl, f3, c3, b3, f4, c4, b4, hce, encB1, encBk, w1, w2, e1, e2, e3, e4, e5, hw]
            refine ⟨i + 1, [(2, 2), (600, 600)], by omega, by dsimp only; omega, Weak.of (by rfl) ?_ ?_ (by rfl)⟩
            · simp (config := { maxSteps := 4000000 }) only [go_sem, simprocAttr, ↓dnA, Tryz.f117, encT, rows_length, boolRows_length, List.length_set, List.length_replicate, hst, frW, wk2, wk1, wkL, wkB, hpW, List.mem_cons, Prod.mk.injEq, exists_eq_left, exists_eq_right, exists_eq]
            · simp (config := { maxSteps := 4000000 }) only [go_sem, simprocAttr, ↓dnA, Tryz.f117, encT, rows_length, boolRows_length, List.length_set, List.length_replicate, frW, wk2, wk1, wkL, wkB, hpW, List.mem_cons, Prod.mk.injEq, exists_eq_left, exists_eq_right, exists_eq]
          | true =>
            rw [yes _ (by rw [e1, e2, e3, e4, e5]; rfl)] at hst
            simp (config := { maxSteps := 4000000 }) only [go_sem, simprocAttr, ↓dnA, Tryz.f117, encT, rows_length, boolRows_length, List.length_set, List.length_replicate, nlt h, h, nn0, nlt f1, f1, f2, hc, dc, nlt c1, c1, c2, hb, db, nlt hcl, hcl, nlt hbl, hbl, f3, c3, b3, f4, c4, b4, hce, encB1, encBk, w1, w2, e1, e2, e3, e4, e5, hl, boolRows_get l b (by omega), spliceL, hw]
            refine ⟨i + 1, [(2, 2), (600, 600)], by omega, by dsimp only; omega, Weak.of (by rfl) ?_ ?_ (by rfl)⟩
            · simp (config := { maxSteps := 4000000 }) only [go_sem, simprocAttr, ↓dnA, Tryz.f117, encT, rows_length, boolRows_length, List.length_set, List.length_replicate, hst, ← boolRows_set, frW, wk2, wk1, wkL, wkB, hpW, List.mem_cons, Prod.mk.injEq, exists_eq_left, exists_eq_right, exists_eq]
            · simp (config := { maxSteps := 4000000 }) only [go_sem, simprocAttr, ↓dnA, Tryz.f117, encT, rows_length, boolRows_length, List.length_set, List.length_replicate, frW, wk2, wk1, wkL, wkB, hpW, List.mem_cons, Prod.mk.injEq, exists_eq_left, exists_eq_right, exists_eq]
    · have hi' : i = t.blocks.length := by omega
      subst hi'
      unfold headsL headsB
      generalize headsTo t ce t.blocks.length = l at hl
      rw [← hl]
      simp (config := { maxSteps := 4000000 }) only [go_sem, simprocAttr, ↓dnA, Tryz.f117, encT, rows_length, boolRows_length, List.length_set, List.length_replicate, nlf h, hl]
      refine semL_nilA 10 10 1 true (by rfl) (by rfl) (by decide) (by decide) ?_
      refine semL_for tab_ok (fun p : Nat × List Int => ⟨105, [(10, .row 10 p.2.length), (91, .row 600 l.length), (92, .int .i64 l.length), (93, .int .i64 p.1)], [(600, .row true true 1 (boolRows l)), (10, .row true false 1 (rows encI p.2))]⟩) (fun p => l.length - p.1)
        (fun p => p.1 ≤ l.length ∧ p.2.length ≤ p.1 ∧ p.2 ++ fltF (fun k => l.getD k false) (l.length - p.1) p.1 = fltF (fun k => l.getD k false) l.length 0) (0, []) [(600, 600), (10, 10)] (Weak.of (by rfl) ?_ ?_ (by rfl)) ⟨by omega, by simp, rfl⟩ ?_
      · simp (config := { maxSteps := 4000000 }) only [go_sem, simprocAttr, ↓dnA, Tryz.f117, encT, rows_length, boolRows_length, List.length_set, List.length_replicate, hl, frW, wk2, wk1, wkL, wkB, hpW, List.mem_cons, Prod.mk.injEq, exists_eq_left, exists_eq_right, exists_eq]
        try rfl
      · simp (config := { maxSteps := 4000000 }) only [go_sem, simprocAttr, ↓dnA, Tryz.f117, encT, rows_length, boolRows_length, List.length_set, List.length_replicate, hl, frW, wk2, wk1, wkL, wkB, hpW, List.mem_cons, Prod.mk.injEq, exists_eq_left, exists_eq_right, exists_eq]
      · rintro ⟨i, acc⟩ ⟨hi, hac, hp⟩
        dsimp only at hi hac hp
        have htk := take_rows encI acc acc.length rfl
        by_cases h : i < l.length
        · have hw : IntKind.i64.wrap ((i : Int) + 1) = ((i + 1 : Nat) : Int) := wsucc h (by omega)
          have hg := boolRows_get l i h
          rw [fltF_step _ _ _ h] at hp
          cases e : l.getD i false with
          | false =>
            rw [e, if_neg Bool.false_ne_true, List.nil_append] at hp
            simp (config := { maxSteps := 4000000 }) only [go_sem, simprocAttr, ↓dnA, Tryz.f117, encT, rows_length, boolRows_length, List.length_set, List.length_replicate, nlt h, h, nn0, hg, e, hw]
            refine ⟨(i + 1, acc), [(600, 600), (10, 10)], ⟨by dsimp only; omega, by dsimp only; omega, hp⟩, by dsimp only; omega, Weak.of (by rfl) ?_ ?_ (by rfl)⟩
            · simp (config := { maxSteps := 4000000 }) only [go_sem, simprocAttr, ↓dnA, Tryz.f117, encT, rows_length, boolRows_length, List.length_set, List.length_replicate, frW, wk2, wk1, wkL, wkB, hpW, List.mem_cons, Prod.mk.injEq, exists_eq_left, exists_eq_right, exists_eq]
            · simp (config := { maxSteps := 4000000 }) only [go_sem, simprocAttr, ↓dnA, Tryz.f117, encT, rows_length, boolRows_length, List.length_set, List.length_replicate, frW, wk2, wk1, wkL, wkB, hpW, List.mem_cons, Prod.mk.injEq, exists_eq_left, exists_eq_right, exists_eq]
          | true =>
            rw [e, if_pos rfl] at hp
            simp (config := { maxSteps := 4000000 }) only [go_sem, simprocAttr, ↓dnA, Tryz.f117, encT, rows_length, boolRows_length, List.length_set, List.length_replicate, nlt h, h, nn0, hg, e, htk, hw]
            repeat refine And.intro (by first | omega | (simp; done) | (simp; omega) | assumption) ?_
            refine ⟨(i + 1, acc ++ [(i : Int)]), [(600, 600), (102, 10)], ⟨by dsimp only; omega, by simp; omega, by rw [← hp]; simp⟩, by dsimp only; omega, Weak.of (by rfl) ?_ ?_ (by rfl)⟩
            · simp (config := { maxSteps := 4000000 }) only [go_sem, simprocAttr, ↓dnA, Tryz.f117, encT, rows_length, boolRows_length, List.length_set, List.length_replicate, frW, wk2, wk1, wkL, wkB, hpW, List.mem_cons, Prod.mk.injEq, exists_eq_left, exists_eq_right, exists_eq]
              exact (rows_snoc encI _ _).symm
            · simp (config := { maxSteps := 4000000 }) only [go_sem, simprocAttr, ↓dnA, Tryz.f117, encT, rows_length, boolRows_length, List.length_set, List.length_replicate, List.length_append, frW, wk2, wk1, wkL, wkB, hpW, List.mem_cons, Prod.mk.injEq, exists_eq_left, exists_eq_right, exists_eq]
        · have hi' : i = l.length := by omega
          subst hi'
          rw [Nat.sub_self, show fltF (fun k => l.getD k false) 0 l.length = [] from rfl, List.append_nil] at hp
          simp (config := { maxSteps := 4000000 }) only [go_sem, simprocAttr, ↓dnA, Tryz.f117, encT, rows_length, boolRows_length, List.length_set, List.length_replicate, nlf h, hp]

theorem c_spec_l16Commits (n1 n2 n3 n4 : Option Bool) (t : Tree) (ce : List Bool) (hx : TreeSz t) (ht : TreeOk t) (hce : ce.length = t.blocks.length) :
    Det Tryz.prog 135 [.agg (encT n1 n2 n3 t), .sl n4 (boolRows ce)] (.osl true 1 (boolRows (headsTo t ce t.blocks.length))) := by
  refine fspec_det tab_ok Tryz.call135 Tryz.func135 rfl 94 Tryz.ntmps135 (of_decide_eq_true rfl) fun B => codeK_sound tab_ok _ _ _ ?_
  have hlen := ht.len
  simp (config := { maxSteps := 4000000 }) only [go_sem, simprocAttr, ↓dnA, Tryz.f135, encT, rows_length, boolRows_length, List.length_set, List.length_replicate]
  repeat refine And.intro (by first | omega | (simp; done) | (simp; omega) | assumption) ?_
  refine semL_for tab_ok (fun i : Nat => ⟨94, [(1, .sl n4 (boolRows ce)), (2, .loc 2 0), (5, .row 600 t.blocks.length), (6, .int .i64 i)],
      [(2, .var (encT n1 n2 n3 t)), (600, .row true true 1 (boolRows (headsTo t ce i)))]⟩) (fun i => t.blocks.length - i)
    (fun i => i ≤ t.blocks.length) 0 [(2, 2), (13, 600)] (Weak.of (by rfl) ?_ ?_ (by rfl)) (by omega) ?_
  · simp (config := { maxSteps := 4000000 }) only [go_sem, simprocAttr, ↓dnA, Tryz.f135, encT, rows_length, boolRows_length, List.length_set, List.length_replicate, frW, wk2, wk1, wkL, wkB, hpW, List.mem_cons, Prod.mk.injEq, exists_eq_left, exists_eq_right, exists_eq]
    exact boolRows_rep _ _
  · simp (config := { maxSteps := 4000000 }) only [go_sem, simprocAttr, ↓dnA, Tryz.f135, encT, rows_length, boolRows_length, List.length_set, List.length_replicate, frW, wk2, wk1, wkL, wkB, hpW, List.mem_cons, Prod.mk.injEq, exists_eq_left, exists_eq_right, exists_eq]
  · rintro i hi
    have hl := headsTo_len t ce i
    by_cases h : i < t.blocks.length
    · have hw : IntKind.i64.wrap ((i : Int) + 1) = ((i + 1 : Nat) : Int) := wsucc h (by omega)
      have hst := headsTo_step t ce i
      generalize headsTo t ce i = l at hl hst
      obtain ⟨f1, f2, f3, f4, f5, f6⟩ := head_facts ht h ce hce
      rcases f6 with hc | ⟨c, hc, hcl⟩
      · rw [headStep_no hc] at hst
        simp (config := { maxSteps := 4000000 }) only [go_sem, simprocAttr, ↓dnA, Tryz.f135, encT, rows_length, boolRows_length, List.length_set, List.length_replicate, nlt h, h, nn0, nlt f1, f1, f2, decide_eq_true hc, hw]
        refine ⟨i + 1, [(2, 2), (600, 600)], by omega, by dsimp only; omega, Weak.of (by rfl) ?_ ?_ (by rfl)⟩
        · simp (config := { maxSteps := 4000000 }) only [go_sem, simprocAttr, ↓dnA, Tryz.f135, encT, rows_length, boolRows_length, List.length_set, List.length_replicate, hst, frW, wk2, wk1, wkL, wkB, hpW, List.mem_cons, Prod.mk.injEq, exists_eq_left, exists_eq_right, exists_eq]
        · simp (config := { maxSteps := 4000000 }) only [go_sem, simprocAttr, ↓dnA, Tryz.f135, encT, rows_length, boolRows_length, List.length_set, List.length_replicate, frW, wk2, wk1, wkL, wkB, hpW, List.mem_cons, Prod.mk.injEq, exists_eq_left, exists_eq_right, exists_eq]
      · have dc : decide ((c : Int) < 0) = false := by simp
        obtain ⟨c1, c2, c3, c4, c5, c6⟩ := head_facts ht hcl ce hce
        rcases c6 with hb | ⟨b, hb, hbl⟩
        · rw [headStep_no2 hc hb] at hst
          simp (config := { maxSteps := 4000000 }) only [go_sem, simprocAttr, ↓dnA, Tryz.f135, encT, rows_length, boolRows_length, List.length_set, List.length_replicate, nlt h, h, nn0, nlt f1, f1, f2, hc, dc, nlt c1, c1, c2, decide_eq_true hb, hw]
          refine ⟨i + 1, [(2, 2), (600, 600)], by omega, by dsimp only; omega, Weak.of (by rfl) ?_ ?_ (by rfl)⟩
          · simp (config := { maxSteps := 4000000 }) only [go_sem, simprocAttr, ↓dnA, Tryz.f135, encT, rows_length, boolRows_length, List.length_set, List.length_replicate, hst, frW, wk2, wk1, wkL, wkB, hpW, List.mem_cons, Prod.mk.injEq, exists_eq_left, exists_eq_right, exists_eq]
          · simp (config := { maxSteps := 4000000 }) only [go_sem, simprocAttr, ↓dnA, Tryz.f135, encT, rows_length, boolRows_length, List.length_set, List.length_replicate, frW, wk2, wk1, wkL, wkB, hpW, List.mem_cons, Prod.mk.injEq, exists_eq_left, exists_eq_right, exists_eq]
        · have db : decide ((b : Int) < 0) = false := by simp
          obtain ⟨b1, b2, b3, b4, b5, b6⟩ := head_facts ht hbl ce hce
          have w1 : IntKind.i64.wrap ((t.blk b).view + 1) = (t.blk b).view + 1 := wrap_small _ (by omega) (by omega)
          have w2 : IntKind.i64.wrap ((t.blk c).view + 1) = (t.blk c).view + 1 := wrap_small _ (by omega) (by omega)
          rw [headStep_yes hc hb] at hst
          have no : ∀ q : Bool, q = false → (if q then l.set b true else l) = l := fun q e => by rw [e, if_neg Bool.false_ne_true]
          have yes : ∀ q : Bool, q = true → (if q then l.set b true else l) = l.set b true := fun q e => by rw [e, if_pos rfl]
          obtain ⟨q1, hq1⟩ : ∃ q, ((t.blk b).view + 1 == (t.blk c).view) = q := ⟨_, rfl⟩
          obtain ⟨q2, hq2⟩ : ∃ q, ((t.blk c).view + 1 == (t.blk i).view) = q := ⟨_, rfl⟩
          obtain ⟨q3, hq3⟩ : ∃ q, ce.getD b false = q := ⟨_, rfl⟩
          obtain ⟨q4, hq4⟩ : ∃ q, ce.getD c false = q := ⟨_, rfl⟩
          obtain ⟨q5, hq5⟩ : ∃ q, ce.getD i false = q := ⟨_, rfl⟩
          have h3 : threeB t ce b c i = (q3 && (q4 && (q5 && (q1 && q2)))) := by unfold threeB; rw [hq1, hq2, hq3, hq4, hq5]
          rw [h3] at hst
          simp (config := { maxSteps := 4000000 }) only [go_sem, simprocAttr, ↓dnA, Tryz.f135, encT, rows_length, boolRows_length, List.length_set, List.length_replicate, nlt h, h, nn0, nlt f1, f1, f2, hc, dc, nlt c1, c1, c2, hb, db]
          refine semL_draw tab_ok mixed_ rfl (ord := [(0, []), (1, []), (2, []), (3, []), (4, []), (5, []), (6, []), (7, []), (8, []), (9, []), (10, []), (11, []), (12, []), (13, []), (14, []), (15, []), (16, []), (17, []), (18, []), (19, []), (20, []), (21, []), (22, []), (23, []), (24, []), (25, []), (26, []), (27, []), (28, []), (29, []), (30, [])]) (by dsimp only; decide +kernel) ?_
          cases q1 with
          | false =>
            rw [no _ (by cases q3 <;> cases q4 <;> cases q5 <;> rfl)] at hst
            simp (config := { maxSteps := 4000000 }) only [go_sem, simprocAttr, ↓dnA, Tryz.f135, encT, rows_length, boolRows_length, List.length_set, List.length_replicate, nlt h, h, nn0, nlt f1, f1, f2, hc, dc, nlt c1, c1, c2, hb, db, nlt hcl, hcl, nlt hbl, hbl, f3, c3, b3, encB1, encBk, w1, w2, hq1]
            cases q3 with
            | false =>
              simp (config := { maxSteps := 4000000 }) only [go_sem, simprocAttr, ↓dnA, Tryz.f135, encT, rows_length, boolRows_length, List.length_set, List.length_replicate, nlt h, h, nn0, nlt hcl, hcl, nlt hbl, hbl, f4, c4, b4, hce, hq3, hw]
              refine ⟨i + 1, [(2, 2), (600, 600)], by omega, by dsimp only; omega, Weak.of (by rfl) ?_ ?_ (by rfl)⟩
              · simp (config := { maxSteps := 4000000 }) only [go_sem, simprocAttr, ↓dnA, Tryz.f135, encT, rows_length, boolRows_length, List.length_set, List.length_replicate, hst, frW, wk2, wk1, wkL, wkB, hpW, List.mem_cons, Prod.mk.injEq, exists_eq_left, exists_eq_right, exists_eq]
              · simp (config := { maxSteps := 4000000 }) only [go_sem, simprocAttr, ↓dnA, Tryz.f135, encT, rows_length, boolRows_length, List.length_set, List.length_replicate, frW, wk2, wk1, wkL, wkB, hpW, List.mem_cons, Prod.mk.injEq, exists_eq_left, exists_eq_right, exists_eq]
            | true =>
              cases q4 with
              | false =>
                simp (config := { maxSteps := 4000000 }) only [go_sem, simprocAttr, ↓dnA, Tryz.f135, encT, rows_length, boolRows_length, List.length_set, List.length_replicate, nlt h, h, nn0, nlt hcl, hcl, nlt hbl, hbl, f4, c4, b4, hce, hq3, hq4, hw]
                refine ⟨i + 1, [(2, 2), (600, 600)], by omega, by dsimp only; omega, Weak.of (by rfl) ?_ ?_ (by rfl)⟩
                · simp (config := { maxSteps := 4000000 }) only [go_sem, simprocAttr, ↓dnA, Tryz.f135, encT, rows_length, boolRows_length, List.length_set, List.length_replicate, hst, frW, wk2, wk1, wkL, wkB, hpW, List.mem_cons, Prod.mk.injEq, exists_eq_left, exists_eq_right, exists_eq]
                · simp (config := { maxSteps := 4000000 }) only [go_sem, simprocAttr, ↓dnA, Tryz.f135, encT, rows_length, boolRows_length, List.length_set, List.length_replicate, frW, wk2, wk1, wkL, wkB, hpW, List.mem_cons, Prod.mk.injEq, exists_eq_left, exists_eq_right, exists_eq]
              | true =>
                cases q5 with
                | false =>
                  simp (config := { maxSteps := 4000000 }) only [go_sem, simprocAttr, ↓dnA, Tryz.f135, encT, rows_length, boolRows_length, List.length_set, List.length_replicate, nlt h, h, nn0, nlt hcl, hcl, nlt hbl, hbl, f4, c4, b4, hce, hq3, hq4, hq5, hw]
                  refine ⟨i + 1, [(2, 2), (600, 600)], by omega, by dsimp only; omega, Weak.of (by rfl) ?_ ?_ (by rfl)⟩
                  · simp (config := { maxSteps := 4000000 }) only [go_sem, simprocAttr, ↓dnA, Tryz.f135, encT, rows_length, boolRows_length, List.length_set, List.length_replicate, hst, frW, wk2, wk1, wkL, wkB, hpW, List.mem_cons, Prod.mk.injEq, exists_eq_left, exists_eq_right, exists_eq]
                  · simp (config := { maxSteps := 4000000 }) only [go_sem, simprocAttr, ↓dnA, Tryz.f135, encT, rows_length, boolRows_length, List.length_set, List.length_replicate, frW, wk2, wk1, wkL, wkB, hpW, List.mem_cons, Prod.mk.injEq, exists_eq_left, exists_eq_right, exists_eq]
                | true =>
                  simp (config := { maxSteps := 4000000 }) only [go_sem, simprocAttr, ↓dnA, Tryz.f135, encT, rows_length, boolRows_length, List.length_set, List.length_replicate, nlt h, h, nn0, nlt hcl, hcl, nlt hbl, hbl, f4, c4, b4, hce, hq3, hq4, hq5, hw]
                  refine ⟨i + 1, [(2, 2), (600, 600)], by omega, by dsimp only; omega, Weak.of (by rfl) ?_ ?_ (by rfl)⟩
                  · simp (config := { maxSteps := 4000000 }) only [go_sem, simprocAttr, ↓dnA, Tryz.f135, encT, rows_length, boolRows_length, List.length_set, List.length_replicate, hst, frW, wk2, wk1, wkL, wkB, hpW, List.mem_cons, Prod.mk.injEq, exists_eq_left, exists_eq_right, exists_eq]
                  · simp (config := { maxSteps := 4000000 }) only [go_sem, simprocAttr, ↓dnA, Tryz.f135, encT, rows_length, boolRows_length, List.length_set, List.length_replicate, frW, wk2, wk1, wkL, wkB, hpW, List.mem_cons, Prod.mk.injEq, exists_eq_left, exists_eq_right, exists_eq]
          | true =>
            simp (config := { maxSteps := 4000000 }) only [go_sem, simprocAttr, ↓dnA, Tryz.f135, encT, rows_length, boolRows_length, List.length_set, List.length_replicate, nlt h, h, nn0, nlt f1, f1, f2, hc, dc, nlt c1, c1, c2, hb, db, nlt hcl, hcl, nlt hbl, hbl, f3, c3, b3, encB1, encBk, w1, w2, hq1, hq2]
            cases q3 with
            | false =>
              simp only [Bool.false_and, Bool.true_and, Bool.and_false, Bool.and_true, Bool.false_eq_true, if_false] at hst
              simp (config := { maxSteps := 4000000 }) only [go_sem, simprocAttr, ↓dnA, Tryz.f135, encT, rows_length, boolRows_length, List.length_set, List.length_replicate, nlt h, h, nn0, nlt hcl, hcl, nlt hbl, hbl, f4, c4, b4, hce, hq3, hw]
              refine ⟨i + 1, [(2, 2), (600, 600)], by omega, by dsimp only; omega, Weak.of (by rfl) ?_ ?_ (by rfl)⟩
              · simp (config := { maxSteps := 4000000 }) only [go_sem, simprocAttr, ↓dnA, Tryz.f135, encT, rows_length, boolRows_length, List.length_set, List.length_replicate, hst, frW, wk2, wk1, wkL, wkB, hpW, List.mem_cons, Prod.mk.injEq, exists_eq_left, exists_eq_right, exists_eq]
              · simp (config := { maxSteps := 4000000 }) only [go_sem, simprocAttr, ↓dnA, Tryz.f135, encT, rows_length, boolRows_length, List.length_set, List.length_replicate, frW, wk2, wk1, wkL, wkB, hpW, List.mem_cons, Prod.mk.injEq, exists_eq_left, exists_eq_right, exists_eq]
            | true =>
              cases q4 with
              | false =>
                simp only [Bool.false_and, Bool.true_and, Bool.and_false, Bool.and_true, Bool.false_eq_true, if_false] at hst
                simp (config := { maxSteps := 4000000 }) only [go_sem, simprocAttr, ↓dnA, Tryz.f135, encT, rows_length, boolRows_length, List.length_set, List.length_replicate, nlt h, h, nn0, nlt hcl, hcl, nlt hbl, hbl, f4, c4, b4, hce, hq3, hq4, hw]
                refine ⟨i + 1, [(2, 2), (600, 600)], by omega, by dsimp only; omega, Weak.of (by rfl) ?_ ?_ (by rfl)⟩
                · simp (config := { maxSteps := 4000000 }) only [go_sem, simprocAttr, ↓dnA, Tryz.f135, encT, rows_length, boolRows_length, List.length_set, List.length_replicate, hst, frW, wk2, wk1, wkL, wkB, hpW, List.mem_cons, Prod.mk.injEq, exists_eq_left, exists_eq_right, exists_eq]
                · simp (config := { maxSteps := 4000000 }) only [go_sem, simprocAttr, ↓dnA, Tryz.f135, encT, rows_length, boolRows_length, List.length_set, List.length_replicate, frW, wk2, wk1, wkL, wkB, hpW, List.mem_cons, Prod.mk.injEq, exists_eq_left, exists_eq_right, exists_eq]
              | true =>
                cases q5 with
                | false =>
                  simp only [Bool.false_and, Bool.true_and, Bool.and_false, Bool.and_true, Bool.false_eq_true, if_false] at hst
                  simp (config := { maxSteps := 4000000 }) only [go_sem, simprocAttr, ↓dnA, Tryz.f135, encT, rows_length, boolRows_length, List.length_set, List.length_replicate, nlt h, h, nn0, nlt hcl, hcl, nlt hbl, hbl, f4, c4, b4, hce, hq3, hq4, hq5, hw]
                  refine ⟨i + 1, [(2, 2), (600, 600)], by omega, by dsimp only; omega, Weak.of (by rfl) ?_ ?_ (by rfl)⟩
                  · simp (config := { maxSteps := 4000000 }) only [go_sem, simprocAttr, ↓dnA, Tryz.f135, encT, rows_length, boolRows_length, List.length_set, List.length_replicate, hst, frW, wk2, wk1, wkL, wkB, hpW, List.mem_cons, Prod.mk.injEq, exists_eq_left, exists_eq_right, exists_eq]
                  · simp (config := { maxSteps := 4000000 }) only [go_sem, simprocAttr, ↓dnA, Tryz.f135, encT, rows_length, boolRows_length, List.length_set, List.length_replicate, frW, wk2, wk1, wkL, wkB, hpW, List.mem_cons, Prod.mk.injEq, exists_eq_left, exists_eq_right, exists_eq]
                | true =>
                  cases q2 with
                  | false =>
                    simp only [Bool.false_and, Bool.true_and, Bool.and_false, Bool.and_true, Bool.false_eq_true, if_false] at hst
                    simp (config := { maxSteps := 4000000 }) only [go_sem, simprocAttr, ↓dnA, Tryz.f135, encT, rows_length, boolRows_length, List.length_set, List.length_replicate, nlt h, h, nn0, nlt hcl, hcl, nlt hbl, hbl, f4, c4, b4, hce, hq3, hq4, hq5, hw]
                    refine ⟨i + 1, [(2, 2), (600, 600)], by omega, by dsimp only; omega, Weak.of (by rfl) ?_ ?_ (by rfl)⟩
                    · simp (config := { maxSteps := 4000000 }) only [go_sem, simprocAttr, ↓dnA, Tryz.f135, encT, rows_length, boolRows_length, List.length_set, List.length_replicate, hst, frW, wk2, wk1, wkL, wkB, hpW, List.mem_cons, Prod.mk.injEq, exists_eq_left, exists_eq_right, exists_eq]
                    · simp (config := { maxSteps := 4000000 }) only [go_sem, simprocAttr, ↓dnA, Tryz.f135, encT, rows_length, boolRows_length, List.length_set, List.length_replicate, frW, wk2, wk1, wkL, wkB, hpW, List.mem_cons, Prod.mk.injEq, exists_eq_left, exists_eq_right, exists_eq]
                  | true =>
                    simp only [Bool.and_self, Bool.true_and, if_true] at hst
                    simp (config := { maxSteps := 4000000 }) only [go_sem, simprocAttr, ↓dnA, Tryz.f135, encT, rows_length, boolRows_length, List.length_set, List.length_replicate, nlt h, h, nn0, nlt hcl, hcl, nlt hbl, hbl, f4, c4, b4, hce, hq3, hq4, hq5, hl, boolRows_get l b (by omega), spliceL, hw]
                    refine ⟨i + 1, [(2, 2), (600, 600)], by omega, by dsimp only; omega, Weak.of (by rfl) ?_ ?_ (by rfl)⟩
                    · simp (config := { maxSteps := 4000000 }) only [go_sem, simprocAttr, ↓dnA, Tryz.f135, encT, rows_length, boolRows_length, List.length_set, List.length_replicate, hst, ← boolRows_set, frW, wk2, wk1, wkL, wkB, hpW, List.mem_cons, Prod.mk.injEq, exists_eq_left, exists_eq_right, exists_eq]
                    · simp (config := { maxSteps := 4000000 }) only [go_sem, simprocAttr, ↓dnA, Tryz.f135, encT, rows_length, boolRows_length, List.length_set, List.length_replicate, frW, wk2, wk1, wkL, wkB, hpW, List.mem_cons, Prod.mk.injEq, exists_eq_left, exists_eq_right, exists_eq]
    · have hi' : i = t.blocks.length := by omega
      subst hi'
      simp (config := { maxSteps := 4000000 }) only [go_sem, simprocAttr, ↓dnA, Tryz.f135, encT, rows_length, boolRows_length, List.length_set, List.length_replicate, nlf h, hl]

end Go.Proofs.YtmibclbinebnjaaGreat

/- Contracts: the blocks that are committed at once, as a list. -/
set_option linter.unusedSimpArgs false
set_option linter.unusedVariables false
set_option maxRecDepth 20000
set_option maxHeartbeats 4000000
namespace Go.Proofs.YtmibclbinebnjaaGreat
open Go Go.RowKit

theorem c_impl_CommitHeads (n1 n2 n3 n4 : Option Bool) (t : Tree) (cs : List Cert) (hx : TreeSz t) :
    Det Tryz.prog 61 [.agg (encT n1 n2 n3 t), .sl n4 (rows encC cs)] (.osl false 1 (rows encI (commitHeads t cs))) := by
  refine fspec_det tab_ok Tryz.call61 Tryz.func61 rfl 14 Tryz.ntmps61 (of_decide_eq_true rfl) fun B => codeK_sound tab_ok _ _ _ ?_
  unfold commitHeads
  simp (config := { maxSteps := 4000000 }) only [go_sem, simprocAttr, ↓dnA, Tryz.f61, encT, rows_length, boolRows_length, List.length_set, List.length_replicate]
  by_cases h : treeValid t = true ∧ cs.length ≤ 30
  · obtain ⟨e1, e2⟩ := certified_ne h.1 h.2
    have hl := certL_len t cs
    refine CallTo.det (c_impl_CertifiedBlocks_T n1 n2 n3 n4 t cs hx h.1 h.2) fun _ => ?_
    rw [if_neg e2, e1]
    generalize certL t cs = ce at hl
    simp (config := { maxSteps := 4000000 }) only [go_sem, simprocAttr, ↓dnA, Tryz.f61, encT, rows_length, boolRows_length, List.length_set, List.length_replicate]
    refine CallTo.det (c_impl_heads n1 n2 n3 _ t ce hx (treeOk_of h.1) hl) fun _ => ?_
    simp (config := { maxSteps := 4000000 }) only [go_sem, simprocAttr, ↓dnA, Tryz.f61, encT, rows_length, boolRows_length, List.length_set, List.length_replicate]
  · have e := certified_no h
    refine CallTo.det (c_impl_CertifiedBlocks_no n1 n2 n3 n4 t cs hx h) fun _ => ?_
    rw [if_pos e]
    simp (config := { maxSteps := 4000000 }) only [go_sem, simprocAttr, ↓dnA, Tryz.f61, encT, rows_length, boolRows_length, List.length_set, List.length_replicate, rows_nil]

theorem c_spec_CommitHeads (n1 n2 n3 n4 : Option Bool) (t : Tree) (cs : List Cert) (hx : TreeSz t) :
    Det Tryz.prog 60 [.agg (encT n1 n2 n3 t), .sl n4 (rows encC cs)] (.osl true 1 (rows encI (commitHeads t cs))) := by
  refine fspec_det tab_ok Tryz.call60 Tryz.func60 rfl 35 Tryz.ntmps60 (of_decide_eq_true rfl) fun B => codeK_sound tab_ok _ _ _ ?_
  unfold commitHeads
  simp (config := { maxSteps := 4000000 }) only [go_sem, simprocAttr, ↓dnA, Tryz.f60, encT, rows_length, boolRows_length, List.length_set, List.length_replicate]
  refine CallTo.det (c_spec_CertifiedBlocks n1 n2 n3 n4 t cs hx) fun _ => ?_
  by_cases h : treeValid t = true ∧ cs.length ≤ 30
  · obtain ⟨e1, e2⟩ := certified_ne h.1 h.2
    have hl := certL_len t cs
    have ht := treeOk_of h.1
    have hlen := ht.len
    rw [if_neg e2, e1]
    generalize certL t cs = ce at hl
    have hz : ((ce.length : Int) == 0) = false := by simp; intro e; rw [e] at hl; simp at hl; omega
    simp (config := { maxSteps := 4000000 }) only [go_sem, simprocAttr, ↓dnA, Tryz.f60, encT, rows_length, boolRows_length, List.length_set, List.length_replicate, hz]
    refine CallTo.det (c_spec_l16Commits n1 n2 n3 _ t ce hx ht hl) fun _ => ?_
    have hl2 := headsTo_len t ce t.blocks.length
    unfold headsL headsB
    generalize headsTo t ce t.blocks.length = l at hl2
    rw [← hl2]
    simp (config := { maxSteps := 4000000 }) only [go_sem, simprocAttr, ↓dnA, Tryz.f60, encT, rows_length, boolRows_length, List.length_set, List.length_replicate, hz]
    refine semL_for tab_ok (fun p : Nat × List Int => ⟨35, [(5, .row 601 p.2.length), (7, .row 600 l.length), (8, .int .i64 p.1)], [(600, .row true true 1 (boolRows l)), (601, .row true true 1 (rows encI p.2))]⟩) (fun p => l.length - p.1)
      (fun p => p.1 ≤ l.length ∧ p.2.length ≤ p.1 ∧ p.2 ++ fltF (fun k => l.getD k false) (l.length - p.1) p.1 = fltF (fun k => l.getD k false) l.length 0) (0, []) [(20000, 600), (9, 601)] (Weak.of (by rfl) ?_ ?_ (by rfl)) ⟨by omega, by simp, rfl⟩ ?_
    · simp (config := { maxSteps := 4000000 }) only [go_sem, simprocAttr, ↓dnA, Tryz.f60, encT, rows_length, boolRows_length, List.length_set, List.length_replicate, frW, wk2, wk1, wkL, wkB, hpW, List.mem_cons, Prod.mk.injEq, exists_eq_left, exists_eq_right, exists_eq]
      try rfl
    · simp (config := { maxSteps := 4000000 }) only [go_sem, simprocAttr, ↓dnA, Tryz.f60, encT, rows_length, boolRows_length, List.length_set, List.length_replicate, frW, wk2, wk1, wkL, wkB, hpW, List.mem_cons, Prod.mk.injEq, exists_eq_left, exists_eq_right, exists_eq]
    · rintro ⟨i, acc⟩ ⟨hi, hac, hp⟩
      dsimp only at hi hac hp
      have htk := take_rows encI acc acc.length rfl
      by_cases h : i < l.length
      · have hw : IntKind.i64.wrap ((i : Int) + 1) = ((i + 1 : Nat) : Int) := wsucc h (by omega)
        have hg := boolRows_get l i h
        rw [fltF_step _ _ _ h] at hp
        cases e : l.getD i false with
        | false =>
          rw [e, if_neg Bool.false_ne_true, List.nil_append] at hp
          simp (config := { maxSteps := 4000000 }) only [go_sem, simprocAttr, ↓dnA, Tryz.f60, encT, rows_length, boolRows_length, List.length_set, List.length_replicate, nlt h, h, nn0, hg, e, hw]
          refine ⟨(i + 1, acc), [(600, 600), (601, 601)], ⟨by dsimp only; omega, by dsimp only; omega, hp⟩, by dsimp only; omega, Weak.of (by rfl) ?_ ?_ (by rfl)⟩
          · simp (config := { maxSteps := 4000000 }) only [go_sem, simprocAttr, ↓dnA, Tryz.f60, encT, rows_length, boolRows_length, List.length_set, List.length_replicate, frW, wk2, wk1, wkL, wkB, hpW, List.mem_cons, Prod.mk.injEq, exists_eq_left, exists_eq_right, exists_eq]
          · simp (config := { maxSteps := 4000000 }) only [go_sem, simprocAttr, ↓dnA, Tryz.f60, encT, rows_length, boolRows_length, List.length_set, List.length_replicate, frW, wk2, wk1, wkL, wkB, hpW, List.mem_cons, Prod.mk.injEq, exists_eq_left, exists_eq_right, exists_eq]
        | true =>
          rw [e, if_pos rfl] at hp
          simp (config := { maxSteps := 4000000 }) only [go_sem, simprocAttr, ↓dnA, Tryz.f60, encT, rows_length, boolRows_length, List.length_set, List.length_replicate, nlt h, h, nn0, hg, e, htk, hw]
          repeat refine And.intro (by first | omega | (simp; done) | (simp; omega) | assumption) ?_
          refine ⟨(i + 1, acc ++ [(i : Int)]), [(600, 600), (33, 601)], ⟨by dsimp only; omega, by simp; omega, by rw [← hp]; simp⟩, by dsimp only; omega, Weak.of (by rfl) ?_ ?_ (by rfl)⟩
          · simp (config := { maxSteps := 4000000 }) only [go_sem, simprocAttr, ↓dnA, Tryz.f60, encT, rows_length, boolRows_length, List.length_set, List.length_replicate, frW, wk2, wk1, wkL, wkB, hpW, List.mem_cons, Prod.mk.injEq, exists_eq_left, exists_eq_right, exists_eq]
            exact (rows_snoc encI _ _).symm
          · simp (config := { maxSteps := 4000000 }) only [go_sem, simprocAttr, ↓dnA, Tryz.f60, encT, rows_length, boolRows_length, List.length_set, List.length_replicate, List.length_append, frW, wk2, wk1, wkL, wkB, hpW, List.mem_cons, Prod.mk.injEq, exists_eq_left, exists_eq_right, exists_eq]
      · have hi' : i = l.length := by omega
        subst hi'
        rw [Nat.sub_self, show fltF (fun k => l.getD k false) 0 l.length = [] from rfl, List.append_nil] at hp
        simp (config := { maxSteps := 4000000 }) only [go_sem, simprocAttr, ↓dnA, Tryz.f60, encT, rows_length, boolRows_length, List.length_set, List.length_replicate, nlf h, hp]
  · have e := certified_no h
    rw [if_pos e, e]
    simp (config := { maxSteps := 4000000 }) only [go_sem, simprocAttr, ↓dnA, Tryz.f60, encT, rows_length, boolRows_length, List.length_set, List.length_replicate, rows_nil, boolRows, List.map_nil, List.length_nil]

end Go.Proofs.YtmibclbinebnjaaGreat

/- Contracts: up to where everything is committed; whether commits agree. -/
set_option linter.unusedSimpArgs false
set_option linter.unusedVariables false
set_option maxRecDepth 20000
set_option maxHeartbeats 4000000
namespace Go.Proofs.YtmibclbinebnjaaGreat
open Go Go.RowKit

theorem isBefore_range {t : Tree} {a b : Int} (h : isBefore t a b = true) : treeValid t = true ∧ (0 ≤ a ∧ a < t.blocks.length) ∧ 0 ≤ b ∧ b < t.blocks.length := by
  unfold isBefore at h
  rw [List.any_eq_true] at h
  obtain ⟨x, hx, he⟩ := h
  rw [beq_iff_eq] at he
  subst he
  unfold pathTo at hx
  split at hx
  · rename_i h1
    obtain ⟨h1, h2, h3⟩ := h1
    have := pathL_bd (treeOk_of h1) h3 _ hx
    exact ⟨h1, by omega, h2, h3⟩
  · cases hx
theorem isBefore_no {t : Tree} {a b : Int} (h : ¬ (treeValid t = true ∧ (0 ≤ a ∧ a < t.blocks.length) ∧ 0 ≤ b ∧ b < t.blocks.length)) : isBefore t a b = false := by
  cases e : isBefore t a b with
  | false => rfl
  | true => exact absurd (isBefore_range e) h

theorem c_impl_IsBefore (n1 n2 n3 : Option Bool) (t : Tree) (a b : Int) (hx : TreeSz t) :
    Det Tryz.prog 134 [.agg (encT n1 n2 n3 t), .int .i64 a, .int .i64 b] (.bool (isBefore t a b)) := by
  refine fspec_det tab_ok Tryz.call134 Tryz.func134 rfl 26 Tryz.ntmps134 (of_decide_eq_true rfl) fun B => codeK_sound tab_ok _ _ _ ?_
  have hb := hx.blocks
  simp (config := { maxSteps := 4000000 }) only [go_sem, simprocAttr, ↓dnA, Tryz.f134, encT, rows_length, boolRows_length]
  refine CallTo.det (c_impl_BlockTreeValid n1 n2 n3 t hx) fun _ => ?_
  cases h0 : treeValid t with
  | false =>
    have hr : isBefore t a b = false := isBefore_no fun e => by rw [h0] at e; cases e.1
    simp (config := { maxSteps := 4000000 }) only [go_sem, simprocAttr, ↓dnA, Tryz.f134, encT, rows_length, boolRows_length, h0, hr]
  | true =>
    have ht := treeOk_of h0
    simp (config := { maxSteps := 4000000 }) only [go_sem, simprocAttr, ↓dnA, Tryz.f134, encT, rows_length, boolRows_length, h0]
    refine CallTo.det (c_impl_has n1 n2 n3 t a hx) fun _ => ?_
    cases h1 : inB a 0 ((t.blocks.length : Int) - 1) with
    | false =>
      have hr : isBefore t a b = false := isBefore_no fun e => by
        have : inB a 0 ((t.blocks.length : Int) - 1) = true := inB_iff.2 (by omega)
        rw [h1] at this; cases this
      simp (config := { maxSteps := 4000000 }) only [go_sem, simprocAttr, ↓dnA, Tryz.f134, encT, rows_length, boolRows_length, h0, h1, hr]
    | true =>
      simp (config := { maxSteps := 4000000 }) only [go_sem, simprocAttr, ↓dnA, Tryz.f134, encT, rows_length, boolRows_length, h0, h1]
      refine CallTo.det (c_impl_has n1 n2 n3 t b hx) fun _ => ?_
      cases h2 : inB b 0 ((t.blocks.length : Int) - 1) with
      | false =>
        have hr : isBefore t a b = false := isBefore_no fun e => by
          have : inB b 0 ((t.blocks.length : Int) - 1) = true := inB_iff.2 (by omega)
          rw [h2] at this; cases this
        simp (config := { maxSteps := 4000000 }) only [go_sem, simprocAttr, ↓dnA, Tryz.f134, encT, rows_length, boolRows_length, h0, h1, h2, hr]
      | true =>
        have h2' := inB_iff.1 h2
        have hr : isBefore t a b = (pathL t b).any fun x => a == x := by unfold isBefore; rw [pathTo_in h0 (by omega) (by omega)]
        have hpl := pathL_len ht (n := b) (by omega)
        rw [hr]
        simp (config := { maxSteps := 4000000 }) only [go_sem, simprocAttr, ↓dnA, Tryz.f134, encT, rows_length, boolRows_length, h0, h1, h2]
        refine CallTo.det (c_impl_path n1 n2 n3 t b ht hx (by omega)) fun _ => ?_
        simp (config := { maxSteps := 4000000 }) only [go_sem, simprocAttr, ↓dnA, Tryz.f134, encT, rows_length, boolRows_length, h0, h1, h2]
        refine CallTo.det (c_slices_Contains_int _ (pathL t b) a (by omega)) fun _ => ?_
        simp (config := { maxSteps := 4000000 }) only [go_sem, simprocAttr, ↓dnA, Tryz.f134, encT, rows_length, boolRows_length, h0, h1, h2]

theorem committedTo_yes {t : Tree} {cs : List Cert} (h : treeValid t = true ∧ cs.length ≤ 30) : committedTo t cs = bestF t (headsL t (certL t cs)) 0 := by
  obtain ⟨e1, e2⟩ := certified_ne h.1 h.2
  unfold committedTo; rw [if_neg e2, e1]
theorem committedTo_no {t : Tree} {cs : List Cert} (h : ¬ (treeValid t = true ∧ cs.length ≤ 30)) : committedTo t cs = -1 := by
  unfold committedTo; rw [if_pos (certified_no h)]
theorem commitHeads_yes {t : Tree} {cs : List Cert} (h : treeValid t = true ∧ cs.length ≤ 30) : commitHeads t cs = headsL t (certL t cs) := by
  obtain ⟨e1, e2⟩ := certified_ne h.1 h.2
  unfold commitHeads; rw [if_neg e2, e1]
theorem commitsAgree_yes {t : Tree} {cs : List Cert} (h : treeValid t = true ∧ cs.length ≤ 30) : commitsAgree t cs = agreeAllB t (headsL t (certL t cs)) := by
  obtain ⟨e1, e2⟩ := certified_ne h.1 h.2
  unfold commitsAgree; rw [if_neg e2, e1]
theorem commitsAgree_no {t : Tree} {cs : List Cert} (h : ¬ (treeValid t = true ∧ cs.length ≤ 30)) : commitsAgree t cs = false := by
  unfold commitsAgree; rw [if_pos (certified_no h)]

/-- The step of the program's search: the first block is taken at once. -/
theorem best_step {t : Tree} (ht : TreeOk t) {xs : List Int} (hbd : ∀ x, x ∈ xs → 0 ≤ x ∧ x < t.blocks.length) {i : Nat} (h : i < xs.length) {b : Nat} (hb : b < t.blocks.length) (hi0 : i = 0 → b = 0) :
    ∃ k : Nat, xs[i] = (k : Int) ∧ k < t.blocks.length ∧
      ((i = 0 ∧ bestF t (xs.drop i) b = bestF t (xs.drop (i + 1)) k) ∨
       (i ≠ 0 ∧ (t.blk k).view > (t.blk b).view ∧ bestF t (xs.drop i) b = bestF t (xs.drop (i + 1)) k) ∨
       (i ≠ 0 ∧ ¬ (t.blk k).view > (t.blk b).view ∧ bestF t (xs.drop i) b = bestF t (xs.drop (i + 1)) b)) := by
  have hx := hbd _ (List.getElem_mem h)
  obtain ⟨k, hk⟩ : ∃ k : Nat, xs[i] = (k : Int) := ⟨xs[i].toNat, by omega⟩
  have hkl : k < t.blocks.length := by omega
  have he : bestF t (xs.drop i) b = bestF t (xs.drop (i + 1)) (if (t.blk k).view > (t.blk b).view then (k : Int) else b) := by
    rw [drop_cons xs i h, hk]
    rfl
  refine ⟨k, hk, hkl, ?_⟩
  by_cases h0 : i = 0
  · refine .inl ⟨h0, ?_⟩
    have hb0 := hi0 h0
    subst hb0
    by_cases hk0 : k = 0
    · subst hk0
      rw [he]; split <;> rfl
    · have := view0_lt ht (k + 1) k (by omega) (by omega) hkl
      rw [he, if_pos this]
  · by_cases hv : (t.blk k).view > (t.blk b).view
    · exact .inr (.inl ⟨h0, hv, by rw [he, if_pos hv]⟩)
    · exact .inr (.inr ⟨h0, hv, by rw [he, if_neg hv]⟩)
theorem best_step' {t : Tree} {xs : List Int} (hbd : ∀ x, x ∈ xs → 0 ≤ x ∧ x < t.blocks.length) {i : Nat} (h : i < xs.length) {b : Nat} :
    ∃ k : Nat, xs[i] = (k : Int) ∧ k < t.blocks.length ∧
      (((t.blk k).view > (t.blk b).view ∧ bestF t (xs.drop i) b = bestF t (xs.drop (i + 1)) k) ∨
       (¬ (t.blk k).view > (t.blk b).view ∧ bestF t (xs.drop i) b = bestF t (xs.drop (i + 1)) b)) := by
  have hx := hbd _ (List.getElem_mem h)
  obtain ⟨k, hk⟩ : ∃ k : Nat, xs[i] = (k : Int) := ⟨xs[i].toNat, by omega⟩
  have he : bestF t (xs.drop i) b = bestF t (xs.drop (i + 1)) (if (t.blk k).view > (t.blk b).view then (k : Int) else b) := by
    rw [drop_cons xs i h, hk]
    rfl
  refine ⟨k, hk, by omega, ?_⟩
  by_cases hv : (t.blk k).view > (t.blk b).view
  · exact .inl ⟨hv, by rw [he, if_pos hv]⟩
  · exact .inr ⟨hv, by rw [he, if_neg hv]⟩

theorem c_impl_CommittedTo (n1 n2 n3 n4 : Option Bool) (t : Tree) (cs : List Cert) (hx : TreeSz t) :
    Det Tryz.prog 37 [.agg (encT n1 n2 n3 t), .sl n4 (rows encC cs)] (.int .i64 (committedTo t cs)) := by
  refine fspec_det tab_ok Tryz.call37 Tryz.func37 rfl 43 Tryz.ntmps37 (of_decide_eq_true rfl) fun B => codeK_sound tab_ok _ _ _ ?_
  simp (config := { maxSteps := 4000000 }) only [go_sem, simprocAttr, ↓dnA, Tryz.f37, encT, rows_length, boolRows_length]
  by_cases hok : treeValid t = true ∧ cs.length ≤ 30
  · have hl := certL_len t cs
    have ht := treeOk_of hok.1
    have hlen := ht.len
    refine CallTo.det (c_impl_CertifiedBlocks_T n1 n2 n3 n4 t cs hx hok.1 hok.2) fun _ => ?_
    rw [committedTo_yes hok]
    generalize certL t cs = ce at hl
    simp (config := { maxSteps := 4000000 }) only [go_sem, simprocAttr, ↓dnA, Tryz.f37, encT, rows_length, boolRows_length]
    refine CallTo.det (c_impl_heads n1 n2 n3 _ t ce hx ht hl) fun _ => ?_
    have hbd := headsL_bd t ce
    have hhl := headsL_len t ce
    generalize headsL t ce = xs at hbd hhl
    simp (config := { maxSteps := 4000000 }) only [go_sem, simprocAttr, ↓dnA, Tryz.f37, encT, rows_length, boolRows_length]
    refine semL_for tab_ok (fun p : Nat × Nat => ⟨43, [(2, .loc 2 0), (6, .int .i64 p.2), (16, .row 600 xs.length), (17, .int .i64 xs.length), (18, .int .i64 p.1)],
        [(2, .var (encT n1 n2 n3 t)), (600, .row true false 1 (rows encI xs))]⟩) (fun p => xs.length - p.1)
      (fun p => p.1 ≤ xs.length ∧ p.2 < t.blocks.length ∧ (p.1 = 0 → p.2 = 0) ∧ bestF t (xs.drop p.1) p.2 = bestF t xs 0) (0, 0) [(2, 2), (17000, 600)] (Weak.of (by rfl) ?_ ?_ (by rfl)) ⟨by omega, by omega, fun _ => rfl, rfl⟩ ?_
    · simp (config := { maxSteps := 4000000 }) only [go_sem, simprocAttr, ↓dnA, Tryz.f37, encT, rows_length, boolRows_length, frW, wk2, wk1, wkL, wkB, hpW, List.mem_cons, Prod.mk.injEq, exists_eq_left, exists_eq_right, exists_eq]
    · simp (config := { maxSteps := 4000000 }) only [go_sem, simprocAttr, ↓dnA, Tryz.f37, encT, rows_length, boolRows_length, nc0, frW, wk2, wk1, wkL, wkB, hpW, List.mem_cons, Prod.mk.injEq, exists_eq_left, exists_eq_right, exists_eq]
    · rintro ⟨i, b⟩ ⟨hi, hb, hi0, hp⟩
      dsimp only at hi hb hi0 hp
      by_cases h : i < xs.length
      · have hw : IntKind.i64.wrap ((i : Int) + 1) = ((i + 1 : Nat) : Int) := wsucc h (by omega)
        obtain ⟨k, hk, hkl, hcase⟩ := best_step ht hbd h hb hi0
        have g1 := rows_gd encB1 t.blocks k hkl
        have g2 := rows_gd encB1 t.blocks b hb
        simp (config := { maxSteps := 4000000 }) only [go_sem, simprocAttr, ↓dnA, Tryz.f37, encT, rows_length, boolRows_length, nlt h, h, nn0, rows_get _ _ _ h, encI, hk]
        refine semL_draw tab_ok mixed_ rfl (ord := [(0, []), (1, []), (2, []), (3, []), (4, []), (5, []), (6, []), (7, []), (8, []), (9, []), (10, []), (11, []), (12, []), (13, []), (14, []), (15, []), (16, [])]) (by dsimp only; decide +kernel) ?_
        rcases hcase with ⟨h0, he⟩ | ⟨h0, hv, he⟩ | ⟨h0, hv, he⟩
        · have hz : ((i : Int) == 0) = true := by simp; omega
          simp (config := { maxSteps := 4000000 }) only [go_sem, simprocAttr, ↓dnA, Tryz.f37, encT, rows_length, boolRows_length, nlt h, h, nn0, rows_get _ _ _ h, encI, hk, hz, hw]
          refine ⟨(i + 1, k), [(2, 2), (600, 600)], ⟨by dsimp only; omega, hkl, by dsimp only; omega, by rw [← hp, he]⟩, by dsimp only; omega, Weak.of (by rfl) ?_ ?_ (by rfl)⟩
          · simp (config := { maxSteps := 4000000 }) only [go_sem, simprocAttr, ↓dnA, Tryz.f37, encT, rows_length, boolRows_length, frW, wk2, wk1, wkL, wkB, hpW, List.mem_cons, Prod.mk.injEq, exists_eq_left, exists_eq_right, exists_eq]
          · simp (config := { maxSteps := 4000000 }) only [go_sem, simprocAttr, ↓dnA, Tryz.f37, encT, rows_length, boolRows_length, frW, wk2, wk1, wkL, wkB, hpW, List.mem_cons, Prod.mk.injEq, exists_eq_left, exists_eq_right, exists_eq]
        · have hz : ((i : Int) == 0) = false := by simp; omega
          have hv' := decide_eq_true hv
          unfold Tree.blk at hv'
          simp (config := { maxSteps := 4000000 }) only [go_sem, simprocAttr, ↓dnA, Tryz.f37, encT, rows_length, boolRows_length, nlt h, h, nn0, rows_get _ _ _ h, encI, hk, hz, nlt hkl, nlt hb, hkl, hb, g1, g2, encB1, encBk, hv', hw]
          refine ⟨(i + 1, k), [(2, 2), (600, 600)], ⟨by dsimp only; omega, hkl, by dsimp only; omega, by rw [← hp, he]⟩, by dsimp only; omega, Weak.of (by rfl) ?_ ?_ (by rfl)⟩
          · simp (config := { maxSteps := 4000000 }) only [go_sem, simprocAttr, ↓dnA, Tryz.f37, encT, rows_length, boolRows_length, frW, wk2, wk1, wkL, wkB, hpW, List.mem_cons, Prod.mk.injEq, exists_eq_left, exists_eq_right, exists_eq]
          · simp (config := { maxSteps := 4000000 }) only [go_sem, simprocAttr, ↓dnA, Tryz.f37, encT, rows_length, boolRows_length, frW, wk2, wk1, wkL, wkB, hpW, List.mem_cons, Prod.mk.injEq, exists_eq_left, exists_eq_right, exists_eq]
        · have hz : ((i : Int) == 0) = false := by simp; omega
          have hv' := decide_eq_false hv
          unfold Tree.blk at hv'
          simp (config := { maxSteps := 4000000 }) only [go_sem, simprocAttr, ↓dnA, Tryz.f37, encT, rows_length, boolRows_length, nlt h, h, nn0, rows_get _ _ _ h, encI, hk, hz, nlt hkl, nlt hb, hkl, hb, g1, g2, encB1, encBk, hv', hw]
          refine ⟨(i + 1, b), [(2, 2), (600, 600)], ⟨by dsimp only; omega, hb, by dsimp only; omega, by rw [← hp, he]⟩, by dsimp only; omega, Weak.of (by rfl) ?_ ?_ (by rfl)⟩
          · simp (config := { maxSteps := 4000000 }) only [go_sem, simprocAttr, ↓dnA, Tryz.f37, encT, rows_length, boolRows_length, frW, wk2, wk1, wkL, wkB, hpW, List.mem_cons, Prod.mk.injEq, exists_eq_left, exists_eq_right, exists_eq]
          · simp (config := { maxSteps := 4000000 }) only [go_sem, simprocAttr, ↓dnA, Tryz.f37, encT, rows_length, boolRows_length, frW, wk2, wk1, wkL, wkB, hpW, List.mem_cons, Prod.mk.injEq, exists_eq_left, exists_eq_right, exists_eq]
      · have hi' : i = xs.length := by omega
        subst hi'
        rw [List.drop_length] at hp
        have hp' : bestF t xs 0 = (b : Int) := hp.symm
        simp (config := { maxSteps := 4000000 }) only [go_sem, simprocAttr, ↓dnA, Tryz.f37, encT, rows_length, boolRows_length, nlf h, hp']
  · refine CallTo.det (c_impl_CertifiedBlocks_no n1 n2 n3 n4 t cs hx hok) fun _ => ?_
    simp (config := { maxSteps := 4000000 }) only [go_sem, simprocAttr, ↓dnA, Tryz.f37, encT, rows_length, boolRows_length, committedTo_no hok]

theorem c_spec_CommittedTo (n1 n2 n3 n4 : Option Bool) (t : Tree) (cs : List Cert) (hx : TreeSz t) :
    Det Tryz.prog 34 [.agg (encT n1 n2 n3 t), .sl n4 (rows encC cs)] (.int .i64 (committedTo t cs)) := by
  refine fspec_det tab_ok Tryz.call34 Tryz.func34 rfl 43 Tryz.ntmps34 (of_decide_eq_true rfl) fun B => codeK_sound tab_ok _ _ _ ?_
  simp (config := { maxSteps := 4000000 }) only [go_sem, simprocAttr, ↓dnA, Tryz.f34, encT, rows_length, boolRows_length]
  refine CallTo.det (c_spec_CertifiedBlocks n1 n2 n3 n4 t cs hx) fun _ => ?_
  by_cases hok : treeValid t = true ∧ cs.length ≤ 30
  · have hl := certL_len t cs
    have ht := treeOk_of hok.1
    have hlen := ht.len
    rw [committedTo_yes hok, certified_yes hok.1 hok.2]
    have hz : (((certL t cs).length : Int) == 0) = false := by rw [hl]; exact beq_false_of_ne (by omega)
    simp (config := { maxSteps := 4000000 }) only [go_sem, simprocAttr, ↓dnA, Tryz.f34, encT, rows_length, boolRows_length, hz]
    refine CallTo.det (c_spec_CommitHeads n1 n2 n3 n4 t cs hx) fun _ => ?_
    rw [commitHeads_yes hok]
    have hbd := headsL_bd t (certL t cs)
    have hhl := headsL_len t (certL t cs)
    generalize headsL t (certL t cs) = xs at hbd hhl
    simp (config := { maxSteps := 4000000 }) only [go_sem, simprocAttr, ↓dnA, Tryz.f34, encT, rows_length, boolRows_length, hz]
    refine semL_for tab_ok (fun p : Nat × Nat => ⟨43, [(2, .loc 2 0), (5, .int .i64 p.2), (6, .row 600 xs.length), (7, .int .i64 p.1)],
        [(2, .var (encT n1 n2 n3 t)), (600, .row true true 1 (rows encI xs))]⟩) (fun p => xs.length - p.1)
      (fun p => p.1 ≤ xs.length ∧ p.2 < t.blocks.length ∧ bestF t (xs.drop p.1) p.2 = bestF t xs 0) (0, 0) [(2, 2), (16000, 600)] (Weak.of (by rfl) ?_ ?_ (by rfl)) ⟨by omega, by omega, rfl⟩ ?_
    · simp (config := { maxSteps := 4000000 }) only [go_sem, simprocAttr, ↓dnA, Tryz.f34, encT, rows_length, boolRows_length, frW, wk2, wk1, wkL, wkB, hpW, List.mem_cons, Prod.mk.injEq, exists_eq_left, exists_eq_right, exists_eq]
    · simp (config := { maxSteps := 4000000 }) only [go_sem, simprocAttr, ↓dnA, Tryz.f34, encT, rows_length, boolRows_length, nc0, frW, wk2, wk1, wkL, wkB, hpW, List.mem_cons, Prod.mk.injEq, exists_eq_left, exists_eq_right, exists_eq]
    · rintro ⟨i, b⟩ ⟨hi, hb, hp⟩
      dsimp only at hi hb hp
      by_cases h : i < xs.length
      · have hw : IntKind.i64.wrap ((i : Int) + 1) = ((i + 1 : Nat) : Int) := wsucc h (by omega)
        obtain ⟨k, hk, hkl, hcase⟩ := best_step' hbd h (b := b)
        have g1 := rows_gd encB1 t.blocks k hkl
        have g2 := rows_gd encB1 t.blocks b hb
        simp (config := { maxSteps := 4000000 }) only [go_sem, simprocAttr, ↓dnA, Tryz.f34, encT, rows_length, boolRows_length, nlt h, h, nn0, rows_get _ _ _ h, encI, hk]
        refine semL_draw tab_ok mixed_ rfl (ord := [(0, []), (1, []), (2, []), (3, []), (4, []), (5, []), (6, []), (7, []), (8, []), (9, []), (10, []), (11, []), (12, []), (13, []), (14, []), (15, [])]) (by dsimp only; decide +kernel) ?_
        rcases hcase with ⟨hv, he⟩ | ⟨hv, he⟩
        · have hv' := decide_eq_true hv
          unfold Tree.blk at hv'
          simp (config := { maxSteps := 4000000 }) only [go_sem, simprocAttr, ↓dnA, Tryz.f34, encT, rows_length, boolRows_length, nlt h, h, nn0, rows_get _ _ _ h, encI, hk, nlt hkl, nlt hb, hkl, hb, g1, g2, encB1, encBk, hv', hw]
          refine ⟨(i + 1, k), [(2, 2), (600, 600)], ⟨by dsimp only; omega, hkl, by rw [← hp, he]⟩, by dsimp only; omega, Weak.of (by rfl) ?_ ?_ (by rfl)⟩
          · simp (config := { maxSteps := 4000000 }) only [go_sem, simprocAttr, ↓dnA, Tryz.f34, encT, rows_length, boolRows_length, frW, wk2, wk1, wkL, wkB, hpW, List.mem_cons, Prod.mk.injEq, exists_eq_left, exists_eq_right, exists_eq]
          · simp (config := { maxSteps := 4000000 }) only [go_sem, simprocAttr, ↓dnA, Tryz.f34, encT, rows_length, boolRows_length, frW, wk2, wk1, wkL, wkB, hpW, List.mem_cons, Prod.mk.injEq, exists_eq_left, exists_eq_right, exists_eq]
        · have hv' := decide_eq_false hv
          unfold Tree.blk at hv'
          simp (config := { maxSteps := 4000000 }) only [go_sem, simprocAttr, ↓dnA, Tryz.f34, encT, rows_length, boolRows_length, nlt h, h, nn0, rows_get _ _ _ h, encI, hk, nlt hkl, nlt hb, hkl, hb, g1, g2, encB1, encBk, hv', hw]
          refine ⟨(i + 1, b), [(2, 2), (600, 600)], ⟨by dsimp only; omega, hb, by rw [← hp, he]⟩, by dsimp only; omega, Weak.of (by rfl) ?_ ?_ (by rfl)⟩
          · simp (config := { maxSteps := 4000000 }) only [go_sem, simprocAttr, ↓dnA, Tryz.f34, encT, rows_length, boolRows_length, frW, wk2, wk1, wkL, wkB, hpW, List.mem_cons, Prod.mk.injEq, exists_eq_left, exists_eq_right, exists_eq]
          · simp (config := { maxSteps := 4000000 }) only [go_sem, simprocAttr, ↓dnA, Tryz.f34, encT, rows_length, boolRows_length, frW, wk2, wk1, wkL, wkB, hpW, List.mem_cons, Prod.mk.injEq, exists_eq_left, exists_eq_right, exists_eq]
      · have hi' : i = xs.length := by omega
        subst hi'
        rw [List.drop_length] at hp
        have hp' : bestF t xs 0 = (b : Int) := hp.symm
        simp (config := { maxSteps := 4000000 }) only [go_sem, simprocAttr, ↓dnA, Tryz.f34, encT, rows_length, boolRows_length, nlf h, hp']
  · rw [certified_no hok]
    simp (config := { maxSteps := 4000000 }) only [go_sem, simprocAttr, ↓dnA, Tryz.f34, encT, rows_length, boolRows_length, committedTo_no hok, List.length_nil]

/-- The first i numbers of a list agree with each other. -/
def AgreeTo (t : Tree) (xs : List Int) (i : Nat) : Prop := ∀ a b, b < a → a < i → agreeB t (xs.getD a 0) (xs.getD b 0) = true
theorem agreeTo_next {t : Tree} {xs : List Int} {i : Nat} (h : AgreeTo t xs i) (h2 : ∀ b, b < i → agreeB t (xs.getD i 0) (xs.getD b 0) = true) : AgreeTo t xs (i + 1) := by
  intro a b hb ha
  by_cases e : a = i
  · subst e; exact h2 b hb
  · exact h a b hb (by omega)

theorem c_impl_CommitsAgree (n1 n2 n3 n4 : Option Bool) (t : Tree) (cs : List Cert) (hx : TreeSz t) :
    Det Tryz.prog 59 [.agg (encT n1 n2 n3 t), .sl n4 (rows encC cs)] (.bool (commitsAgree t cs)) := by
  refine fspec_det tab_ok Tryz.call59 Tryz.func59 rfl 48 Tryz.ntmps59 (of_decide_eq_true rfl) fun B => codeK_sound tab_ok _ _ _ ?_
  simp (config := { maxSteps := 4000000 }) only [go_sem, simprocAttr, ↓dnA, Tryz.f59, encT, rows_length, boolRows_length]
  by_cases hok : treeValid t = true ∧ cs.length ≤ 30
  · have hl := certL_len t cs
    have ht := treeOk_of hok.1
    have hlen := ht.len
    refine CallTo.det (c_impl_CertifiedBlocks_T n1 n2 n3 n4 t cs hx hok.1 hok.2) fun _ => ?_
    rw [commitsAgree_yes hok]
    generalize certL t cs = ce at hl
    simp (config := { maxSteps := 4000000 }) only [go_sem, simprocAttr, ↓dnA, Tryz.f59, encT, rows_length, boolRows_length]
    refine CallTo.det (c_impl_heads n1 n2 n3 _ t ce hx ht hl) fun _ => ?_
    have hhl := headsL_len t ce
    generalize headsL t ce = xs at hhl
    simp (config := { maxSteps := 4000000 }) only [go_sem, simprocAttr, ↓dnA, Tryz.f59, encT, rows_length, boolRows_length]
    refine semL_ghost ((Ghost.weak (t := ⟨48, [(2, .loc 2 0), (6, .row 19000 xs.length), (19, .row 19000 xs.length), (20, .int .i64 xs.length), (21, .int .i64 0)],
        [(2, .var (encT n1 n2 n3 t)), (19000, .fro 1 (rows encI xs))]⟩) (ρ := [(2, 2), (19000, 19000)]) (Weak.of (by rfl) ?_ ?_ (by rfl))).trans ((Ghost.pure 6 19000 xs.length 1 rfl rfl ?_).trans (Ghost.pure 19 19000 xs.length 1 rfl rfl ?_))) ?_
    · simp (config := { maxSteps := 4000000 }) only [go_sem, simprocAttr, ↓dnA, Tryz.f59, encT, rows_length, boolRows_length, frW, wk2, wk1, wkL, wkB, hpW, List.mem_cons, Prod.mk.injEq, exists_eq_left, exists_eq_right, exists_eq]
    · simp (config := { maxSteps := 4000000 }) only [go_sem, simprocAttr, ↓dnA, Tryz.f59, encT, rows_length, boolRows_length, frW, wk2, wk1, wkL, wkB, hpW, List.mem_cons, Prod.mk.injEq, exists_eq_left, exists_eq_right, exists_eq]
    · rw [rows_length]
    · rw [rows_length]
    refine semL_for tab_ok (fun i : Nat => ⟨48, [(2, .loc 2 0), (6, .sl none (rows encI xs)), (19, .sl none (rows encI xs)), (20, .int .i64 xs.length), (21, .int .i64 i)],
        [(2, .var (encT n1 n2 n3 t))]⟩) (fun i => xs.length - i)
      (fun i => i ≤ xs.length ∧ AgreeTo t xs i) 0 [(2, 2)] (Weak.of (by rfl) ?_ ?_ (by rfl)) ⟨by omega, fun a b _ h => by omega⟩ ?_
    · simp (config := { maxSteps := 4000000 }) only [go_sem, simprocAttr, ↓dnA, Tryz.f59, encT, rows_length, boolRows_length, frW, wk2, wk1, wkL, wkB, hpW, List.mem_cons, Prod.mk.injEq, exists_eq_left, exists_eq_right, exists_eq]
    · simp (config := { maxSteps := 4000000 }) only [go_sem, simprocAttr, ↓dnA, Tryz.f59, encT, rows_length, boolRows_length, nc0, frW, wk2, wk1, wkL, wkB, hpW, List.mem_cons, Prod.mk.injEq, exists_eq_left, exists_eq_right, exists_eq]
    · rintro i ⟨hi, hag⟩
      by_cases h : i < xs.length
      · have hw : IntKind.i64.wrap ((i : Int) + 1) = ((i + 1 : Nat) : Int) := wsucc h (by omega)
        have hgi : xs.getD i 0 = xs[i] := by rw [List.getD_eq_getElem?_getD, List.getElem?_eq_getElem h]; rfl
        have hle : ((i : Int) ≤ (xs.length : Int)) = True := by simp; omega
        simp (config := { maxSteps := 4000000 }) only [go_sem, simprocAttr, ↓dnA, Tryz.f59, encT, rows_length, boolRows_length, nlt h, h, nn0, rows_get _ _ _ h, encI, hle, rows_take]
        repeat refine And.intro (by first | omega | (simp; done) | (simp; omega) | assumption) ?_
        refine semL_for tab_ok (fun j : Nat => ⟨48, [(2, .loc 2 0), (6, .sl none (rows encI xs)), (8, .int .i64 xs[i]), (19, .sl none (rows encI xs)), (20, .int .i64 xs.length), (21, .int .i64 i), (28, .sl none (rows encI (xs.take i))), (29, .int .i64 i), (30, .int .i64 j)],
            [(2, .var (encT n1 n2 n3 t))]⟩) (fun j => i - j)
          (fun j => j ≤ i ∧ ∀ b, b < j → agreeB t (xs.getD i 0) (xs.getD b 0) = true) 0 [(2, 2)] (Weak.of (by rfl) ?_ ?_ (by rfl)) ⟨by omega, fun b h => by omega⟩ ?_
        · simp (config := { maxSteps := 4000000 }) only [go_sem, simprocAttr, ↓dnA, Tryz.f59, encT, rows_length, boolRows_length, frW, wk2, wk1, wkL, wkB, hpW, List.mem_cons, Prod.mk.injEq, exists_eq_left, exists_eq_right, exists_eq]
        · simp (config := { maxSteps := 4000000 }) only [go_sem, simprocAttr, ↓dnA, Tryz.f59, encT, rows_length, boolRows_length, nc0, List.length_take, show min i xs.length = i by omega, frW, wk2, wk1, wkL, wkB, hpW, List.mem_cons, Prod.mk.injEq, exists_eq_left, exists_eq_right, exists_eq]
        · rintro j ⟨hj, hagj⟩
          by_cases h2 : j < i
          · have hw2 : IntKind.i64.wrap ((j : Int) + 1) = ((j + 1 : Nat) : Int) := wsucc h2 (by omega)
            have hjx : j < xs.length := by omega
            have hjt : j < (xs.take i).length := by rw [List.length_take]; omega
            have hgt : (xs.take i)[j] = xs[j] := by simp
            have hgj : xs.getD j 0 = xs[j] := by rw [List.getD_eq_getElem?_getD, List.getElem?_eq_getElem hjx]; rfl
            have hml : min i xs.length = i := by omega
            simp (config := { maxSteps := 4000000 }) only [go_sem, simprocAttr, ↓dnA, Tryz.f59, encT, rows_length, boolRows_length, nlt h2, h2, nn0, rows_get _ _ _ hjt, encI, hgt, List.length_take, hml]
            refine CallTo.det (c_impl_IsBefore n1 n2 n3 t xs[i] xs[j] hx) fun _ => ?_
            have next : agreeB t xs[i] xs[j] = true → ∀ b, b < j + 1 → agreeB t (xs.getD i 0) (xs.getD b 0) = true := fun e b hb => by
              by_cases hbj : b = j
              · subst hbj; rw [hgi, hgj]; exact e
              · exact hagj b (by omega)
            cases e1 : isBefore t xs[i] xs[j] with
            | true =>
              have hn := next (by unfold agreeB; rw [e1]; rfl)
              simp (config := { maxSteps := 4000000 }) only [go_sem, simprocAttr, ↓dnA, Tryz.f59, encT, rows_length, boolRows_length, nlt h2, h2, nn0, rows_get _ _ _ hjt, encI, hgt, List.length_take, hml, e1, hw2]
              refine ⟨j + 1, [(2, 2)], ⟨by omega, hn⟩, by dsimp only; omega, Weak.of (by rfl) ?_ ?_ (by rfl)⟩
              · simp (config := { maxSteps := 4000000 }) only [go_sem, simprocAttr, ↓dnA, Tryz.f59, encT, rows_length, boolRows_length, frW, wk2, wk1, wkL, wkB, hpW, List.mem_cons, Prod.mk.injEq, exists_eq_left, exists_eq_right, exists_eq]
              · simp (config := { maxSteps := 4000000 }) only [go_sem, simprocAttr, ↓dnA, Tryz.f59, encT, rows_length, boolRows_length, frW, wk2, wk1, wkL, wkB, hpW, List.mem_cons, Prod.mk.injEq, exists_eq_left, exists_eq_right, exists_eq]
            | false =>
              simp (config := { maxSteps := 4000000 }) only [go_sem, simprocAttr, ↓dnA, Tryz.f59, encT, rows_length, boolRows_length, nlt h2, h2, nn0, rows_get _ _ _ hjt, encI, hgt, List.length_take, hml, e1]
              refine CallTo.det (c_impl_IsBefore n1 n2 n3 t xs[j] xs[i] hx) fun _ => ?_
              cases e2 : isBefore t xs[j] xs[i] with
              | true =>
                have hn := next (by unfold agreeB; rw [e1, e2]; rfl)
                simp (config := { maxSteps := 4000000 }) only [go_sem, simprocAttr, ↓dnA, Tryz.f59, encT, rows_length, boolRows_length, nlt h2, h2, nn0, rows_get _ _ _ hjt, encI, hgt, List.length_take, hml, e1, e2, hw2]
                refine ⟨j + 1, [(2, 2)], ⟨by omega, hn⟩, by dsimp only; omega, Weak.of (by rfl) ?_ ?_ (by rfl)⟩
                · simp (config := { maxSteps := 4000000 }) only [go_sem, simprocAttr, ↓dnA, Tryz.f59, encT, rows_length, boolRows_length, frW, wk2, wk1, wkL, wkB, hpW, List.mem_cons, Prod.mk.injEq, exists_eq_left, exists_eq_right, exists_eq]
                · simp (config := { maxSteps := 4000000 }) only [go_sem, simprocAttr, ↓dnA, Tryz.f59, encT, rows_length, boolRows_length, frW, wk2, wk1, wkL, wkB, hpW, List.mem_cons, Prod.mk.injEq, exists_eq_left, exists_eq_right, exists_eq]
              | false =>
                have hno : ¬ AgreeAll t xs := fun hA => by
                  have := hA i j h2 h
                  rw [hgi, hgj] at this
                  unfold agreeB at this
                  rw [e1, e2] at this
                  cases this
                have hfin := agreeAllB_no hno
                simp (config := { maxSteps := 4000000 }) only [go_sem, simprocAttr, ↓dnA, Tryz.f59, encT, rows_length, boolRows_length, nlt h2, h2, nn0, rows_get _ _ _ hjt, encI, hgt, List.length_take, hml, e1, e2, hfin]
          · have hj' : j = i := by omega
            subst hj'
            have hA := agreeTo_next hag hagj
            simp (config := { maxSteps := 4000000 }) only [go_sem, simprocAttr, ↓dnA, Tryz.f59, encT, rows_length, boolRows_length, nlf h2, hw]
            refine ⟨j + 1, [(2, 2)], ⟨by omega, hA⟩, by dsimp only; omega, Weak.of (by rfl) ?_ ?_ (by rfl)⟩
            · simp (config := { maxSteps := 4000000 }) only [go_sem, simprocAttr, ↓dnA, Tryz.f59, encT, rows_length, boolRows_length, frW, wk2, wk1, wkL, wkB, hpW, List.mem_cons, Prod.mk.injEq, exists_eq_left, exists_eq_right, exists_eq]
            · simp (config := { maxSteps := 4000000 }) only [go_sem, simprocAttr, ↓dnA, Tryz.f59, encT, rows_length, boolRows_length, frW, wk2, wk1, wkL, wkB, hpW, List.mem_cons, Prod.mk.injEq, exists_eq_left, exists_eq_right, exists_eq]
      · have hi' : i = xs.length := by omega
        subst hi'
        have hyes : AgreeAll t xs := fun a b hb ha => hag a b hb ha
        have hfin := agreeAllB_yes hyes
        simp (config := { maxSteps := 4000000 }) only [go_sem, simprocAttr, ↓dnA, Tryz.f59, encT, rows_length, boolRows_length, nlf h, hfin]
  · refine CallTo.det (c_impl_CertifiedBlocks_no n1 n2 n3 n4 t cs hx hok) fun _ => ?_
    simp (config := { maxSteps := 4000000 }) only [go_sem, simprocAttr, ↓dnA, Tryz.f59, encT, rows_length, boolRows_length, commitsAgree_no hok]

theorem c_spec_CommitsAgree (n1 n2 n3 n4 : Option Bool) (t : Tree) (cs : List Cert) (hx : TreeSz t) :
    Det Tryz.prog 58 [.agg (encT n1 n2 n3 t), .sl n4 (rows encC cs)] (.bool (commitsAgree t cs)) := by
  refine fspec_det tab_ok Tryz.call58 Tryz.func58 rfl 51 Tryz.ntmps58 (of_decide_eq_true rfl) fun B => codeK_sound tab_ok _ _ _ ?_
  simp (config := { maxSteps := 4000000 }) only [go_sem, simprocAttr, ↓dnA, Tryz.f58, encT, rows_length, boolRows_length]
  refine CallTo.det (c_spec_CertifiedBlocks n1 n2 n3 n4 t cs hx) fun _ => ?_
  by_cases hok : treeValid t = true ∧ cs.length ≤ 30
  · have hl := certL_len t cs
    have ht := treeOk_of hok.1
    have hlen := ht.len
    rw [commitsAgree_yes hok, certified_yes hok.1 hok.2]
    have hz : (((certL t cs).length : Int) == 0) = false := by rw [hl]; exact beq_false_of_ne (by omega)
    simp (config := { maxSteps := 4000000 }) only [go_sem, simprocAttr, ↓dnA, Tryz.f58, encT, rows_length, boolRows_length, hz]
    refine CallTo.det (c_spec_CommitHeads n1 n2 n3 n4 t cs hx) fun _ => ?_
    rw [commitHeads_yes hok]
    have hhl := headsL_len t (certL t cs)
    generalize headsL t (certL t cs) = xs at hhl
    simp (config := { maxSteps := 4000000 }) only [go_sem, simprocAttr, ↓dnA, Tryz.f58, encT, rows_length, boolRows_length, hz]
    refine semL_for tab_ok (fun i : Nat => ⟨51, [(2, .loc 2 0), (5, .row 600 xs.length), (6, .int .i64 i)],
        [(2, .var (encT n1 n2 n3 t)), (600, .row true true 1 (rows encI xs))]⟩) (fun i => xs.length - i)
      (fun i => i ≤ xs.length ∧ AgreeTo t xs i) 0 [(2, 2), (16000, 600)] (Weak.of (by rfl) ?_ ?_ (by rfl)) ⟨by omega, fun a b _ h => by omega⟩ ?_
    · simp (config := { maxSteps := 4000000 }) only [go_sem, simprocAttr, ↓dnA, Tryz.f58, encT, rows_length, boolRows_length, frW, wk2, wk1, wkL, wkB, hpW, List.mem_cons, Prod.mk.injEq, exists_eq_left, exists_eq_right, exists_eq]
    · simp (config := { maxSteps := 4000000 }) only [go_sem, simprocAttr, ↓dnA, Tryz.f58, encT, rows_length, boolRows_length, nc0, frW, wk2, wk1, wkL, wkB, hpW, List.mem_cons, Prod.mk.injEq, exists_eq_left, exists_eq_right, exists_eq]
    · rintro i ⟨hi, hag⟩
      by_cases h : i < xs.length
      · have hw : IntKind.i64.wrap ((i : Int) + 1) = ((i + 1 : Nat) : Int) := wsucc h (by omega)
        have hgi : xs.getD i 0 = xs[i] := by rw [List.getD_eq_getElem?_getD, List.getElem?_eq_getElem h]; rfl
        simp (config := { maxSteps := 4000000 }) only [go_sem, simprocAttr, ↓dnA, Tryz.f58, encT, rows_length, boolRows_length, nlt h, h, nn0]
        refine semL_for tab_ok (fun j : Nat => ⟨51, [(2, .loc 2 0), (5, .row 600 xs.length), (6, .int .i64 i), (7, .int .i64 j)],
            [(2, .var (encT n1 n2 n3 t)), (600, .row true true 1 (rows encI xs))]⟩) (fun j => i - j)
          (fun j => j ≤ i ∧ ∀ b, b < j → agreeB t (xs.getD i 0) (xs.getD b 0) = true) 0 [(2, 2), (600, 600)] (Weak.of (by rfl) ?_ ?_ (by rfl)) ⟨by omega, fun b h => by omega⟩ ?_
        · simp (config := { maxSteps := 4000000 }) only [go_sem, simprocAttr, ↓dnA, Tryz.f58, encT, rows_length, boolRows_length, frW, wk2, wk1, wkL, wkB, hpW, List.mem_cons, Prod.mk.injEq, exists_eq_left, exists_eq_right, exists_eq]
        · simp (config := { maxSteps := 4000000 }) only [go_sem, simprocAttr, ↓dnA, Tryz.f58, encT, rows_length, boolRows_length, nc0, frW, wk2, wk1, wkL, wkB, hpW, List.mem_cons, Prod.mk.injEq, exists_eq_left, exists_eq_right, exists_eq]
        · rintro j ⟨hj, hagj⟩
          by_cases h2 : j < i
          · have hw2 : IntKind.i64.wrap ((j : Int) + 1) = ((j + 1 : Nat) : Int) := wsucc h2 (by omega)
            have hjx : j < xs.length := by omega
            have hgj : xs.getD j 0 = xs[j] := by rw [List.getD_eq_getElem?_getD, List.getElem?_eq_getElem hjx]; rfl
            simp (config := { maxSteps := 4000000 }) only [go_sem, simprocAttr, ↓dnA, Tryz.f58, encT, rows_length, boolRows_length, nlt h2, h2, nn0]
            refine semL_draw tab_ok mixed_ rfl (ord := [(0, []), (1, []), (2, []), (3, []), (4, []), (5, []), (6, []), (7, []), (8, []), (9, []), (10, []), (11, []), (12, []), (13, []), (14, []), (15, []), (16, []), (17, []), (18, []), (19, []), (20, []), (21, []), (22, []), (23, [])]) (by dsimp only; decide +kernel) ?_
            simp (config := { maxSteps := 4000000 }) only [go_sem, simprocAttr, ↓dnA, Tryz.f58, encT, rows_length, boolRows_length, nlt h2, h2, nn0, nlt h, h, nlt hjx, hjx, rows_get _ _ _ hjx, rows_get _ _ _ h, encI]
            refine CallTo.det (c_spec_IsBefore n1 n2 n3 t xs[j] xs[i] hx) fun _ => ?_
            have next : agreeB t xs[i] xs[j] = true → ∀ b, b < j + 1 → agreeB t (xs.getD i 0) (xs.getD b 0) = true := fun e b hb => by
              by_cases hbj : b = j
              · subst hbj; rw [hgi, hgj]; exact e
              · exact hagj b (by omega)
            cases e1 : isBefore t xs[j] xs[i] with
            | true =>
              have hn := next (by rw [agreeB_symm]; unfold agreeB; rw [e1]; rfl)
              simp (config := { maxSteps := 4000000 }) only [go_sem, simprocAttr, ↓dnA, Tryz.f58, encT, rows_length, boolRows_length, nlt h2, h2, nn0, nlt h, h, nlt hjx, hjx, rows_get _ _ _ hjx, rows_get _ _ _ h, encI, e1, hw2]
              refine ⟨j + 1, [(2, 2), (600, 600)], ⟨by omega, hn⟩, by dsimp only; omega, Weak.of (by rfl) ?_ ?_ (by rfl)⟩
              · simp (config := { maxSteps := 4000000 }) only [go_sem, simprocAttr, ↓dnA, Tryz.f58, encT, rows_length, boolRows_length, frW, wk2, wk1, wkL, wkB, hpW, List.mem_cons, Prod.mk.injEq, exists_eq_left, exists_eq_right, exists_eq]
              · simp (config := { maxSteps := 4000000 }) only [go_sem, simprocAttr, ↓dnA, Tryz.f58, encT, rows_length, boolRows_length, frW, wk2, wk1, wkL, wkB, hpW, List.mem_cons, Prod.mk.injEq, exists_eq_left, exists_eq_right, exists_eq]
            | false =>
              simp (config := { maxSteps := 4000000 }) only [go_sem, simprocAttr, ↓dnA, Tryz.f58, encT, rows_length, boolRows_length, nlt h2, h2, nn0, nlt h, h, nlt hjx, hjx, rows_get _ _ _ hjx, rows_get _ _ _ h, encI, e1]
              refine CallTo.det (c_spec_IsBefore n1 n2 n3 t xs[i] xs[j] hx) fun _ => ?_
              cases e2 : isBefore t xs[i] xs[j] with
              | true =>
                have hn := next (by unfold agreeB; rw [e2]; rfl)
                simp (config := { maxSteps := 4000000 }) only [go_sem, simprocAttr, ↓dnA, Tryz.f58, encT, rows_length, boolRows_length, nlt h2, h2, nn0, nlt h, h, nlt hjx, hjx, rows_get _ _ _ hjx, rows_get _ _ _ h, encI, e1, e2, hw2]
                refine ⟨j + 1, [(2, 2), (600, 600)], ⟨by omega, hn⟩, by dsimp only; omega, Weak.of (by rfl) ?_ ?_ (by rfl)⟩
                · simp (config := { maxSteps := 4000000 }) only [go_sem, simprocAttr, ↓dnA, Tryz.f58, encT, rows_length, boolRows_length, frW, wk2, wk1, wkL, wkB, hpW, List.mem_cons, Prod.mk.injEq, exists_eq_left, exists_eq_right, exists_eq]
                · simp (config := { maxSteps := 4000000 }) only [go_sem, simprocAttr, ↓dnA, Tryz.f58, encT, rows_length, boolRows_length, frW, wk2, wk1, wkL, wkB, hpW, List.mem_cons, Prod.mk.injEq, exists_eq_left, exists_eq_right, exists_eq]
              | false =>
                have hno : ¬ AgreeAll t xs := fun hA => by
                  have := hA i j h2 h
                  rw [hgi, hgj] at this
                  unfold agreeB at this
                  rw [e1, e2] at this
                  cases this
                have hfin := agreeAllB_no hno
                simp (config := { maxSteps := 4000000 }) only [go_sem, simprocAttr, ↓dnA, Tryz.f58, encT, rows_length, boolRows_length, nlt h2, h2, nn0, nlt h, h, nlt hjx, hjx, rows_get _ _ _ hjx, rows_get _ _ _ h, encI, e1, e2, hfin]
          · have hj' : j = i := by omega
            subst hj'
            have hA := agreeTo_next hag hagj
            simp (config := { maxSteps := 4000000 }) only [go_sem, simprocAttr, ↓dnA, Tryz.f58, encT, rows_length, boolRows_length, nlf h2, hw]
            refine ⟨j + 1, [(2, 2), (600, 600)], ⟨by omega, hA⟩, by dsimp only; omega, Weak.of (by rfl) ?_ ?_ (by rfl)⟩
            · simp (config := { maxSteps := 4000000 }) only [go_sem, simprocAttr, ↓dnA, Tryz.f58, encT, rows_length, boolRows_length, frW, wk2, wk1, wkL, wkB, hpW, List.mem_cons, Prod.mk.injEq, exists_eq_left, exists_eq_right, exists_eq]
            · simp (config := { maxSteps := 4000000 }) only [go_sem, simprocAttr, ↓dnA, Tryz.f58, encT, rows_length, boolRows_length, frW, wk2, wk1, wkL, wkB, hpW, List.mem_cons, Prod.mk.injEq, exists_eq_left, exists_eq_right, exists_eq]
      · have hi' : i = xs.length := by omega
        subst hi'
        have hyes : AgreeAll t xs := fun a b hb ha => hag a b hb ha
        have hfin := agreeAllB_yes hyes
        simp (config := { maxSteps := 4000000 }) only [go_sem, simprocAttr, ↓dnA, Tryz.f58, encT, rows_length, boolRows_length, nlf h, hfin]
  · rw [certified_no hok]
    simp (config := { maxSteps := 4000000 }) only [go_sem, simprocAttr, ↓dnA, Tryz.f58, encT, rows_length, boolRows_length, commitsAgree_no hok, List.length_nil]

end Go.Proofs.YtmibclbinebnjaaGreat

/- Contracts: worlds, and when they are valid. -/
set_option linter.unusedSimpArgs false
set_option linter.unusedVariables false
set_option maxRecDepth 20000
set_option maxHeartbeats 4000000
namespace Go.Proofs.YtmibclbinebnjaaGreat
open Go Go.RowKit

structure Wld where
  tree : Tree
  voters : List Voter
  votes : List Int
deriving DecidableEq, Inhabited

def encW (n1 n2 n3 n4 n5 : Option Bool) (w : Wld) : List AV :=
  [.sl n1 (rows encE w.tree.base), .sl n2 (rows encB1 w.tree.blocks), .sl n3 (rows encI w.tree.before), .sl n4 (rows encV w.voters), .sl n5 (rows encI w.votes)]
def encWO (w : Wld) : List AV :=
  [.osl true 2 (rows encE w.tree.base), .osl true 6 (rows encB1 w.tree.blocks), .osl true 1 (rows encI w.tree.before), .osl true 2 (rows encV w.voters), .osl true 1 (rows encI w.votes)]

structure WldSz (w : Wld) : Prop where
  tree : TreeSz w.tree
  voters : w.voters.length < 2 ^ 62
  votes : w.votes.length < 2 ^ 62

def voterOk (v : Voter) : Bool := voterValid v.last v.lock
noncomputable def worldValid (w : Wld) : Bool := ((((treeValid w.tree && decide (w.voters.length = 4)) && w.voters.all voterOk) && decide (w.votes.length = w.tree.blocks.length)) && w.votes.all fun n => inB n 0 15)

theorem c_impl_WorldValid1 (v : Voter) : Det Tryz.prog 93 [.agg (encV v)] (.bool (!voterOk v)) := by
  refine fspec_det tab_ok Tryz.call93 Tryz.func93 rfl 6 Tryz.ntmps93 (of_decide_eq_true rfl) fun B => codeK_sound tab_ok _ _ _ ?_
  simp (config := { maxSteps := 4000000 }) only [go_sem, simprocAttr, ↓dnA, Tryz.f93, encV]
  refine CallTo.det (c_impl_VoterValid _ _) fun _ => ?_
  simp (config := { maxSteps := 4000000 }) only [go_sem, simprocAttr, ↓dnA, Tryz.f93, encV, voterOk]

theorem c_impl_WorldValid2 (n : Int) : Det Tryz.prog 96 [.int .i64 n] (.bool (!inB n 0 15)) := by
  refine fspec_det tab_ok Tryz.call96 Tryz.func96 rfl 6 Tryz.ntmps96 (of_decide_eq_true rfl) fun B => codeK_sound tab_ok _ _ _ ?_
  simp (config := { maxSteps := 4000000 }) only [go_sem, simprocAttr, ↓dnA, Tryz.f96]
  refine CallTo.det (c_impl_isSigners _) fun _ => ?_
  simp (config := { maxSteps := 4000000 }) only [go_sem, simprocAttr, ↓dnA, Tryz.f96]

theorem c_slices_IndexFunc_Voter (n1 : Option Bool) (xs : List Voter) (k : FuncId) (p : Voter → Bool) (hx : xs.length < 2 ^ 62) (hm : mutB k = false) (hp : ∀ x, x ∈ xs → Det Tryz.prog k [.agg (encV x)] (.bool (p x))) :
    Det Tryz.prog 164 [.sl n1 (rows encV xs), .fn k []] (.int .i64 (idxF p xs 0)) := by
  simp only [mutB] at hm
  refine fspec_det tab_ok Tryz.call164 Tryz.func164 rfl 19 Tryz.ntmps164 (of_decide_eq_true rfl) fun B => codeK_sound tab_ok _ _ _ ?_
  simp (config := { maxSteps := 4000000 }) only [go_sem, simprocAttr, ↓dnA, Tryz.f164, rows_length, hm]
  refine semL_for tab_ok (fun i : Nat => ⟨19, [(0, .sl n1 (rows encV xs)), (1, .fn k []), (7, .int .i64 xs.length), (8, .int .i64 i)], []⟩) (fun i => xs.length - i)
    (fun i => i ≤ xs.length ∧ idxF p (xs.drop i) i = idxF p xs 0) 0 [] (Weak.of rfl trivial ?_ rfl) ⟨by omega, rfl⟩ ?_
  · simp (config := { maxSteps := 4000000 }) only [go_sem, simprocAttr, ↓dnA, Tryz.f164, frW, wk2, wk1, wkL, wkB, hpW, List.mem_cons, Prod.mk.injEq, exists_eq_left, exists_eq_right, exists_eq]
  · rintro i ⟨hi, hp'⟩
    by_cases h : i < xs.length
    · simp (config := { maxSteps := 4000000 }) only [go_sem, simprocAttr, ↓dnA, Tryz.f164, rows_length, rows_get _ _ _ h, encV, nlt h, nn0, hm]
      refine CallTo.det (hp _ (List.getElem_mem h)) fun _ => ?_
      rw [drop_cons xs i h] at hp'
      simp (config := { maxSteps := 4000000 }) only [go_sem, simprocAttr, ↓dnA, Tryz.f164, rows_length, rows_get _ _ _ h, encV, nlt h, hm]
      refine ⟨fun h => ?_, fun h' => ?_⟩
      · rw [← hp']; simp [idxF, h]
      · refine ⟨i + 1, [], ⟨by omega, ?_⟩, by dsimp only; omega, Weak.of rfl trivial ?_ rfl⟩
        · rw [← hp']; simp [idxF, h']
        · simp (config := { maxSteps := 4000000 }) only [go_sem, simprocAttr, ↓dnA, Tryz.f164, wsucc h hx, frW, wk2, wk1, wkL, wkB, hpW, List.mem_cons, Prod.mk.injEq, exists_eq_left, exists_eq_right, exists_eq]
    · have : i = xs.length := by omega
      subst this
      rw [List.drop_length] at hp'
      simp (config := { maxSteps := 4000000 }) only [go_sem, simprocAttr, ↓dnA, Tryz.f164, nlf h, hm]
      rw [← hp']
      rfl

theorem c_slices_ContainsFunc_Voter (n1 : Option Bool) (xs : List Voter) (k : FuncId) (p : Voter → Bool) (hx : xs.length < 2 ^ 62) (hm : mutB k = false) (hp : ∀ x, x ∈ xs → Det Tryz.prog k [.agg (encV x)] (.bool (p x))) :
    Det Tryz.prog 92 [.sl n1 (rows encV xs), .fn k []] (.bool (xs.any p)) := by
  refine fspec_det tab_ok Tryz.call92 Tryz.func92 rfl 9 Tryz.ntmps92 (of_decide_eq_true rfl) fun B => codeK_sound tab_ok _ _ _ ?_
  simp (config := { maxSteps := 4000000 }) only [go_sem, simprocAttr, ↓dnA, Tryz.f92]
  refine CallTo.det (c_slices_IndexFunc_Voter _ _ _ _ hx hm hp) fun _ => ?_
  simp (config := { maxSteps := 4000000 }) only [go_sem, simprocAttr, ↓dnA, Tryz.f92, idxF_any]


theorem eqN (a b : Nat) : (((a : Int)) == (b : Int)) = decide (a = b) := by
  rw [Bool.eq_iff_iff]; simp; omega

theorem eqN4 (a : Nat) : (((a : Int)) == 4) = decide (a = 4) := by
  rw [Bool.eq_iff_iff]; simp; omega

theorem c_impl_WorldValid (n1 n2 n3 n4 n5 : Option Bool) (w : Wld) (hx : WldSz w) : Det Tryz.prog 21 [.agg (encW n1 n2 n3 n4 n5 w)] (.bool (worldValid w)) := by
  refine fspec_det tab_ok Tryz.call21 Tryz.func21 rfl 34 Tryz.ntmps21 (of_decide_eq_true rfl) fun B => codeK_sound tab_ok _ _ _ ?_
  unfold worldValid
  have e1 : w.voters.any (fun v => !voterOk v) = !w.voters.all voterOk := any_not _ _
  have e2 : w.votes.any (fun n => !inB n 0 15) = !w.votes.all fun n => inB n 0 15 := any_not _ _
  simp (config := { maxSteps := 4000000 }) only [go_sem, simprocAttr, ↓dnA, Tryz.f21, encW]
  refine CallTo.det (c_impl_BlockTreeValid n1 n2 n3 w.tree hx.tree) fun _ => ?_
  cases h1 : treeValid w.tree with
  | false => simp (config := { maxSteps := 4000000 }) only [go_sem, simprocAttr, ↓dnA, Tryz.f21, h1]
  | true =>
    cases h2 : decide (w.voters.length = 4) with
    | false => simp (config := { maxSteps := 4000000 }) only [go_sem, simprocAttr, ↓dnA, Tryz.f21, h1, rows_length, eqN4, h2]
    | true =>
      simp (config := { maxSteps := 4000000 }) only [go_sem, simprocAttr, ↓dnA, Tryz.f21, h1, rows_length, eqN4, h2]
      refine CallTo.det (c_slices_ContainsFunc_Voter n4 w.voters _ _ hx.voters rfl fun v _ => c_impl_WorldValid1 v) fun _ => ?_
      cases h3 : w.voters.all voterOk with
      | false => simp (config := { maxSteps := 4000000 }) only [go_sem, simprocAttr, ↓dnA, Tryz.f21, h1, rows_length, eqN4, h2, e1, h3]
      | true =>
        cases h4 : decide (w.votes.length = w.tree.blocks.length) with
        | false => simp (config := { maxSteps := 4000000 }) only [go_sem, simprocAttr, ↓dnA, Tryz.f21, h1, rows_length, eqN4, h2, e1, h3, eqN, h4]
        | true =>
          simp (config := { maxSteps := 4000000 }) only [go_sem, simprocAttr, ↓dnA, Tryz.f21, h1, rows_length, eqN4, h2, e1, h3, eqN, h4]
          refine CallTo.det (c_slices_ContainsFunc_int n5 w.votes _ _ hx.votes rfl fun v _ => c_impl_WorldValid2 v) fun _ => ?_
          simp (config := { maxSteps := 4000000 }) only [go_sem, simprocAttr, ↓dnA, Tryz.f21, h1, rows_length, eqN4, h2, e1, h3, eqN, h4, e2, Bool.not_not]

theorem c_spec_WorldValid (n1 n2 n3 n4 n5 : Option Bool) (w : Wld) (hx : WldSz w) : Det Tryz.prog 22 [.agg (encW n1 n2 n3 n4 n5 w)] (.bool (worldValid w)) := by
  refine fspec_det tab_ok Tryz.call22 Tryz.func22 rfl 52 Tryz.ntmps22 (of_decide_eq_true rfl) fun B => codeK_sound tab_ok _ _ _ ?_
  have hf1 : w.voters.all voterOk = false → worldValid w = false := fun h => by unfold worldValid; rw [h]; simp
  have hf2 : w.votes.all (fun n => inB n 0 15) = false → worldValid w = false := fun h => by unfold worldValid; rw [h]; simp
  simp (config := { maxSteps := 4000000 }) only [go_sem, simprocAttr, ↓dnA, Tryz.f22, encW]
  refine semL_for tab_ok (fun i : Nat => ⟨52, [(1, .loc 1 0), (3, .int .i64 i)], [(1, .var (encW n1 n2 n3 n4 n5 w))]⟩) (fun i => w.voters.length - i)
    (fun i => i ≤ w.voters.length ∧ (w.voters.drop i).all voterOk = w.voters.all voterOk) 0 [(1, 1)] (Weak.of (by rfl) ?_ ?_ (by rfl)) ⟨by omega, rfl⟩ ?_
  · simp (config := { maxSteps := 4000000 }) only [go_sem, simprocAttr, ↓dnA, Tryz.f22, encW, frW, wk2, wk1, wkL, wkB, hpW, List.mem_cons, Prod.mk.injEq, exists_eq_left, exists_eq_right, exists_eq]
  · simp (config := { maxSteps := 4000000 }) only [go_sem, simprocAttr, ↓dnA, Tryz.f22, encW, frW, wk2, wk1, wkL, wkB, hpW, List.mem_cons, Prod.mk.injEq, exists_eq_left, exists_eq_right, exists_eq]
  rintro i ⟨hi, hp⟩
  by_cases h : i < w.voters.length
  · rw [drop_cons w.voters i h, List.all_cons] at hp
    simp (config := { maxSteps := 4000000 }) only [go_sem, simprocAttr, ↓dnA, Tryz.f22, encW, rows_length, rows_get _ _ _ h, encV, nlt h, nn0]
    refine CallTo.det (c_spec_VoterValid _ _) fun _ => ?_
    cases h1 : voterOk w.voters[i] with
    | false =>
      rw [h1, Bool.false_and] at hp
      have h1' : voterValid w.voters[i].last w.voters[i].lock = false := h1
      simp (config := { maxSteps := 4000000 }) only [go_sem, simprocAttr, ↓dnA, Tryz.f22, h1', hf1 hp.symm]
    | true =>
      rw [h1, Bool.true_and] at hp
      have h1' : voterValid w.voters[i].last w.voters[i].lock = true := h1
      simp (config := { maxSteps := 4000000 }) only [go_sem, simprocAttr, ↓dnA, Tryz.f22, h1']
      refine ⟨i + 1, [(1, 1)], ⟨by omega, hp⟩, by dsimp only; omega, Weak.of (by rfl) ?_ ?_ (by rfl)⟩
      · simp (config := { maxSteps := 4000000 }) only [go_sem, simprocAttr, ↓dnA, Tryz.f22, encW, frW, wk2, wk1, wkL, wkB, hpW, List.mem_cons, Prod.mk.injEq, exists_eq_left, exists_eq_right, exists_eq]
      · simp (config := { maxSteps := 4000000 }) only [go_sem, simprocAttr, ↓dnA, Tryz.f22, encW, wsucc h hx.voters, frW, wk2, wk1, wkL, wkB, hpW, List.mem_cons, Prod.mk.injEq, exists_eq_left, exists_eq_right, exists_eq]
  have hi' : i = w.voters.length := by omega
  subst hi'
  simp only [List.drop_length, List.all_nil] at hp
  simp (config := { maxSteps := 4000000 }) only [go_sem, simprocAttr, ↓dnA, Tryz.f22, encW, rows_length, nlf h]
  refine semL_for tab_ok (fun i : Nat => ⟨52, [(1, .loc 1 0), (4, .int .i64 i)], [(1, .var (encW n1 n2 n3 n4 n5 w))]⟩) (fun i => w.votes.length - i)
    (fun i => i ≤ w.votes.length ∧ (w.votes.drop i).all (fun n => inB n 0 15) = w.votes.all fun n => inB n 0 15) 0 [(1, 1)] (Weak.of (by rfl) ?_ ?_ (by rfl)) ⟨by omega, rfl⟩ ?_
  · simp (config := { maxSteps := 4000000 }) only [go_sem, simprocAttr, ↓dnA, Tryz.f22, encW, frW, wk2, wk1, wkL, wkB, hpW, List.mem_cons, Prod.mk.injEq, exists_eq_left, exists_eq_right, exists_eq]
  · simp (config := { maxSteps := 4000000 }) only [go_sem, simprocAttr, ↓dnA, Tryz.f22, encW, frW, wk2, wk1, wkL, wkB, hpW, List.mem_cons, Prod.mk.injEq, exists_eq_left, exists_eq_right, exists_eq]
  rintro i ⟨hi, hq⟩
  by_cases h : i < w.votes.length
  · rw [drop_cons w.votes i h, List.all_cons] at hq
    simp (config := { maxSteps := 4000000 }) only [go_sem, simprocAttr, ↓dnA, Tryz.f22, encW, rows_length, rows_get _ _ _ h, encI, nlt h, nn0]
    refine CallTo.det (c_l1In _ _ _) fun _ => ?_
    cases h1 : inB w.votes[i] 0 15 with
    | false =>
      rw [h1, Bool.false_and] at hq
      simp (config := { maxSteps := 4000000 }) only [go_sem, simprocAttr, ↓dnA, Tryz.f22, h1, hf2 hq.symm]
    | true =>
      rw [h1, Bool.true_and] at hq
      simp (config := { maxSteps := 4000000 }) only [go_sem, simprocAttr, ↓dnA, Tryz.f22, h1]
      refine ⟨i + 1, [(1, 1)], ⟨by omega, hq⟩, by dsimp only; omega, Weak.of (by rfl) ?_ ?_ (by rfl)⟩
      · simp (config := { maxSteps := 4000000 }) only [go_sem, simprocAttr, ↓dnA, Tryz.f22, encW, frW, wk2, wk1, wkL, wkB, hpW, List.mem_cons, Prod.mk.injEq, exists_eq_left, exists_eq_right, exists_eq]
      · simp (config := { maxSteps := 4000000 }) only [go_sem, simprocAttr, ↓dnA, Tryz.f22, encW, wsucc h hx.votes, frW, wk2, wk1, wkL, wkB, hpW, List.mem_cons, Prod.mk.injEq, exists_eq_left, exists_eq_right, exists_eq]
  have hi' : i = w.votes.length := by omega
  subst hi'
  simp only [List.drop_length, List.all_nil] at hq
  have hw : worldValid w = ((treeValid w.tree && decide (w.voters.length = 4)) && decide (w.votes.length = w.tree.blocks.length)) := by
    unfold worldValid; rw [← hp, ← hq]; simp
  rw [hw]
  simp (config := { maxSteps := 4000000 }) only [go_sem, simprocAttr, ↓dnA, Tryz.f22, encW, rows_length, nlf h]
  refine CallTo.det (c_spec_BlockTreeValid n1 n2 n3 w.tree hx.tree) fun _ => ?_
  cases h1 : treeValid w.tree with
  | false => simp (config := { maxSteps := 4000000 }) only [go_sem, simprocAttr, ↓dnA, Tryz.f22, encW, h1]
  | true =>
    cases h2 : decide (w.voters.length = 4) with
    | false => simp (config := { maxSteps := 4000000 }) only [go_sem, simprocAttr, ↓dnA, Tryz.f22, encW, h1, rows_length, eqN4, h2]
    | true => simp (config := { maxSteps := 4000000 }) only [go_sem, simprocAttr, ↓dnA, Tryz.f22, encW, h1, rows_length, eqN4, h2, eqN]

end Go.Proofs.YtmibclbinebnjaaGreat

/- Contracts: FnExactWorldValid. -/
set_option linter.unusedSimpArgs false
set_option linter.unusedVariables false
set_option maxRecDepth 20000
set_option maxHeartbeats 4000000
namespace Go.Proofs.YtmibclbinebnjaaGreat
open Go Go.RowKit

structure WldLen (w : Wld) : Prop where
  tree : TreeLen w.tree
  voters : w.voters.length ≤ 9223372036854775807
  votes : w.votes.length ≤ 9223372036854775807

/-- How much a world is. -/
def wsz (w : Wld) : Nat := tsz w.tree + w.voters.length + w.votes.length
structure WldS32 (w : Wld) : Prop where
  sum : wsz w ≤ 1048576
theorem WldS32.tree {w : Wld} (h : WldS32 w) : TreeS32 w.tree := ⟨by have := h.sum; unfold wsz at this; omega⟩
theorem WldS32.voters {w : Wld} (h : WldS32 w) : w.voters.length < 2 ^ 32 := by have := h.sum; unfold wsz at this; omega
theorem WldS32.votes {w : Wld} (h : WldS32 w) : w.votes.length < 2 ^ 32 := by have := h.sum; unfold wsz at this; omega

theorem WldS32.sz {w : Wld} (h : WldS32 w) : WldSz w := ⟨h.tree.sz, by have := h.voters; omega, by have := h.votes; omega⟩

theorem c_laws_szVoterS (n1 : Option Bool) (xs : List Voter) (left : Int) (hx : xs.length ≤ 9223372036854775807) (hl : 0 ≤ left ∧ left ≤ 1048576) : Det Tryz.prog 125 [.sl n1 (rows encV xs), .int .i64 left] (.int .i64 (szI left xs.length)) := by
  refine fspec_det tab_ok Tryz.call125 Tryz.func125 rfl 12 Tryz.ntmps125 (of_decide_eq_true rfl) fun B => codeK_sound tab_ok _ _ _ ?_
  have hw : IntKind.i64.wrap (left - (xs.length : Int)) = left - xs.length := wrap_small _ (by omega) (by omega)
  by_cases h : left - (xs.length : Int) < 0
  · simp (config := { maxSteps := 4000000 }) only [go_sem, simprocAttr, ↓dnA, Tryz.f125, rows_length, hw, decide_eq_true h, szI, h]
  · simp (config := { maxSteps := 4000000 }) only [go_sem, simprocAttr, ↓dnA, Tryz.f125, rows_length, hw, decide_eq_false h, szI, h]

theorem c_laws_szWorld (n1 n2 n3 n4 n5 : Option Bool) (w : Wld) (left : Int) (hx : WldLen w) (hl : 0 ≤ left ∧ left ≤ 1048576) :
    ∃ r : Int, Det Tryz.prog 45 [.agg (encW n1 n2 n3 n4 n5 w), .int .i64 left] (.int .i64 r) ∧ r ≤ 1048576 ∧ (0 ≤ r → WldS32 w) ∧ (0 ≤ r → r + (wsz w : Int) = left) := by
  obtain ⟨r, hr, hr1, _, hr2⟩ := c_laws_szBlockTree n1 n2 n3 w.tree left hx.tree hl
  by_cases g1 : r < 0
  · refine ⟨-1, ?_, by omega, by omega, by omega⟩
    refine fspec_det tab_ok Tryz.call45 Tryz.func45 rfl 24 Tryz.ntmps45 (of_decide_eq_true rfl) fun B => codeK_sound tab_ok _ _ _ ?_
    simp (config := { maxSteps := 4000000 }) only [go_sem, simprocAttr, ↓dnA, Tryz.f45, encW]
    refine CallTo.det hr fun _ => ?_
    simp (config := { maxSteps := 4000000 }) only [go_sem, simprocAttr, ↓dnA, Tryz.f45, encW, decide_eq_true g1]
  · have hb1 := szI_bd (n := w.voters.length) hr1
    by_cases g2 : szI r w.voters.length < 0
    · refine ⟨-1, ?_, by omega, by omega, by omega⟩
      refine fspec_det tab_ok Tryz.call45 Tryz.func45 rfl 24 Tryz.ntmps45 (of_decide_eq_true rfl) fun B => codeK_sound tab_ok _ _ _ ?_
      simp (config := { maxSteps := 4000000 }) only [go_sem, simprocAttr, ↓dnA, Tryz.f45, encW]
      refine CallTo.det hr fun _ => ?_
      simp (config := { maxSteps := 4000000 }) only [go_sem, simprocAttr, ↓dnA, Tryz.f45, encW, decide_eq_false g1]
      refine CallTo.det (c_laws_szVoterS _ _ r hx.voters ⟨by omega, hr1⟩) fun _ => ?_
      simp (config := { maxSteps := 4000000 }) only [go_sem, simprocAttr, ↓dnA, Tryz.f45, encW, decide_eq_true g2]
    · have hb2 := szI_bd (n := w.votes.length) hb1.1
      have hall : ∀ c : Bool, decide (szI (szI r w.voters.length) w.votes.length < 0) = c → Det Tryz.prog 45 [.agg (encW n1 n2 n3 n4 n5 w), .int .i64 left] (.int .i64 (if c then -1 else szI (szI r w.voters.length) w.votes.length)) := by
        intro c hc
        refine fspec_det tab_ok Tryz.call45 Tryz.func45 rfl 24 Tryz.ntmps45 (of_decide_eq_true rfl) fun B => codeK_sound tab_ok _ _ _ ?_
        simp (config := { maxSteps := 4000000 }) only [go_sem, simprocAttr, ↓dnA, Tryz.f45, encW]
        refine CallTo.det hr fun _ => ?_
        simp (config := { maxSteps := 4000000 }) only [go_sem, simprocAttr, ↓dnA, Tryz.f45, encW, decide_eq_false g1]
        refine CallTo.det (c_laws_szVoterS _ _ r hx.voters ⟨by omega, hr1⟩) fun _ => ?_
        simp (config := { maxSteps := 4000000 }) only [go_sem, simprocAttr, ↓dnA, Tryz.f45, encW, decide_eq_false g2]
        refine CallTo.det (c_laws_szIntS _ _ _ hx.votes ⟨by omega, hb1.1⟩) fun _ => ?_
        cases c with
        | false => simp (config := { maxSteps := 4000000 }) only [go_sem, simprocAttr, ↓dnA, Tryz.f45, encW, hc]
        | true => simp (config := { maxSteps := 4000000 }) only [go_sem, simprocAttr, ↓dnA, Tryz.f45, encW, hc]
      by_cases g3 : szI (szI r w.voters.length) w.votes.length < 0
      · exact ⟨-1, hall true (decide_eq_true g3), by omega, by omega, by omega⟩
      · have hsum : szI (szI r w.voters.length) w.votes.length + (wsz w : Int) = left := by
          have e0 := hr2 (by omega)
          have e1 := szI_eq (left := r) (n := w.voters.length) (by omega)
          have e2 := szI_eq (left := szI r w.voters.length) (n := w.votes.length) (by omega)
          unfold wsz; omega
        exact ⟨_, hall false (decide_eq_false g3), hb2.1, fun _ => ⟨by omega⟩, fun _ => hsum⟩

theorem c_laws_toVoterS (n1 : Option Bool) (xs : List Voter) (hx : xs.length < 2 ^ 32) :
    Det Tryz.prog 126 [.sl n1 (rows encV xs)] (.osl true 2 (rows encV xs)) := by
  refine fspec_det tab_ok Tryz.call126 Tryz.func126 rfl 23 Tryz.ntmps126 (of_decide_eq_true rfl) fun B => codeK_sound tab_ok _ _ _ ?_
  have hx62 : xs.length < 2 ^ 62 := by omega
  simp (config := { maxSteps := 4000000 }) only [go_sem, simprocAttr, ↓dnA, Tryz.f126, rows_length]
  repeat refine And.intro (by first | omega | (simp; done) | (simp; omega) | assumption) ?_
  refine semL_for tab_ok (fun i : Nat => ⟨23, [(0, .sl n1 (rows encV xs)), (3, .row 7 xs.length), (4, .int .i64 i)], [(7, .row true true 2 (rows encV (xs.take i ++ List.replicate (xs.length - i) (⟨0, 0⟩ : Voter))))]⟩) (fun i => xs.length - i)
    (fun i => i ≤ xs.length) 0 [(7, 7)] (Weak.of (by rfl) ?_ ?_ (by rfl)) (by omega) ?_
  · simp (config := { maxSteps := 4000000 }) only [go_sem, simprocAttr, ↓dnA, Tryz.f126, frW, wk2, wk1, wkL, wkB, hpW, List.mem_cons, Prod.mk.injEq, exists_eq_left, exists_eq_right, exists_eq]
    simp [rows, encV, encBk]
  · simp (config := { maxSteps := 4000000 }) only [go_sem, simprocAttr, ↓dnA, Tryz.f126, frW, wk2, wk1, wkL, wkB, hpW, List.mem_cons, Prod.mk.injEq, exists_eq_left, exists_eq_right, exists_eq]
  · rintro i hi
    by_cases h : i < xs.length
    · have hm : i < (xs.take i ++ List.replicate (xs.length - i) (⟨0, 0⟩ : Voter)).length := by simp; omega
      simp (config := { maxSteps := 4000000 }) only [go_sem, simprocAttr, ↓dnA, Tryz.f126, rows_length, rows_get _ _ _ h, encV, encBk, nlt h, nn0]
      refine CallTo.det (c_laws_toVoter xs[i].last xs[i].lock) fun _ => ?_
      simp (config := { maxSteps := 4000000 }) only [go_sem, simprocAttr, ↓dnA, Tryz.f126, rows_length, rows_get _ _ _ h, rows_get _ _ _ hm, hm, encV, encBk, encBkO, nlt h, nn0, wsucc h hx62]
      repeat refine And.intro (by first | omega | (simp; done) | (simp; omega) | assumption) ?_
      refine ⟨i + 1, [(7, 7)], by omega, by dsimp only; omega, Weak.of (by rfl) ?_ ?_ (by rfl)⟩
      · simp (config := { maxSteps := 4000000 }) only [go_sem, simprocAttr, ↓dnA, Tryz.f126, frW, wk2, wk1, wkL, wkB, hpW, List.mem_cons, Prod.mk.injEq, exists_eq_left, exists_eq_right, exists_eq]
        first
          | done
          | (refine (congrArg (rows encV) (fill_step xs (⟨0, 0⟩ : Voter) (⟨0, 0⟩ : Voter) i h)).symm.trans ?_; rw [← rows_set, getD_at _ _ _ h]; rfl)
      · simp (config := { maxSteps := 4000000 }) only [go_sem, simprocAttr, ↓dnA, Tryz.f126, wsucc h hx62, frW, wk2, wk1, wkL, wkB, hpW, List.mem_cons, Prod.mk.injEq, exists_eq_left, exists_eq_right, exists_eq]
    · have : i = xs.length := by omega
      subst this
      simp (config := { maxSteps := 4000000 }) only [go_sem, simprocAttr, ↓dnA, Tryz.f126, rows_length, nlf h]
      simp


theorem c_laws_toWorld (n1 n2 n3 n4 n5 : Option Bool) (w : Wld) (hx : WldS32 w) : Det Tryz.prog 46 [.agg (encW n1 n2 n3 n4 n5 w)] (.agg (encWO w)) := by
  refine fspec_det tab_ok Tryz.call46 Tryz.func46 rfl 17 Tryz.ntmps46 (of_decide_eq_true rfl) fun B => codeK_sound tab_ok _ _ _ ?_
  simp (config := { maxSteps := 4000000 }) only [go_sem, simprocAttr, ↓dnA, Tryz.f46, encW, encWO, encTO, rows_length, encW, encWO]
  refine CallTo.det (c_laws_toBlockTree n1 n2 n3 w.tree hx.tree) fun _ => ?_
  simp (config := { maxSteps := 4000000 }) only [go_sem, simprocAttr, ↓dnA, Tryz.f46, encW, encWO, encTO, rows_length, rows_length, encTO]
  refine CallTo.det (c_laws_toVoterS _ _ hx.voters) fun _ => ?_
  simp (config := { maxSteps := 4000000 }) only [go_sem, simprocAttr, ↓dnA, Tryz.f46, encW, encWO, encTO, rows_length, rows_length]
  refine CallTo.det (c_laws_toIntS _ _ hx.votes) fun _ => ?_
  simp (config := { maxSteps := 4000000 }) only [go_sem, simprocAttr, ↓dnA, Tryz.f46, encW, encWO, encTO, rows_length, rows_length]
  try simp

theorem c_laws_eqVoterS (n1 n2 : Option Bool) (xs ys : List Voter) (hx : xs.length < 2 ^ 62) (hy : ys.length < 2 ^ 62)  :
    Det Tryz.prog 127 [.sl n1 (rows encV xs), .sl n2 (rows encV ys)] (.bool (decide (xs = ys))) := by
  refine fspec_det tab_ok Tryz.call127 Tryz.func127 rfl 27 Tryz.ntmps127 (of_decide_eq_true rfl) fun B => codeK_sound tab_ok _ _ _ ?_
  by_cases hl : xs.length = ys.length
  · have hd : (((xs.length : Int) != (ys.length : Int))) = false := by simp [hl]
    simp (config := { maxSteps := 4000000 }) only [go_sem, simprocAttr, ↓dnA, Tryz.f127, rows_length, hd]
    refine semL_for tab_ok (fun i : Nat => ⟨27, [(0, .sl n1 (rows encV xs)), (1, .sl n2 (rows encV ys)), (5, .int .i64 i)], []⟩) (fun i => xs.length - i)
      (fun i => i ≤ xs.length ∧ decide (xs.drop i = ys.drop i) = decide (xs = ys)) 0 [] (Weak.of (by rfl) trivial ?_ (by rfl)) ⟨by omega, rfl⟩ ?_
    · simp (config := { maxSteps := 4000000 }) only [go_sem, simprocAttr, ↓dnA, Tryz.f127, rows_length, frW, wk2, wk1, wkL, wkB, hpW, List.mem_cons, Prod.mk.injEq, exists_eq_left, exists_eq_right, exists_eq]
    · rintro i ⟨hi, hp⟩
      by_cases h : i < xs.length
      · have h2 : i < ys.length := by omega
        rw [eq_drop xs ys i hl h] at hp
        simp (config := { maxSteps := 4000000 }) only [go_sem, simprocAttr, ↓dnA, Tryz.f127, rows_length, nlt h]
        refine semL_draw tab_ok mixed_ rfl (ord := [(0, []), (1, []), (2, []), (3, []), (4, []), (5, []), (6, []), (7, []), (8, []), (9, [])]) (by dsimp only; decide +kernel) ?_
        simp (config := { maxSteps := 4000000 }) only [go_sem, simprocAttr, ↓dnA, Tryz.f127, rows_length, rows_get _ _ _ h, rows_get _ _ _ h2, encV, encBk, nn0, nlt h, nlt h2]
        refine CallTo.det (c_laws_eqVoter xs[i] ys[i]) fun _ => ?_
        cases he : decide (xs[i] = ys[i]) with
        | false =>
          have he' : decide (xs[i] = ys[i]) = false := he
          rw [he', Bool.false_and] at hp
          simp (config := { maxSteps := 4000000 }) only [go_sem, simprocAttr, ↓dnA, Tryz.f127, rows_length, rows_get _ _ _ h, rows_get _ _ _ h2, encV, encBk, nn0, nlt h, nlt h2, he, ← hp]
        | true =>
          have he' : decide (xs[i] = ys[i]) = true := he
          rw [he', Bool.true_and] at hp
          simp (config := { maxSteps := 4000000 }) only [go_sem, simprocAttr, ↓dnA, Tryz.f127, rows_length, rows_get _ _ _ h, rows_get _ _ _ h2, encV, encBk, nn0, nlt h, nlt h2, he]
          refine ⟨i + 1, [], ⟨by omega, hp⟩, by dsimp only; omega, Weak.of (by rfl) trivial ?_ (by rfl)⟩
          simp (config := { maxSteps := 4000000 }) only [go_sem, simprocAttr, ↓dnA, Tryz.f127, wsucc h hx, frW, wk2, wk1, wkL, wkB, hpW, List.mem_cons, Prod.mk.injEq, exists_eq_left, exists_eq_right, exists_eq]
      · have : i = xs.length := by omega
        subst this
        rw [List.drop_length, List.drop_of_length_le (by omega)] at hp
        simp (config := { maxSteps := 4000000 }) only [go_sem, simprocAttr, ↓dnA, Tryz.f127, rows_length, nlf h, ← hp]
  · have hd : (((xs.length : Int) != (ys.length : Int))) = true := by simp; omega
    have hne : xs ≠ ys := fun e => hl (by rw [e])
    simp (config := { maxSteps := 4000000 }) only [go_sem, simprocAttr, ↓dnA, Tryz.f127, rows_length, hd, decide_eq_false hne]


theorem c_laws_eqWorld (n1 n2 n3 n4 n5 m1 m2 m3 m4 m5 : Option Bool) (t u : Wld) (hx : WldSz t) (hy : WldSz u) : Det Tryz.prog 47 [.agg (encW n1 n2 n3 n4 n5 t), .agg (encW m1 m2 m3 m4 m5 u)] (.bool (decide (t = u))) := by
  refine fspec_det tab_ok Tryz.call47 Tryz.func47 rfl 23 Tryz.ntmps47 (of_decide_eq_true rfl) fun B => codeK_sound tab_ok _ _ _ ?_
  have he : decide (t = u) = (decide (t.tree = u.tree) && (decide (t.voters = u.voters) && decide (t.votes = u.votes))) := by
    obtain ⟨a, b, c⟩ := t
    obtain ⟨d, e, f⟩ := u
    rw [Bool.eq_iff_iff]
    simp only [Bool.and_eq_true, decide_eq_true_eq, Wld.mk.injEq]
  rw [he]
  simp (config := { maxSteps := 4000000 }) only [go_sem, simprocAttr, ↓dnA, Tryz.f47, encW]
  refine CallTo.det (c_laws_eqBlockTree _ _ _ _ _ _ t.tree u.tree hx.tree hy.tree) fun _ => ?_
  cases h1 : decide (t.tree = u.tree) with
  | false => simp (config := { maxSteps := 4000000 }) only [go_sem, simprocAttr, ↓dnA, Tryz.f47, encW, h1]
  | true =>
    simp (config := { maxSteps := 4000000 }) only [go_sem, simprocAttr, ↓dnA, Tryz.f47, encW, h1]
    refine CallTo.det (c_laws_eqVoterS _ _ _ _ hx.voters hy.voters) fun _ => ?_
    cases h2 : decide (t.voters = u.voters) with
    | false => simp (config := { maxSteps := 4000000 }) only [go_sem, simprocAttr, ↓dnA, Tryz.f47, encW, h1, h2]
    | true =>
      simp (config := { maxSteps := 4000000 }) only [go_sem, simprocAttr, ↓dnA, Tryz.f47, encW, h1, h2]
      refine CallTo.det (c_laws_eqIntS _ _ _ _ hx.votes hy.votes) fun _ => ?_
      cases h3 : decide (t.votes = u.votes) with
      | false => simp (config := { maxSteps := 4000000 }) only [go_sem, simprocAttr, ↓dnA, Tryz.f47, encW, h1, h2, h3]
      | true => simp (config := { maxSteps := 4000000 }) only [go_sem, simprocAttr, ↓dnA, Tryz.f47, encW, h1, h2, h3]

end Go.Proofs.YtmibclbinebnjaaGreat

