/- WorldValid, the program's and the reference's (part 1): W27, W29, W30, W31, W32, C6, Ty1, Ty3 -/
import Derived.Test.YtdaemhaecjldaaaRows
import Derived.ProofKit
import Derived.Test.YtdaemhaecjldaaaK5

/- Contracts: voters after their votes. -/
set_option linter.unusedSimpArgs false
set_option linter.unusedVariables false
set_option maxRecDepth 20000
set_option maxHeartbeats 4000000
namespace Go.Proofs.Ytdaemhaecjldaaa
open Go Go.RowKit

open Classical in
/-- A voter after its vote. -/
noncomputable def voteFor (v : Voter) (t : Tree) (c : List Bool) (n : Int) : Voter × Bool :=
  if voterValid v.last v.lock then (if mayVote v t c n then
    (⟨(t.blk n.toNat).view, if t.bef (t.bef n.toNat).toNat ≥ 0 then max v.lock (t.blk (t.bef (t.bef n.toNat).toNat).toNat).view else v.lock⟩, true) else (v, false)) else (⟨0, 0⟩, false)

theorem max_if (a b : Int) : (if b > a then b else a) = max a b := by
  rw [Int.max_def]; split <;> split <;> omega

/-- What is needed of the block before the one before. -/
theorem voteFor_ok {v : Voter} {t : Tree} {c : List Bool} {n : Int} (h0 : voterValid v.last v.lock = true) (h : mayVote v t c n = true) :
    ∃ j k : Nat, n = (j : Int) ∧ j < t.blocks.length ∧ j < t.before.length ∧ k < t.before.length ∧ (rows encI t.before).getD j [] = [.int .i64 (k : Int)] ∧ (rows encI t.before).getD k [] = [.int .i64 (t.bef k)] ∧
      (rows encB1 t.blocks).getD j [] = encB1 (t.blk j) ∧
      ((t.bef k < 0 ∧ decide (t.bef k ≥ 0) = false ∧ voteFor v t c n = (⟨(t.blk j).view, v.lock⟩, true)) ∨
       ∃ m : Nat, t.bef k = (m : Int) ∧ m < t.blocks.length ∧ (rows encB1 t.blocks).getD m [] = encB1 (t.blk m) ∧ voteFor v t c n = (⟨(t.blk j).view, max v.lock (t.blk m).view⟩, true)) := by
  have hm := mayOk_of h
  obtain ⟨j, k, rfl, hj0, hj, hjb, hkj, hk, g1, g2, g3, _⟩ := may_facts hm.tree hm.len hm.n1 hm.n2
  have hkb : k < t.before.length := by omega
  have g4 : (rows encI t.before).getD k [] = [.int .i64 (t.bef k)] := by rw [rows_get _ _ k hkb, t.bef_get k hkb]; rfl
  refine ⟨j, k, rfl, hj, hjb, hkb, g1, g4, g2, ?_⟩
  have hv : voteFor v t c (j : Int) = (⟨(t.blk j).view, if t.bef k ≥ 0 then max v.lock (t.blk (t.bef k).toNat).view else v.lock⟩, true) := by
    unfold voteFor
    rw [h0, h, if_pos rfl, if_pos rfl, Int.toNat_natCast, hk, Int.toNat_natCast]
  by_cases hb : t.bef k ≥ 0
  · obtain ⟨m, hmk⟩ : ∃ m : Nat, t.bef k = (m : Int) := ⟨(t.bef k).toNat, by omega⟩
    have hml : m < t.blocks.length := by
      by_cases hk0 : k = 0
      · subst hk0; rw [hm.tree.bef0] at hb; omega
      · have := (hm.tree.link k (by omega) (by omega)).hi; omega
    refine .inr ⟨m, hmk, hml, rows_gd _ _ m hml, ?_⟩
    rw [hv, if_pos hb, hmk, Int.toNat_natCast]
  · exact .inl ⟨by omega, by simp; omega, by rw [hv, if_neg hb]⟩

theorem c_impl_VoteFor (n1 n2 n3 n4 : Option Bool) (v : Voter) (t : Tree) (c : List Bool) (n : Int) (hx : TreeSz t) (hc : c.length < 2 ^ 62) :
    Det Try.prog 49 [.agg (encV v), .agg (encT n1 n2 n3 t), .sl n4 (boolRows c), .int .i64 n] (.tup [.agg (encV (voteFor v t c n).1), .bool (voteFor v t c n).2]) := by
  refine fspec_det tab_ok Try.call49 Try.func49 rfl 51 Try.ntmps49 (of_decide_eq_true rfl) fun B => codeK_sound tab_ok _ _ _ ?_
  unfold encT
  simp (config := { maxSteps := 4000000 }) only [go_sem, simprocAttr, ↓dnA, Try.f49, encV]
  refine CallTo.det (c_impl_VoterValid _ _) fun _ => ?_
  cases h1 : voterValid v.last v.lock with
  | false =>
    have hv : voteFor v t c n = (⟨0, 0⟩, false) := by unfold voteFor; rw [h1, if_neg Bool.false_ne_true]
    simp (config := { maxSteps := 4000000 }) only [go_sem, simprocAttr, ↓dnA, Try.f49, encV, h1, hv]
  | true =>
    simp (config := { maxSteps := 4000000 }) only [go_sem, simprocAttr, ↓dnA, Try.f49, encV, h1]
    refine CallTo.det (c_impl_MayVote n1 n2 n3 n4 v t c n hx hc) fun _ => ?_
    cases h2 : mayVote v t c n with
    | false =>
      have hv : voteFor v t c n = (v, false) := by unfold voteFor; rw [h1, h2, if_pos rfl, if_neg Bool.false_ne_true]
      simp (config := { maxSteps := 4000000 }) only [go_sem, simprocAttr, ↓dnA, Try.f49, encV, h1, h2, hv]
    | true =>
      obtain ⟨j, k, rfl, hj, hjb, hkb, g1, g4, g2, hcase⟩ := voteFor_ok h1 h2
      simp (config := { maxSteps := 4000000 }) only [go_sem, simprocAttr, ↓dnA, Try.f49, encV, h1, h2, rows_length, nn0, nlt hj, nlt hjb, nlt hkb, g1, g2, g4, encB1, encBk]
      refine semL_draw tab_ok mixed_ rfl (ord := [(0, []), (1, []), (2, []), (3, []), (4, []), (5, []), (6, []), (7, []), (8, []), (9, [])]) (by dsimp only; decide +kernel) ?_
      rcases hcase with ⟨hb, hd, hv⟩ | ⟨m, hm, hml, g5, hv⟩
      · simp (config := { maxSteps := 4000000 }) only [go_sem, simprocAttr, ↓dnA, Try.f49, encV, h1, h2, rows_length, nn0, nlt hj, nlt hjb, nlt hkb, g1, g2, g4, encB1, encBk, hd, hv]
      · have hd : decide ((m : Int) ≥ 0) = true := by simp
        simp (config := { maxSteps := 4000000 }) only [go_sem, simprocAttr, ↓dnA, Try.f49, encV, h1, h2, rows_length, nn0, nlt hj, nlt hjb, nlt hkb, g1, g2, g4, encB1, encBk, hd, hm]
        refine semL_draw tab_ok mixed_ rfl (ord := [(0, []), (1, []), (2, []), (3, []), (4, []), (5, []), (6, []), (7, []), (8, []), (9, []), (10, [])]) (by dsimp only; decide +kernel) ?_
        simp (config := { maxSteps := 4000000 }) only [go_sem, simprocAttr, ↓dnA, Try.f49, encV, h1, h2, rows_length, nn0, nlt hml, g5, encB1, encBk, max_if, hv]

theorem c_spec_VoteFor (n1 n2 n3 n4 : Option Bool) (v : Voter) (t : Tree) (c : List Bool) (n : Int) (hx : TreeSz t) (hc : c.length < 2 ^ 62) :
    Det Try.prog 48 [.agg (encV v), .agg (encT n1 n2 n3 t), .sl n4 (boolRows c), .int .i64 n] (.tup [.agg (encV (voteFor v t c n).1), .bool (voteFor v t c n).2]) := by
  refine fspec_det tab_ok Try.call48 Try.func48 rfl 54 Try.ntmps48 (of_decide_eq_true rfl) fun B => codeK_sound tab_ok _ _ _ ?_
  unfold encT
  simp (config := { maxSteps := 4000000 }) only [go_sem, simprocAttr, ↓dnA, Try.f48, encV]
  refine CallTo.det (c_spec_VoterValid _ _) fun _ => ?_
  cases h1 : voterValid v.last v.lock with
  | false =>
    have hv : voteFor v t c n = (⟨0, 0⟩, false) := by unfold voteFor; rw [h1, if_neg Bool.false_ne_true]
    simp (config := { maxSteps := 4000000 }) only [go_sem, simprocAttr, ↓dnA, Try.f48, encV, h1, hv]
  | true =>
    simp (config := { maxSteps := 4000000 }) only [go_sem, simprocAttr, ↓dnA, Try.f48, encV, h1]
    refine CallTo.det (c_spec_MayVote n1 n2 n3 n4 v t c n hx hc) fun _ => ?_
    cases h2 : mayVote v t c n with
    | false =>
      have hv : voteFor v t c n = (v, false) := by unfold voteFor; rw [h1, h2, if_pos rfl, if_neg Bool.false_ne_true]
      simp (config := { maxSteps := 4000000 }) only [go_sem, simprocAttr, ↓dnA, Try.f48, encV, h1, h2, hv]
    | true =>
      obtain ⟨j, k, rfl, hj, hjb, hkb, g1, g4, g2, hcase⟩ := voteFor_ok h1 h2
      simp (config := { maxSteps := 4000000 }) only [go_sem, simprocAttr, ↓dnA, Try.f48, encV, h1, h2, rows_length, nn0, nlt hj, nlt hjb, nlt hkb, g1, g2, g4, encB1, encBk]
      refine semL_draw tab_ok mixed_ rfl (ord := [(0, []), (1, []), (2, []), (3, []), (4, []), (5, []), (6, []), (7, []), (8, []), (9, [0, 1, 2, 3, 4, 5, 6, 7, 8]), (10, [])]) (by dsimp only; decide +kernel) ?_
      simp (config := { maxSteps := 4000000 }) only [go_sem, simprocAttr, ↓dnA, Try.f48, encV, h1, h2, rows_length, nn0, nlt hj, nlt hjb, nlt hkb, g1, g2, g4, encB1, encBk]
      refine semL_draw tab_ok mixed_ rfl (ord := [(0, []), (1, []), (2, []), (3, []), (4, []), (5, []), (6, []), (7, []), (8, []), (9, [])]) (by dsimp only; decide +kernel) ?_
      rcases hcase with ⟨hb, hd, hv⟩ | ⟨m, hm, hml, g5, hv⟩
      · simp (config := { maxSteps := 4000000 }) only [go_sem, simprocAttr, ↓dnA, Try.f48, encV, h1, h2, rows_length, nn0, nlt hj, nlt hjb, nlt hkb, g1, g2, g4, encB1, encBk, hd, hv]
      · have hd : decide ((m : Int) ≥ 0) = true := by simp
        simp (config := { maxSteps := 4000000 }) only [go_sem, simprocAttr, ↓dnA, Try.f48, encV, h1, h2, rows_length, nn0, nlt hj, nlt hjb, nlt hkb, g1, g2, g4, encB1, encBk, hd, hm]
        refine semL_draw tab_ok mixed_ rfl (ord := [(0, []), (1, []), (2, []), (3, []), (4, []), (5, []), (6, []), (7, []), (8, []), (9, []), (10, [])]) (by dsimp only; decide +kernel) ?_
        simp (config := { maxSteps := 4000000 }) only [go_sem, simprocAttr, ↓dnA, Try.f48, encV, h1, h2, rows_length, nn0, nlt hml, g5, encB1, encBk, max_if, hv]

theorem voterB (a b : Voter) : ((a.last == b.last) && (a.lock == b.lock)) = decide (a = b) := by
  obtain ⟨a1, a2⟩ := a
  obtain ⟨b1, b2⟩ := b
  rw [Bool.eq_iff_iff]
  simp only [Bool.and_eq_true, beq_iff_eq, decide_eq_true_eq, Voter.mk.injEq]

theorem c_laws_eqVoter (a b : Voter) : Det Try.prog 50 [.agg (encV a), .agg (encV b)] (.bool (decide (a = b))) := by
  refine fspec_det tab_ok Try.call50 Try.func50 rfl 15 Try.ntmps50 (of_decide_eq_true rfl) fun B => codeK_sound tab_ok _ _ _ ?_
  unfold encV
  rw [← voterB]
  cases h1 : (a.last == b.last) with
  | false => simp (config := { maxSteps := 4000000 }) only [go_sem, simprocAttr, ↓dnA, Try.f50, bne, h1]
  | true =>
    cases h2 : (a.lock == b.lock) with
    | false => simp (config := { maxSteps := 4000000 }) only [go_sem, simprocAttr, ↓dnA, Try.f50, bne, h1, h2]
    | true => simp (config := { maxSteps := 4000000 }) only [go_sem, simprocAttr, ↓dnA, Try.f50, bne, h1, h2]

end Go.Proofs.Ytdaemhaecjldaaa

/- Contracts: certificates. -/
set_option linter.unusedSimpArgs false
set_option linter.unusedVariables false
set_option maxRecDepth 20000
set_option maxHeartbeats 4000000
namespace Go.Proofs.Ytdaemhaecjldaaa
open Go Go.RowKit

structure Cert where
  sum : Int
  view : Int
  signers : Int
deriving DecidableEq, Inhabited

def encC (c : Cert) : List AV := [.int .i64 c.sum, .int .i64 c.view, .int .i64 c.signers]

/-- The members in a mask: the first i of them. -/
def manyTo (n : Int) : Nat → Int
  | 0 => 0
  | i + 1 => manyTo n i + (n / 2 ^ i) % 2
def many (n : Int) : Int := manyTo n 4

theorem many_stepF : ∀ (a : Fin 16) (i : Fin 4), IntKind.i64.wrap (manyTo (a.val : Int) i.val + (((a.val : Int)).fdiv (2 ^ min i.val 64)).tmod 2) = manyTo (a.val : Int) (i.val + 1) := by decide +kernel
theorem many_step {n : Int} (h : 0 ≤ n ∧ n ≤ 15) {i : Nat} (hi : i < 4) : IntKind.i64.wrap (manyTo n i + (n.fdiv (2 ^ min i 64)).tmod 2) = manyTo n (i + 1) := by
  obtain ⟨a, rfl⟩ : ∃ a : Nat, n = (a : Int) := ⟨n.toNat, by omega⟩
  exact many_stepF ⟨a, by omega⟩ ⟨i, hi⟩

def certValid (c : Cert) : Bool := inB c.sum 0 1000002 && inB c.view 0 1000 && inB c.signers 0 15
def certCounts (c : Cert) : Bool := certValid c && decide (many c.signers ≥ 3)

theorem c_spec_l15Many (n : Int) (h : 0 ≤ n ∧ n ≤ 15) : Det Try.prog 174 [.int .i64 n] (.int .i64 (many n)) := by
  refine fspec_det tab_ok Try.call174 Try.func174 rfl 16 Try.ntmps174 (of_decide_eq_true rfl) fun B => codeK_sound tab_ok _ _ _ ?_
  simp (config := { maxSteps := 4000000 }) only [go_sem, simprocAttr, ↓dnA, Try.f174]
  refine semL_for tab_ok (fun i : Nat => ⟨16, [(0, .int .i64 n), (3, .int .i64 (manyTo n i)), (4, .int .i64 i)], []⟩) (fun i => 4 - i) (fun i => i ≤ 4) 0 [] (Weak.of rfl trivial ?_ rfl) (by omega) ?_
  · simp (config := { maxSteps := 4000000 }) only [go_sem, simprocAttr, ↓dnA, Try.f174, manyTo, frW, wk2, wk1, wkL, wkB, hpW, List.mem_cons, Prod.mk.injEq, exists_eq_left, exists_eq_right, exists_eq]
  · rintro i hi
    by_cases h4 : i < 4
    · have hlt : ((i : Int) < 4) = True := by simp; omega
      simp (config := { maxSteps := 4000000 }) only [go_sem, simprocAttr, ↓dnA, Try.f174, hlt, nn0, many_step h h4]
      refine ⟨i + 1, [], by omega, by dsimp only; omega, Weak.of rfl trivial ?_ rfl⟩
      simp (config := { maxSteps := 4000000 }) only [go_sem, simprocAttr, ↓dnA, Try.f174, wsucc h4 (show 4 < 2 ^ 62 by decide), frW, wk2, wk1, wkL, wkB, hpW, List.mem_cons, Prod.mk.injEq, exists_eq_left, exists_eq_right, exists_eq]
    · have : i = 4 := by omega
      subst this
      simp (config := { maxSteps := 4000000 }) only [go_sem, simprocAttr, ↓dnA, Try.f174]
      rfl

theorem c_impl_isSigners (x : Int) : Det Try.prog 136 [.int .i64 x] (.bool (inB x 0 15)) := by
  refine fspec_det tab_ok Try.call136 Try.func136 rfl 5 Try.ntmps136 (of_decide_eq_true rfl) fun B => codeK_sound tab_ok _ _ _ ?_
  simp (config := { maxSteps := 4000000 }) only [go_sem, simprocAttr, ↓dnA, Try.f136]
  refine CallTo.det (c_in _ _ _) fun _ => ?_
  simp (config := { maxSteps := 4000000 }) only [go_sem, simprocAttr, ↓dnA, Try.f136]

theorem c_OnesCount64 (n : Int) (h : 0 ≤ n ∧ n ≤ 15) : Det Try.prog 201 [.int .u64 n] (.int .i64 (many n)) := by
  refine fspec_det tab_ok Try.call201 Try.func201 rfl 35 Try.ntmps201 (of_decide_eq_true rfl) fun B => codeK_sound tab_ok _ _ _ ?_
  simp (config := { maxSteps := 4000000 }) only [go_sem, simprocAttr, ↓dnA, Try.f201]
  obtain ⟨a, rfl⟩ : ∃ a : Fin 16, n = (a.val : Int) := ⟨⟨n.toNat, by omega⟩, by simp; omega⟩
  clear h
  revert a
  decide +kernel

theorem c_OnesCount (n : Int) (h : 0 ≤ n ∧ n ≤ 15) : Det Try.prog 199 [.int .u64 n] (.int .i64 (many n)) := by
  refine fspec_det tab_ok Try.call199 Try.func199 rfl 8 Try.ntmps199 (of_decide_eq_true rfl) fun B => codeK_sound tab_ok _ _ _ ?_
  simp (config := { maxSteps := 4000000 }) only [go_sem, simprocAttr, ↓dnA, Try.f199]
  refine CallTo.det (c_OnesCount64 n h) fun _ => ?_
  simp (config := { maxSteps := 4000000 }) only [go_sem, simprocAttr, ↓dnA, Try.f199]

theorem c_impl_enough (n : Int) (h : 0 ≤ n ∧ n ≤ 15) : Det Try.prog 197 [.int .i64 n] (.bool (decide (many n ≥ 3))) := by
  refine fspec_det tab_ok Try.call197 Try.func197 rfl 7 Try.ntmps197 (of_decide_eq_true rfl) fun B => codeK_sound tab_ok _ _ _ ?_
  have hw : IntKind.u64.wrap n = n := by
    obtain ⟨a, rfl⟩ : ∃ a : Fin 16, n = (a.val : Int) := ⟨⟨n.toNat, by omega⟩, by simp; omega⟩
    clear h
    revert a
    decide +kernel
  simp (config := { maxSteps := 4000000 }) only [go_sem, simprocAttr, ↓dnA, Try.f197, hw]
  refine CallTo.det (c_OnesCount n h) fun _ => ?_
  simp (config := { maxSteps := 4000000 }) only [go_sem, simprocAttr, ↓dnA, Try.f197]

theorem c_impl_CertValid (c : Cert) : Det Try.prog 196 [.agg (encC c)] (.bool (certValid c)) := by
  refine fspec_det tab_ok Try.call196 Try.func196 rfl 16 Try.ntmps196 (of_decide_eq_true rfl) fun B => codeK_sound tab_ok _ _ _ ?_
  unfold certValid
  simp (config := { maxSteps := 4000000 }) only [go_sem, simprocAttr, ↓dnA, Try.f196, encC]
  refine CallTo.det (c_impl_isSum _) fun _ => ?_
  cases h1 : inB c.sum 0 1000002 with
  | false => simp (config := { maxSteps := 4000000 }) only [go_sem, simprocAttr, ↓dnA, Try.f196, h1]
  | true =>
    simp (config := { maxSteps := 4000000 }) only [go_sem, simprocAttr, ↓dnA, Try.f196, h1]
    refine CallTo.det (c_isView _) fun _ => ?_
    cases h2 : inB c.view 0 1000 with
    | false => simp (config := { maxSteps := 4000000 }) only [go_sem, simprocAttr, ↓dnA, Try.f196, h1, h2]
    | true =>
      simp (config := { maxSteps := 4000000 }) only [go_sem, simprocAttr, ↓dnA, Try.f196, h1, h2]
      refine CallTo.det (c_impl_isSigners _) fun _ => ?_
      simp (config := { maxSteps := 4000000 }) only [go_sem, simprocAttr, ↓dnA, Try.f196, h1, h2]

theorem c_spec_CertValid (c : Cert) : Det Try.prog 173 [.agg (encC c)] (.bool (certValid c)) := by
  refine fspec_det tab_ok Try.call173 Try.func173 rfl 16 Try.ntmps173 (of_decide_eq_true rfl) fun B => codeK_sound tab_ok _ _ _ ?_
  unfold certValid
  simp (config := { maxSteps := 4000000 }) only [go_sem, simprocAttr, ↓dnA, Try.f173, encC]
  refine CallTo.det (c_l1In _ _ _) fun _ => ?_
  cases h1 : inB c.sum 0 1000002 with
  | false => simp (config := { maxSteps := 4000000 }) only [go_sem, simprocAttr, ↓dnA, Try.f173, h1]
  | true =>
    simp (config := { maxSteps := 4000000 }) only [go_sem, simprocAttr, ↓dnA, Try.f173, h1]
    refine CallTo.det (c_l1In _ _ _) fun _ => ?_
    cases h2 : inB c.view 0 1000 with
    | false => simp (config := { maxSteps := 4000000 }) only [go_sem, simprocAttr, ↓dnA, Try.f173, h1, h2]
    | true =>
      simp (config := { maxSteps := 4000000 }) only [go_sem, simprocAttr, ↓dnA, Try.f173, h1, h2]
      refine CallTo.det (c_l1In _ _ _) fun _ => ?_
      simp (config := { maxSteps := 4000000 }) only [go_sem, simprocAttr, ↓dnA, Try.f173, h1, h2]

theorem certValid_sg {c : Cert} (h : certValid c = true) : 0 ≤ c.signers ∧ c.signers ≤ 15 := by
  unfold certValid at h
  rw [Bool.and_eq_true] at h
  exact inB_iff.1 h.2

theorem c_impl_CertCounts (c : Cert) : Det Try.prog 175 [.agg (encC c)] (.bool (certCounts c)) := by
  refine fspec_det tab_ok Try.call175 Try.func175 rfl 10 Try.ntmps175 (of_decide_eq_true rfl) fun B => codeK_sound tab_ok _ _ _ ?_
  unfold certCounts
  simp (config := { maxSteps := 4000000 }) only [go_sem, simprocAttr, ↓dnA, Try.f175, encC]
  refine CallTo.det (c_impl_CertValid c) fun _ => ?_
  cases h1 : certValid c with
  | false => simp (config := { maxSteps := 4000000 }) only [go_sem, simprocAttr, ↓dnA, Try.f175, h1]
  | true =>
    simp (config := { maxSteps := 4000000 }) only [go_sem, simprocAttr, ↓dnA, Try.f175, h1]
    refine CallTo.det (c_impl_enough _ (certValid_sg h1)) fun _ => ?_
    simp (config := { maxSteps := 4000000 }) only [go_sem, simprocAttr, ↓dnA, Try.f175, h1]

theorem c_spec_CertCounts (c : Cert) : Det Try.prog 127 [.agg (encC c)] (.bool (certCounts c)) := by
  refine fspec_det tab_ok Try.call127 Try.func127 rfl 11 Try.ntmps127 (of_decide_eq_true rfl) fun B => codeK_sound tab_ok _ _ _ ?_
  unfold certCounts
  simp (config := { maxSteps := 4000000 }) only [go_sem, simprocAttr, ↓dnA, Try.f127, encC]
  refine CallTo.det (c_spec_CertValid c) fun _ => ?_
  cases h1 : certValid c with
  | false => simp (config := { maxSteps := 4000000 }) only [go_sem, simprocAttr, ↓dnA, Try.f127, h1]
  | true =>
    simp (config := { maxSteps := 4000000 }) only [go_sem, simprocAttr, ↓dnA, Try.f127, h1]
    refine CallTo.det (c_spec_l15Many _ (certValid_sg h1)) fun _ => ?_
    simp (config := { maxSteps := 4000000 }) only [go_sem, simprocAttr, ↓dnA, Try.f127, h1]

/-- The block for which a certificate counts. -/
def certBlock (t : Tree) (c : Cert) : Int :=
  if certCounts c then (if findB t.blocks c.sum < 0 then -1 else if (t.blk (findB t.blocks c.sum).toNat).view = c.view then findB t.blocks c.sum else -1) else -1

theorem c_impl_certBlock (n1 n2 n3 : Option Bool) (t : Tree) (c : Cert) (hx : TreeSz t) : Det Try.prog 129 [.agg (encT n1 n2 n3 t), .agg (encC c)] (.int .i64 (certBlock t c)) := by
  refine fspec_det tab_ok Try.call129 Try.func129 rfl 27 Try.ntmps129 (of_decide_eq_true rfl) fun B => codeK_sound tab_ok _ _ _ ?_
  unfold certBlock encT
  simp (config := { maxSteps := 4000000 }) only [go_sem, simprocAttr, ↓dnA, Try.f129, encC]
  refine CallTo.det (c_impl_CertCounts c) fun _ => ?_
  cases h1 : certCounts c with
  | false => simp (config := { maxSteps := 4000000 }) only [go_sem, simprocAttr, ↓dnA, Try.f129, h1]
  | true =>
    simp (config := { maxSteps := 4000000 }) only [go_sem, simprocAttr, ↓dnA, Try.f129, h1]
    refine CallTo.det (c_impl_find n1 n2 n3 t c.sum hx) fun _ => ?_
    simp (config := { maxSteps := 4000000 }) only [go_sem, simprocAttr, ↓dnA, Try.f129, h1]
    refine semL_draw tab_ok mixed_ rfl (ord := [(0, []), (1, []), (2, []), (3, []), (4, []), (5, []), (6, []), (7, []), (8, []), (9, []), (10, []), (11, []), (12, [])]) (by dsimp only; decide +kernel) ?_
    rcases findB_cases t c.sum with ⟨hf, _⟩ | ⟨i, hi, hf, _⟩
    · simp (config := { maxSteps := 4000000 }) only [go_sem, simprocAttr, ↓dnA, Try.f129, h1, hf]
    · have hd : decide ((i : Int) ≥ 0) = true := by simp
      have hn : ((i : Int) < 0) = False := by simp
      by_cases h2 : (t.blk i).view = c.view
      · have h2' : ((t.blk i).view != c.view) = false := by simp [h2]
        simp (config := { maxSteps := 4000000 }) only [go_sem, simprocAttr, ↓dnA, Try.f129, h1, hf, hd, nn0, nlt hi, rows_length, rows_gd _ _ i hi, Tree.blk, encB1, encBk, hn, h2, h2']
        all_goals (try unfold Tree.blk at h2 h2'); (try simp (config := { maxSteps := 4000000 }) only [go_sem, simprocAttr, ↓dnA, Try.f129, h1, hf, hd, nn0, nlt hi, rows_length, rows_gd _ _ i hi, encB1, encBk, hn, h2, h2'])
      · have h2' : ((t.blk i).view != c.view) = true := by simp [h2]
        simp (config := { maxSteps := 4000000 }) only [go_sem, simprocAttr, ↓dnA, Try.f129, h1, hf, hd, nn0, nlt hi, rows_length, rows_gd _ _ i hi, Tree.blk, encB1, encBk, hn, h2, h2']
        all_goals (try unfold Tree.blk at h2 h2'); (try simp (config := { maxSteps := 4000000 }) only [go_sem, simprocAttr, ↓dnA, Try.f129, h1, hf, hd, nn0, nlt hi, rows_length, rows_gd _ _ i hi, encB1, encBk, hn, h2, h2'])

end Go.Proofs.Ytdaemhaecjldaaa

/- Contracts: worlds, and when they are valid. -/
set_option linter.unusedSimpArgs false
set_option linter.unusedVariables false
set_option maxRecDepth 20000
set_option maxHeartbeats 4000000
namespace Go.Proofs.Ytdaemhaecjldaaa
open Go Go.RowKit

structure Wld where
  tree : Tree
  voters : List Voter
  votes : List Int
deriving DecidableEq, Inhabited

def encW (n1 n2 n3 n4 n5 : Option Bool) (w : Wld) : List AV :=
  [.sl n1 (rows encE w.tree.base), .sl n2 (rows encB1 w.tree.blocks), .sl n3 (rows encI w.tree.before), .sl n4 (rows encV w.voters), .sl n5 (rows encI w.votes)]
def encWO (w : Wld) : List AV :=
  [.osl true 2 (rows encE w.tree.base), .osl true 6 (rows encB1 w.tree.blocks), .osl true 1 (rows encI w.tree.before), .osl true 2 (rows encV w.voters), .osl true 1 (rows encI w.votes)]

structure WldSz (w : Wld) : Prop where
  tree : TreeSz w.tree
  voters : w.voters.length < 2 ^ 62
  votes : w.votes.length < 2 ^ 62

def voterOk (v : Voter) : Bool := voterValid v.last v.lock
noncomputable def worldValid (w : Wld) : Bool := ((((treeValid w.tree && decide (w.voters.length = 4)) && w.voters.all voterOk) && decide (w.votes.length = w.tree.blocks.length)) && w.votes.all fun n => inB n 0 15)

theorem c_impl_WorldValid1 (v : Voter) : Det Try.prog 133 [.agg (encV v)] (.bool (!voterOk v)) := by
  refine fspec_det tab_ok Try.call133 Try.func133 rfl 6 Try.ntmps133 (of_decide_eq_true rfl) fun B => codeK_sound tab_ok _ _ _ ?_
  simp (config := { maxSteps := 4000000 }) only [go_sem, simprocAttr, ↓dnA, Try.f133, encV]
  refine CallTo.det (c_impl_VoterValid _ _) fun _ => ?_
  simp (config := { maxSteps := 4000000 }) only [go_sem, simprocAttr, ↓dnA, Try.f133, encV, voterOk]

theorem c_impl_WorldValid2 (n : Int) : Det Try.prog 135 [.int .i64 n] (.bool (!inB n 0 15)) := by
  refine fspec_det tab_ok Try.call135 Try.func135 rfl 6 Try.ntmps135 (of_decide_eq_true rfl) fun B => codeK_sound tab_ok _ _ _ ?_
  simp (config := { maxSteps := 4000000 }) only [go_sem, simprocAttr, ↓dnA, Try.f135]
  refine CallTo.det (c_impl_isSigners _) fun _ => ?_
  simp (config := { maxSteps := 4000000 }) only [go_sem, simprocAttr, ↓dnA, Try.f135]

theorem c_slices_IndexFunc_Voter (n1 : Option Bool) (xs : List Voter) (k : FuncId) (p : Voter → Bool) (hx : xs.length < 2 ^ 62) (hm : mutB k = false) (hp : ∀ x, x ∈ xs → Det Try.prog k [.agg (encV x)] (.bool (p x))) :
    Det Try.prog 176 [.sl n1 (rows encV xs), .fn k []] (.int .i64 (idxF p xs 0)) := by
  simp only [mutB] at hm
  refine fspec_det tab_ok Try.call176 Try.func176 rfl 19 Try.ntmps176 (of_decide_eq_true rfl) fun B => codeK_sound tab_ok _ _ _ ?_
  simp (config := { maxSteps := 4000000 }) only [go_sem, simprocAttr, ↓dnA, Try.f176, rows_length, hm]
  refine semL_for tab_ok (fun i : Nat => ⟨19, [(0, .sl n1 (rows encV xs)), (1, .fn k []), (7, .int .i64 xs.length), (8, .int .i64 i)], []⟩) (fun i => xs.length - i)
    (fun i => i ≤ xs.length ∧ idxF p (xs.drop i) i = idxF p xs 0) 0 [] (Weak.of rfl trivial ?_ rfl) ⟨by omega, rfl⟩ ?_
  · simp (config := { maxSteps := 4000000 }) only [go_sem, simprocAttr, ↓dnA, Try.f176, frW, wk2, wk1, wkL, wkB, hpW, List.mem_cons, Prod.mk.injEq, exists_eq_left, exists_eq_right, exists_eq]
  · rintro i ⟨hi, hp'⟩
    by_cases h : i < xs.length
    · simp (config := { maxSteps := 4000000 }) only [go_sem, simprocAttr, ↓dnA, Try.f176, rows_length, rows_get _ _ _ h, encV, nlt h, nn0, hm]
      refine CallTo.det (hp _ (List.getElem_mem h)) fun _ => ?_
      rw [drop_cons xs i h] at hp'
      simp (config := { maxSteps := 4000000 }) only [go_sem, simprocAttr, ↓dnA, Try.f176, rows_length, rows_get _ _ _ h, encV, nlt h, hm]
      refine ⟨fun h => ?_, fun h' => ?_⟩
      · rw [← hp']; simp [idxF, h]
      · refine ⟨i + 1, [], ⟨by omega, ?_⟩, by dsimp only; omega, Weak.of rfl trivial ?_ rfl⟩
        · rw [← hp']; simp [idxF, h']
        · simp (config := { maxSteps := 4000000 }) only [go_sem, simprocAttr, ↓dnA, Try.f176, wsucc h hx, frW, wk2, wk1, wkL, wkB, hpW, List.mem_cons, Prod.mk.injEq, exists_eq_left, exists_eq_right, exists_eq]
    · have : i = xs.length := by omega
      subst this
      rw [List.drop_length] at hp'
      simp (config := { maxSteps := 4000000 }) only [go_sem, simprocAttr, ↓dnA, Try.f176, nlf h, hm]
      rw [← hp']
      rfl

theorem c_slices_ContainsFunc_Voter (n1 : Option Bool) (xs : List Voter) (k : FuncId) (p : Voter → Bool) (hx : xs.length < 2 ^ 62) (hm : mutB k = false) (hp : ∀ x, x ∈ xs → Det Try.prog k [.agg (encV x)] (.bool (p x))) :
    Det Try.prog 132 [.sl n1 (rows encV xs), .fn k []] (.bool (xs.any p)) := by
  refine fspec_det tab_ok Try.call132 Try.func132 rfl 9 Try.ntmps132 (of_decide_eq_true rfl) fun B => codeK_sound tab_ok _ _ _ ?_
  simp (config := { maxSteps := 4000000 }) only [go_sem, simprocAttr, ↓dnA, Try.f132]
  refine CallTo.det (c_slices_IndexFunc_Voter _ _ _ _ hx hm hp) fun _ => ?_
  simp (config := { maxSteps := 4000000 }) only [go_sem, simprocAttr, ↓dnA, Try.f132, idxF_any]


theorem eqN (a b : Nat) : (((a : Int)) == (b : Int)) = decide (a = b) := by
  rw [Bool.eq_iff_iff]; simp; omega

theorem eqN4 (a : Nat) : (((a : Int)) == 4) = decide (a = 4) := by
  rw [Bool.eq_iff_iff]; simp; omega

theorem c_impl_WorldValid (n1 n2 n3 n4 n5 : Option Bool) (w : Wld) (hx : WldSz w) : Det Try.prog 70 [.agg (encW n1 n2 n3 n4 n5 w)] (.bool (worldValid w)) := by
  refine fspec_det tab_ok Try.call70 Try.func70 rfl 34 Try.ntmps70 (of_decide_eq_true rfl) fun B => codeK_sound tab_ok _ _ _ ?_
  unfold worldValid
  have e1 : w.voters.any (fun v => !voterOk v) = !w.voters.all voterOk := any_not _ _
  have e2 : w.votes.any (fun n => !inB n 0 15) = !w.votes.all fun n => inB n 0 15 := any_not _ _
  simp (config := { maxSteps := 4000000 }) only [go_sem, simprocAttr, ↓dnA, Try.f70, encW]
  refine CallTo.det (c_impl_BlockTreeValid n1 n2 n3 w.tree hx.tree) fun _ => ?_
  cases h1 : treeValid w.tree with
  | false => simp (config := { maxSteps := 4000000 }) only [go_sem, simprocAttr, ↓dnA, Try.f70, h1]
  | true =>
    cases h2 : decide (w.voters.length = 4) with
    | false => simp (config := { maxSteps := 4000000 }) only [go_sem, simprocAttr, ↓dnA, Try.f70, h1, rows_length, eqN4, h2]
    | true =>
      simp (config := { maxSteps := 4000000 }) only [go_sem, simprocAttr, ↓dnA, Try.f70, h1, rows_length, eqN4, h2]
      refine CallTo.det (c_slices_ContainsFunc_Voter n4 w.voters _ _ hx.voters rfl fun v _ => c_impl_WorldValid1 v) fun _ => ?_
      cases h3 : w.voters.all voterOk with
      | false => simp (config := { maxSteps := 4000000 }) only [go_sem, simprocAttr, ↓dnA, Try.f70, h1, rows_length, eqN4, h2, e1, h3]
      | true =>
        cases h4 : decide (w.votes.length = w.tree.blocks.length) with
        | false => simp (config := { maxSteps := 4000000 }) only [go_sem, simprocAttr, ↓dnA, Try.f70, h1, rows_length, eqN4, h2, e1, h3, eqN, h4]
        | true =>
          simp (config := { maxSteps := 4000000 }) only [go_sem, simprocAttr, ↓dnA, Try.f70, h1, rows_length, eqN4, h2, e1, h3, eqN, h4]
          refine CallTo.det (c_slices_ContainsFunc_int n5 w.votes _ _ hx.votes rfl fun v _ => c_impl_WorldValid2 v) fun _ => ?_
          simp (config := { maxSteps := 4000000 }) only [go_sem, simprocAttr, ↓dnA, Try.f70, h1, rows_length, eqN4, h2, e1, h3, eqN, h4, e2, Bool.not_not]

theorem c_spec_WorldValid (n1 n2 n3 n4 n5 : Option Bool) (w : Wld) (hx : WldSz w) : Det Try.prog 68 [.agg (encW n1 n2 n3 n4 n5 w)] (.bool (worldValid w)) := by
  refine fspec_det tab_ok Try.call68 Try.func68 rfl 52 Try.ntmps68 (of_decide_eq_true rfl) fun B => codeK_sound tab_ok _ _ _ ?_
  have hf1 : w.voters.all voterOk = false → worldValid w = false := fun h => by unfold worldValid; rw [h]; simp
  have hf2 : w.votes.all (fun n => inB n 0 15) = false → worldValid w = false := fun h => by unfold worldValid; rw [h]; simp
  simp (config := { maxSteps := 4000000 }) only [go_sem, simprocAttr, ↓dnA, Try.f68, encW]
  refine semL_for tab_ok (fun i : Nat => ⟨52, [(1, .loc 1 0), (3, .int .i64 i)], [(1, .var (encW n1 n2 n3 n4 n5 w))]⟩) (fun i => w.voters.length - i)
    (fun i => i ≤ w.voters.length ∧ (w.voters.drop i).all voterOk = w.voters.all voterOk) 0 [(1, 1)] (Weak.of (by rfl) ?_ ?_ (by rfl)) ⟨by omega, rfl⟩ ?_
  · simp (config := { maxSteps := 4000000 }) only [go_sem, simprocAttr, ↓dnA, Try.f68, encW, frW, wk2, wk1, wkL, wkB, hpW, List.mem_cons, Prod.mk.injEq, exists_eq_left, exists_eq_right, exists_eq]
  · simp (config := { maxSteps := 4000000 }) only [go_sem, simprocAttr, ↓dnA, Try.f68, encW, frW, wk2, wk1, wkL, wkB, hpW, List.mem_cons, Prod.mk.injEq, exists_eq_left, exists_eq_right, exists_eq]
  rintro i ⟨hi, hp⟩
  by_cases h : i < w.voters.length
  · rw [drop_cons w.voters i h, List.all_cons] at hp
    simp (config := { maxSteps := 4000000 }) only [go_sem, simprocAttr, ↓dnA, Try.f68, encW, rows_length, rows_get _ _ _ h, encV, nlt h, nn0]
    refine CallTo.det (c_spec_VoterValid _ _) fun _ => ?_
    cases h1 : voterOk w.voters[i] with
    | false =>
      rw [h1, Bool.false_and] at hp
      have h1' : voterValid w.voters[i].last w.voters[i].lock = false := h1
      simp (config := { maxSteps := 4000000 }) only [go_sem, simprocAttr, ↓dnA, Try.f68, h1', hf1 hp.symm]
    | true =>
      rw [h1, Bool.true_and] at hp
      have h1' : voterValid w.voters[i].last w.voters[i].lock = true := h1
      simp (config := { maxSteps := 4000000 }) only [go_sem, simprocAttr, ↓dnA, Try.f68, h1']
      refine ⟨i + 1, [(1, 1)], ⟨by omega, hp⟩, by dsimp only; omega, Weak.of (by rfl) ?_ ?_ (by rfl)⟩
      · simp (config := { maxSteps := 4000000 }) only [go_sem, simprocAttr, ↓dnA, Try.f68, encW, frW, wk2, wk1, wkL, wkB, hpW, List.mem_cons, Prod.mk.injEq, exists_eq_left, exists_eq_right, exists_eq]
      · simp (config := { maxSteps := 4000000 }) only [go_sem, simprocAttr, ↓dnA, Try.f68, encW, wsucc h hx.voters, frW, wk2, wk1, wkL, wkB, hpW, List.mem_cons, Prod.mk.injEq, exists_eq_left, exists_eq_right, exists_eq]
  have hi' : i = w.voters.length := by omega
  subst hi'
  simp only [List.drop_length, List.all_nil] at hp
  simp (config := { maxSteps := 4000000 }) only [go_sem, simprocAttr, ↓dnA, Try.f68, encW, rows_length, nlf h]
  refine semL_for tab_ok (fun i : Nat => ⟨52, [(1, .loc 1 0), (4, .int .i64 i)], [(1, .var (encW n1 n2 n3 n4 n5 w))]⟩) (fun i => w.votes.length - i)
    (fun i => i ≤ w.votes.length ∧ (w.votes.drop i).all (fun n => inB n 0 15) = w.votes.all fun n => inB n 0 15) 0 [(1, 1)] (Weak.of (by rfl) ?_ ?_ (by rfl)) ⟨by omega, rfl⟩ ?_
  · simp (config := { maxSteps := 4000000 }) only [go_sem, simprocAttr, ↓dnA, Try.f68, encW, frW, wk2, wk1, wkL, wkB, hpW, List.mem_cons, Prod.mk.injEq, exists_eq_left, exists_eq_right, exists_eq]
  · simp (config := { maxSteps := 4000000 }) only [go_sem, simprocAttr, ↓dnA, Try.f68, encW, frW, wk2, wk1, wkL, wkB, hpW, List.mem_cons, Prod.mk.injEq, exists_eq_left, exists_eq_right, exists_eq]
  rintro i ⟨hi, hq⟩
  by_cases h : i < w.votes.length
  · rw [drop_cons w.votes i h, List.all_cons] at hq
    simp (config := { maxSteps := 4000000 }) only [go_sem, simprocAttr, ↓dnA, Try.f68, encW, rows_length, rows_get _ _ _ h, encI, nlt h, nn0]
    refine CallTo.det (c_l1In _ _ _) fun _ => ?_
    cases h1 : inB w.votes[i] 0 15 with
    | false =>
      rw [h1, Bool.false_and] at hq
      simp (config := { maxSteps := 4000000 }) only [go_sem, simprocAttr, ↓dnA, Try.f68, h1, hf2 hq.symm]
    | true =>
      rw [h1, Bool.true_and] at hq
      simp (config := { maxSteps := 4000000 }) only [go_sem, simprocAttr, ↓dnA, Try.f68, h1]
      refine ⟨i + 1, [(1, 1)], ⟨by omega, hq⟩, by dsimp only; omega, Weak.of (by rfl) ?_ ?_ (by rfl)⟩
      · simp (config := { maxSteps := 4000000 }) only [go_sem, simprocAttr, ↓dnA, Try.f68, encW, frW, wk2, wk1, wkL, wkB, hpW, List.mem_cons, Prod.mk.injEq, exists_eq_left, exists_eq_right, exists_eq]
      · simp (config := { maxSteps := 4000000 }) only [go_sem, simprocAttr, ↓dnA, Try.f68, encW, wsucc h hx.votes, frW, wk2, wk1, wkL, wkB, hpW, List.mem_cons, Prod.mk.injEq, exists_eq_left, exists_eq_right, exists_eq]
  have hi' : i = w.votes.length := by omega
  subst hi'
  simp only [List.drop_length, List.all_nil] at hq
  have hw : worldValid w = ((treeValid w.tree && decide (w.voters.length = 4)) && decide (w.votes.length = w.tree.blocks.length)) := by
    unfold worldValid; rw [← hp, ← hq]; simp
  rw [hw]
  simp (config := { maxSteps := 4000000 }) only [go_sem, simprocAttr, ↓dnA, Try.f68, encW, rows_length, nlf h]
  refine CallTo.det (c_spec_BlockTreeValid n1 n2 n3 w.tree hx.tree) fun _ => ?_
  cases h1 : treeValid w.tree with
  | false => simp (config := { maxSteps := 4000000 }) only [go_sem, simprocAttr, ↓dnA, Try.f68, encW, h1]
  | true =>
    cases h2 : decide (w.voters.length = 4) with
    | false => simp (config := { maxSteps := 4000000 }) only [go_sem, simprocAttr, ↓dnA, Try.f68, encW, h1, rows_length, eqN4, h2]
    | true => simp (config := { maxSteps := 4000000 }) only [go_sem, simprocAttr, ↓dnA, Try.f68, encW, h1, rows_length, eqN4, h2, eqN]

end Go.Proofs.Ytdaemhaecjldaaa

/- Contracts: FnExactWorldValid. -/
set_option linter.unusedSimpArgs false
set_option linter.unusedVariables false
set_option maxRecDepth 20000
set_option maxHeartbeats 4000000
namespace Go.Proofs.Ytdaemhaecjldaaa
open Go Go.RowKit

structure WldLen (w : Wld) : Prop where
  tree : TreeLen w.tree
  voters : w.voters.length ≤ 9223372036854775807
  votes : w.votes.length ≤ 9223372036854775807

/-- How much a world is. -/
def wsz (w : Wld) : Nat := tsz w.tree + w.voters.length + w.votes.length
structure WldS32 (w : Wld) : Prop where
  sum : wsz w ≤ 1048576
theorem WldS32.tree {w : Wld} (h : WldS32 w) : TreeS32 w.tree := ⟨by have := h.sum; unfold wsz at this; omega⟩
theorem WldS32.voters {w : Wld} (h : WldS32 w) : w.voters.length < 2 ^ 32 := by have := h.sum; unfold wsz at this; omega
theorem WldS32.votes {w : Wld} (h : WldS32 w) : w.votes.length < 2 ^ 32 := by have := h.sum; unfold wsz at this; omega

theorem WldS32.sz {w : Wld} (h : WldS32 w) : WldSz w := ⟨h.tree.sz, by have := h.voters; omega, by have := h.votes; omega⟩

theorem c_laws_szVoterS (n1 : Option Bool) (xs : List Voter) (left : Int) (hx : xs.length ≤ 9223372036854775807) (hl : 0 ≤ left ∧ left ≤ 1048576) : Det Try.prog 130 [.sl n1 (rows encV xs), .int .i64 left] (.int .i64 (szI left xs.length)) := by
  refine fspec_det tab_ok Try.call130 Try.func130 rfl 12 Try.ntmps130 (of_decide_eq_true rfl) fun B => codeK_sound tab_ok _ _ _ ?_
  have hw : IntKind.i64.wrap (left - (xs.length : Int)) = left - xs.length := wrap_small _ (by omega) (by omega)
  by_cases h : left - (xs.length : Int) < 0
  · simp (config := { maxSteps := 4000000 }) only [go_sem, simprocAttr, ↓dnA, Try.f130, rows_length, hw, decide_eq_true h, szI, h]
  · simp (config := { maxSteps := 4000000 }) only [go_sem, simprocAttr, ↓dnA, Try.f130, rows_length, hw, decide_eq_false h, szI, h]

theorem c_laws_szWorld (n1 n2 n3 n4 n5 : Option Bool) (w : Wld) (left : Int) (hx : WldLen w) (hl : 0 ≤ left ∧ left ≤ 1048576) :
    ∃ r : Int, Det Try.prog 67 [.agg (encW n1 n2 n3 n4 n5 w), .int .i64 left] (.int .i64 r) ∧ r ≤ 1048576 ∧ (0 ≤ r → WldS32 w) ∧ (0 ≤ r → r + (wsz w : Int) = left) := by
  obtain ⟨r, hr, hr1, _, hr2⟩ := c_laws_szBlockTree n1 n2 n3 w.tree left hx.tree hl
  by_cases g1 : r < 0
  · refine ⟨-1, ?_, by omega, by omega, by omega⟩
    refine fspec_det tab_ok Try.call67 Try.func67 rfl 24 Try.ntmps67 (of_decide_eq_true rfl) fun B => codeK_sound tab_ok _ _ _ ?_
    simp (config := { maxSteps := 4000000 }) only [go_sem, simprocAttr, ↓dnA, Try.f67, encW]
    refine CallTo.det hr fun _ => ?_
    simp (config := { maxSteps := 4000000 }) only [go_sem, simprocAttr, ↓dnA, Try.f67, encW, decide_eq_true g1]
  · have hb1 := szI_bd (n := w.voters.length) hr1
    by_cases g2 : szI r w.voters.length < 0
    · refine ⟨-1, ?_, by omega, by omega, by omega⟩
      refine fspec_det tab_ok Try.call67 Try.func67 rfl 24 Try.ntmps67 (of_decide_eq_true rfl) fun B => codeK_sound tab_ok _ _ _ ?_
      simp (config := { maxSteps := 4000000 }) only [go_sem, simprocAttr, ↓dnA, Try.f67, encW]
      refine CallTo.det hr fun _ => ?_
      simp (config := { maxSteps := 4000000 }) only [go_sem, simprocAttr, ↓dnA, Try.f67, encW, decide_eq_false g1]
      refine CallTo.det (c_laws_szVoterS _ _ r hx.voters ⟨by omega, hr1⟩) fun _ => ?_
      simp (config := { maxSteps := 4000000 }) only [go_sem, simprocAttr, ↓dnA, Try.f67, encW, decide_eq_true g2]
    · have hb2 := szI_bd (n := w.votes.length) hb1.1
      have hall : ∀ c : Bool, decide (szI (szI r w.voters.length) w.votes.length < 0) = c → Det Try.prog 67 [.agg (encW n1 n2 n3 n4 n5 w), .int .i64 left] (.int .i64 (if c then -1 else szI (szI r w.voters.length) w.votes.length)) := by
        intro c hc
        refine fspec_det tab_ok Try.call67 Try.func67 rfl 24 Try.ntmps67 (of_decide_eq_true rfl) fun B => codeK_sound tab_ok _ _ _ ?_
        simp (config := { maxSteps := 4000000 }) only [go_sem, simprocAttr, ↓dnA, Try.f67, encW]
        refine CallTo.det hr fun _ => ?_
        simp (config := { maxSteps := 4000000 }) only [go_sem, simprocAttr, ↓dnA, Try.f67, encW, decide_eq_false g1]
        refine CallTo.det (c_laws_szVoterS _ _ r hx.voters ⟨by omega, hr1⟩) fun _ => ?_
        simp (config := { maxSteps := 4000000 }) only [go_sem, simprocAttr, ↓dnA, Try.f67, encW, decide_eq_false g2]
        refine CallTo.det (c_laws_szIntS _ _ _ hx.votes ⟨by omega, hb1.1⟩) fun _ => ?_
        cases c with
        | false => simp (config := { maxSteps := 4000000 }) only [go_sem, simprocAttr, ↓dnA, Try.f67, encW, hc]
        | true => simp (config := { maxSteps := 4000000 }) only [go_sem, simprocAttr, ↓dnA, Try.f67, encW, hc]
      by_cases g3 : szI (szI r w.voters.length) w.votes.length < 0
      · exact ⟨-1, hall true (decide_eq_true g3), by omega, by omega, by omega⟩
      · have hsum : szI (szI r w.voters.length) w.votes.length + (wsz w : Int) = left := by
          have e0 := hr2 (by omega)
          have e1 := szI_eq (left := r) (n := w.voters.length) (by omega)
          have e2 := szI_eq (left := szI r w.voters.length) (n := w.votes.length) (by omega)
          unfold wsz; omega
        exact ⟨_, hall false (decide_eq_false g3), hb2.1, fun _ => ⟨by omega⟩, fun _ => hsum⟩

theorem c_laws_toVoterS (n1 : Option Bool) (xs : List Voter) (hx : xs.length < 2 ^ 32) :
    Det Try.prog 131 [.sl n1 (rows encV xs)] (.osl true 2 (rows encV xs)) := by
  refine fspec_det tab_ok Try.call131 Try.func131 rfl 23 Try.ntmps131 (of_decide_eq_true rfl) fun B => codeK_sound tab_ok _ _ _ ?_
  have hx62 : xs.length < 2 ^ 62 := by omega
  simp (config := { maxSteps := 4000000 }) only [go_sem, simprocAttr, ↓dnA, Try.f131, rows_length]
  repeat refine And.intro (by first | omega | (simp; done) | (simp; omega) | assumption) ?_
  refine semL_for tab_ok (fun i : Nat => ⟨23, [(0, .sl n1 (rows encV xs)), (3, .row 7 xs.length), (4, .int .i64 i)], [(7, .row true true 2 (rows encV (xs.take i ++ List.replicate (xs.length - i) (⟨0, 0⟩ : Voter))))]⟩) (fun i => xs.length - i)
    (fun i => i ≤ xs.length) 0 [(7, 7)] (Weak.of (by rfl) ?_ ?_ (by rfl)) (by omega) ?_
  · simp (config := { maxSteps := 4000000 }) only [go_sem, simprocAttr, ↓dnA, Try.f131, frW, wk2, wk1, wkL, wkB, hpW, List.mem_cons, Prod.mk.injEq, exists_eq_left, exists_eq_right, exists_eq]
    simp [rows, encV, encBk]
  · simp (config := { maxSteps := 4000000 }) only [go_sem, simprocAttr, ↓dnA, Try.f131, frW, wk2, wk1, wkL, wkB, hpW, List.mem_cons, Prod.mk.injEq, exists_eq_left, exists_eq_right, exists_eq]
  · rintro i hi
    by_cases h : i < xs.length
    · have hm : i < (xs.take i ++ List.replicate (xs.length - i) (⟨0, 0⟩ : Voter)).length := by simp; omega
      simp (config := { maxSteps := 4000000 }) only [go_sem, simprocAttr, ↓dnA, Try.f131, rows_length, rows_get _ _ _ h, encV, encBk, nlt h, nn0]
      refine CallTo.det (c_laws_toVoter xs[i].last xs[i].lock) fun _ => ?_
      simp (config := { maxSteps := 4000000 }) only [go_sem, simprocAttr, ↓dnA, Try.f131, rows_length, rows_get _ _ _ h, rows_get _ _ _ hm, hm, encV, encBk, encBkO, nlt h, nn0, wsucc h hx62]
      repeat refine And.intro (by first | omega | (simp; done) | (simp; omega) | assumption) ?_
      refine ⟨i + 1, [(7, 7)], by omega, by dsimp only; omega, Weak.of (by rfl) ?_ ?_ (by rfl)⟩
      · simp (config := { maxSteps := 4000000 }) only [go_sem, simprocAttr, ↓dnA, Try.f131, frW, wk2, wk1, wkL, wkB, hpW, List.mem_cons, Prod.mk.injEq, exists_eq_left, exists_eq_right, exists_eq]
        first
          | done
          | (refine (congrArg (rows encV) (fill_step xs (⟨0, 0⟩ : Voter) (⟨0, 0⟩ : Voter) i h)).symm.trans ?_; rw [← rows_set, getD_at _ _ _ h]; rfl)
      · simp (config := { maxSteps := 4000000 }) only [go_sem, simprocAttr, ↓dnA, Try.f131, wsucc h hx62, frW, wk2, wk1, wkL, wkB, hpW, List.mem_cons, Prod.mk.injEq, exists_eq_left, exists_eq_right, exists_eq]
    · have : i = xs.length := by omega
      subst this
      simp (config := { maxSteps := 4000000 }) only [go_sem, simprocAttr, ↓dnA, Try.f131, rows_length, nlf h]
      simp


theorem c_laws_toWorld (n1 n2 n3 n4 n5 : Option Bool) (w : Wld) (hx : WldS32 w) : Det Try.prog 69 [.agg (encW n1 n2 n3 n4 n5 w)] (.agg (encWO w)) := by
  refine fspec_det tab_ok Try.call69 Try.func69 rfl 17 Try.ntmps69 (of_decide_eq_true rfl) fun B => codeK_sound tab_ok _ _ _ ?_
  simp (config := { maxSteps := 4000000 }) only [go_sem, simprocAttr, ↓dnA, Try.f69, encW, encWO, encTO, rows_length, encW, encWO]
  refine CallTo.det (c_laws_toBlockTree n1 n2 n3 w.tree hx.tree) fun _ => ?_
  simp (config := { maxSteps := 4000000 }) only [go_sem, simprocAttr, ↓dnA, Try.f69, encW, encWO, encTO, rows_length, rows_length, encTO]
  refine CallTo.det (c_laws_toVoterS _ _ hx.voters) fun _ => ?_
  simp (config := { maxSteps := 4000000 }) only [go_sem, simprocAttr, ↓dnA, Try.f69, encW, encWO, encTO, rows_length, rows_length]
  refine CallTo.det (c_laws_toIntS _ _ hx.votes) fun _ => ?_
  simp (config := { maxSteps := 4000000 }) only [go_sem, simprocAttr, ↓dnA, Try.f69, encW, encWO, encTO, rows_length, rows_length]
  try simp

theorem c_laws_eqVoterS (n1 n2 : Option Bool) (xs ys : List Voter) (hx : xs.length < 2 ^ 62) (hy : ys.length < 2 ^ 62)  :
    Det Try.prog 137 [.sl n1 (rows encV xs), .sl n2 (rows encV ys)] (.bool (decide (xs = ys))) := by
  refine fspec_det tab_ok Try.call137 Try.func137 rfl 27 Try.ntmps137 (of_decide_eq_true rfl) fun B => codeK_sound tab_ok _ _ _ ?_
  by_cases hl : xs.length = ys.length
  · have hd : (((xs.length : Int) != (ys.length : Int))) = false := by simp [hl]
    simp (config := { maxSteps := 4000000 }) only [go_sem, simprocAttr, ↓dnA, Try.f137, rows_length, hd]
    refine semL_for tab_ok (fun i : Nat => ⟨27, [(0, .sl n1 (rows encV xs)), (1, .sl n2 (rows encV ys)), (5, .int .i64 i)], []⟩) (fun i => xs.length - i)
      (fun i => i ≤ xs.length ∧ decide (xs.drop i = ys.drop i) = decide (xs = ys)) 0 [] (Weak.of (by rfl) trivial ?_ (by rfl)) ⟨by omega, rfl⟩ ?_
    · simp (config := { maxSteps := 4000000 }) only [go_sem, simprocAttr, ↓dnA, Try.f137, rows_length, frW, wk2, wk1, wkL, wkB, hpW, List.mem_cons, Prod.mk.injEq, exists_eq_left, exists_eq_right, exists_eq]
    · rintro i ⟨hi, hp⟩
      by_cases h : i < xs.length
      · have h2 : i < ys.length := by omega
        rw [eq_drop xs ys i hl h] at hp
        simp (config := { maxSteps := 4000000 }) only [go_sem, simprocAttr, ↓dnA, Try.f137, rows_length, nlt h]
        refine semL_draw tab_ok mixed_ rfl (ord := [(0, []), (1, []), (2, []), (3, []), (4, []), (5, []), (6, []), (7, []), (8, []), (9, [])]) (by dsimp only; decide +kernel) ?_
        simp (config := { maxSteps := 4000000 }) only [go_sem, simprocAttr, ↓dnA, Try.f137, rows_length, rows_get _ _ _ h, rows_get _ _ _ h2, encV, encBk, nn0, nlt h, nlt h2]
        refine CallTo.det (c_laws_eqVoter xs[i] ys[i]) fun _ => ?_
        cases he : decide (xs[i] = ys[i]) with
        | false =>
          have he' : decide (xs[i] = ys[i]) = false := he
          rw [he', Bool.false_and] at hp
          simp (config := { maxSteps := 4000000 }) only [go_sem, simprocAttr, ↓dnA, Try.f137, rows_length, rows_get _ _ _ h, rows_get _ _ _ h2, encV, encBk, nn0, nlt h, nlt h2, he, ← hp]
        | true =>
          have he' : decide (xs[i] = ys[i]) = true := he
          rw [he', Bool.true_and] at hp
          simp (config := { maxSteps := 4000000 }) only [go_sem, simprocAttr, ↓dnA, Try.f137, rows_length, rows_get _ _ _ h, rows_get _ _ _ h2, encV, encBk, nn0, nlt h, nlt h2, he]
          refine ⟨i + 1, [], ⟨by omega, hp⟩, by dsimp only; omega, Weak.of (by rfl) trivial ?_ (by rfl)⟩
          simp (config := { maxSteps := 4000000 }) only [go_sem, simprocAttr, ↓dnA, Try.f137, wsucc h hx, frW, wk2, wk1, wkL, wkB, hpW, List.mem_cons, Prod.mk.injEq, exists_eq_left, exists_eq_right, exists_eq]
      · have : i = xs.length := by omega
        subst this
        rw [List.drop_length, List.drop_of_length_le (by omega)] at hp
        simp (config := { maxSteps := 4000000 }) only [go_sem, simprocAttr, ↓dnA, Try.f137, rows_length, nlf h, ← hp]
  · have hd : (((xs.length : Int) != (ys.length : Int))) = true := by simp; omega
    have hne : xs ≠ ys := fun e => hl (by rw [e])
    simp (config := { maxSteps := 4000000 }) only [go_sem, simprocAttr, ↓dnA, Try.f137, rows_length, hd, decide_eq_false hne]


theorem c_laws_eqWorld (n1 n2 n3 n4 n5 m1 m2 m3 m4 m5 : Option Bool) (t u : Wld) (hx : WldSz t) (hy : WldSz u) : Det Try.prog 71 [.agg (encW n1 n2 n3 n4 n5 t), .agg (encW m1 m2 m3 m4 m5 u)] (.bool (decide (t = u))) := by
  refine fspec_det tab_ok Try.call71 Try.func71 rfl 23 Try.ntmps71 (of_decide_eq_true rfl) fun B => codeK_sound tab_ok _ _ _ ?_
  have he : decide (t = u) = (decide (t.tree = u.tree) && (decide (t.voters = u.voters) && decide (t.votes = u.votes))) := by
    obtain ⟨a, b, c⟩ := t
    obtain ⟨d, e, f⟩ := u
    rw [Bool.eq_iff_iff]
    simp only [Bool.and_eq_true, decide_eq_true_eq, Wld.mk.injEq]
  rw [he]
  simp (config := { maxSteps := 4000000 }) only [go_sem, simprocAttr, ↓dnA, Try.f71, encW]
  refine CallTo.det (c_laws_eqBlockTree _ _ _ _ _ _ t.tree u.tree hx.tree hy.tree) fun _ => ?_
  cases h1 : decide (t.tree = u.tree) with
  | false => simp (config := { maxSteps := 4000000 }) only [go_sem, simprocAttr, ↓dnA, Try.f71, encW, h1]
  | true =>
    simp (config := { maxSteps := 4000000 }) only [go_sem, simprocAttr, ↓dnA, Try.f71, encW, h1]
    refine CallTo.det (c_laws_eqVoterS _ _ _ _ hx.voters hy.voters) fun _ => ?_
    cases h2 : decide (t.voters = u.voters) with
    | false => simp (config := { maxSteps := 4000000 }) only [go_sem, simprocAttr, ↓dnA, Try.f71, encW, h1, h2]
    | true =>
      simp (config := { maxSteps := 4000000 }) only [go_sem, simprocAttr, ↓dnA, Try.f71, encW, h1, h2]
      refine CallTo.det (c_laws_eqIntS _ _ _ _ hx.votes hy.votes) fun _ => ?_
      cases h3 : decide (t.votes = u.votes) with
      | false => simp (config := { maxSteps := 4000000 }) only [go_sem, simprocAttr, ↓dnA, Try.f71, encW, h1, h2, h3]
      | true => simp (config := { maxSteps := 4000000 }) only [go_sem, simprocAttr, ↓dnA, Try.f71, encW, h1, h2, h3]

end Go.Proofs.Ytdaemhaecjldaaa

/- Contracts: FnExactWorldValid. -/
set_option linter.unusedSimpArgs false
set_option linter.unusedVariables false
set_option maxRecDepth 20000
set_option maxHeartbeats 4000000
namespace Go.Proofs.Ytdaemhaecjldaaa
open Go Go.RowKit

theorem c_laws_FnExactWorldValid (n1 n2 n3 n4 n5 : Option Bool) (w : Wld) (hx : WldLen w) :
    Det Try.prog 12 [.agg (encW n1 n2 n3 n4 n5 w)] (.bool true) := by
  refine fspec_det tab_ok Try.call12 Try.func12 rfl 27 Try.ntmps12 (of_decide_eq_true rfl) fun B => codeK_sound tab_ok _ _ _ ?_
  obtain ⟨r, hr, _, hT, hE⟩ := c_laws_szWorld n1 n2 n3 n4 n5 w 1048576 hx (by omega)
  simp (config := { maxSteps := 4000000 }) only [go_sem, simprocAttr, ↓dnA, Try.f12, encW, encWO, rows_length, encW]
  refine CallTo.det hr fun _ => ?_
  cases h2 : decide (r < 0) with
  | true => simp (config := { maxSteps := 4000000 }) only [go_sem, simprocAttr, ↓dnA, Try.f12, encW, encWO, rows_length, h2]
  | false =>
    have hs := hT (by have := of_decide_eq_false h2; omega)
    simp (config := { maxSteps := 4000000 }) only [go_sem, simprocAttr, ↓dnA, Try.f12, encW, encWO, rows_length, h2]
    refine CallTo.det (c_laws_toWorld n1 n2 n3 n4 n5 w hs) fun _ => ?_
    simp (config := { maxSteps := 4000000 }) only [go_sem, simprocAttr, ↓dnA, Try.f12, encW, encWO, rows_length, encWO, rows_length]
    refine CallTo.det (c_spec_WorldValid (some true) (some true) (some true) (some true) (some true) w hs.sz) fun _ => ?_
    simp (config := { maxSteps := 4000000 }) only [go_sem, simprocAttr, ↓dnA, Try.f12, encW, encWO, rows_length, encWO]
    refine CallTo.det (c_laws_toWorld n1 n2 n3 n4 n5 w hs) fun _ => ?_
    simp (config := { maxSteps := 4000000 }) only [go_sem, simprocAttr, ↓dnA, Try.f12, encW, encWO, rows_length, encWO, rows_length]
    refine CallTo.det (c_impl_WorldValid (some true) (some true) (some true) (some true) (some true) w hs.sz) fun _ => ?_
    have hb : (worldValid w != worldValid w) = false := by simp
    simp (config := { maxSteps := 4000000 }) only [go_sem, simprocAttr, ↓dnA, Try.f12, encW, encWO, rows_length, encWO, hb]
    refine semL_draw tab_ok mixed_ rfl (ord := [(0, []), (1, []), (2, [0]), (3, []), (4, [])]) (by dsimp only; decide +kernel) ?_
    simp (config := { maxSteps := 4000000 }) only [go_sem, simprocAttr, ↓dnA, Try.f12, encW, encWO, rows_length, encWO]
    refine CallTo.det (c_laws_toWorld n1 n2 n3 n4 n5 w hs) fun _ => ?_
    simp (config := { maxSteps := 4000000 }) only [go_sem, simprocAttr, ↓dnA, Try.f12, encW, encWO, rows_length, encWO, rows_length]
    refine CallTo.det (c_laws_eqWorld _ _ _ _ _ _ _ _ _ _ w w hs.sz hs.sz) fun _ => ?_
    have he : decide (w = w) = true := by simp
    simp (config := { maxSteps := 4000000 }) only [go_sem, simprocAttr, ↓dnA, Try.f12, encW, encWO, rows_length, he]

end Go.Proofs.Ytdaemhaecjldaaa

/- The closed facts of the row of FnExactWorldValid. -/
namespace Go.Proofs.Ytdaemhaecjldaaa
open Go Go.ChangeShapes Go.WideShapes Go.ChangeAt Go.RowKit

theorem fnExactWorldValid_named : Try.pinned.checked.prog.funcNamed Rows.fnExactWorldValidRow.func = some 12 := by kernel_rfl
theorem fnExactWorldValid_inst : Try.f12.isInstance Try.pinned.checked.prog Rows.fnExactWorldValidRow.origin Rows.fnExactWorldValidRow.targs := of_decide_eq_true (by kernel_rfl)
theorem fnExactWorldValid_wrap : Try.f12.isWrapper Try.pinned.checked.prog Rows.fnExactWorldValidRow.wrapper Rows.fnExactWorldValidRow.mainSum := by
  unfold Func.isWrapper; first | (rw [if_pos (by decide +kernel)]; kernel_rfl) | (rw [if_neg (by decide +kernel)]; exact ⟨rfl, rfl⟩)
set_option maxRecDepth 100000 in
theorem fnExactWorldValid_closed : joinedFacts Try.pinned.checked.prog 12 Try.f12 Rows.fnExactWorldValidSpec Rows.fnExactWorldValidRow = true := by kernel_rfl

end Go.Proofs.Ytdaemhaecjldaaa

/- Arguments of the laws, by their types. -/
set_option linter.unusedSimpArgs false
namespace Go.Proofs.Ytdaemhaecjldaaa
open Go Go.ChangeShapes Go.WideShapes Go.ChangeAt Go.RowKit

theorem own_ : ownKnob Try.prog.godebug = none := by kernel_rfl
theorem laidOut_ : laidOutB Try.prog = true := by kernel_rfl

theorem ty_int {cs : List AV} (h : Ty tab 3 cs) : ∃ n, cs = [.int .i64 n] ∧ IntKind.i64.has n := h.int_inv tabAt_3 rfl
theorem ty_bool {cs : List AV} (h : Ty tab 4 cs) : ∃ b, cs = [.bool b] := h.bool_inv tabAt_4 rfl
theorem ty_intA {a : AV} (h : TyArg tab 3 a) : ∃ n, a = .int .i64 n := by
  obtain ⟨n, e, _⟩ := ty_int (h.one_inv tabAt_3 rfl)
  exact ⟨n, by simpa using e⟩

/-- The cells of one value read as the cells of a datum. -/
def Leqs (r c : List AV) : Prop := r.length = c.length ∧ ∀ (j : Nat) (_ : j < c.length), Leq (r.getD j .top) (c.getD j .top)
theorem Leqs.refl (c : List AV) : Leqs c c := ⟨rfl, fun _ _ => Leq.refl _⟩
theorem Leqs.of_eq {r c : List AV} (h : r = c) : Leqs r c := h ▸ Leqs.refl _
theorem Leqs.agg {r c : List AV} (h : Leqs r c) : Leq (.agg r) (.agg c) := Leq.agg h.1 h.2

/-- A slice of elements that read as data. -/
theorem ty_rows {α : Type} (e : α → List AV) (Q : α → Prop) {et : TypeId} {es : List (List AV)} (h : ∀ (j : Nat) (_ : j < es.length), Ty tab et (es.getD j [])) (hx : ∀ r, Ty tab et r → ∃ x, Q x ∧ Leqs r (e x)) :
    ∃ xs : List α, es.length = xs.length ∧ (∀ x, x ∈ xs → Q x) ∧ ∀ nn, Leq (.sl nn es) (.sl nn (rows e xs)) := by
  have key : ∃ xs : List α, es.length = xs.length ∧ (∀ x, x ∈ xs → Q x) ∧ ∀ (i : Nat) (hi : i < xs.length), Leqs (es.getD i []) (e (xs[i]'hi)) := by
    induction es with
    | nil => exact ⟨[], rfl, fun x hx => (by cases hx), fun i hi => absurd hi (by simp)⟩
    | cons r rs ih =>
      obtain ⟨x, hq, hx1⟩ := hx r (h 0 (by simp))
      obtain ⟨xs, h1, h2, h3⟩ := ih (fun j hj => h (j + 1) (by simpa using hj))
      refine ⟨x :: xs, by simp [h1], fun y hy => ?_, fun i hi => ?_⟩
      · rcases List.mem_cons.1 hy with rfl | hy
        · exact hq
        · exact h2 y hy
      · cases i with
        | zero => exact hx1
        | succ i => exact h3 i (by simpa using hi)
  obtain ⟨xs, h1, h2, h3⟩ := key
  refine ⟨xs, h1, h2, fun nn => Leq.sl (by rw [rows_length, h1]) (fun i hi => ?_) (fun i j hi hj => ?_)⟩
  · rw [rows_length] at hi
    rw [rows_get _ _ _ hi]
    exact (h3 i hi).1
  · rw [rows_length] at hi
    rw [rows_get _ _ _ hi] at hj ⊢
    exact (h3 i hi).2 j hj

/-- A slice, as one cell. -/
theorem ty_slice {α : Type} (e : α → List AV) (Q : α → Prop) {t et : TypeId} {ti : TI} {cs : List AV} (h : Ty tab t cs) (ht : tab t = some ti) (hk : ti.k = .slice et) (hx : ∀ r, Ty tab et r → ∃ x, Q x ∧ Leqs r (e x)) :
    ∃ (n : Option Bool) (xs : List α), xs.length ≤ 9223372036854775807 ∧ (∀ x, x ∈ xs → Q x) ∧ Leqs cs [.sl n (rows e xs)] ∧ Leqs cs [.sl none (rows e xs)] := by
  obtain ⟨nn, es, rfl, _, hl, he⟩ := h.slice_inv ht hk
  obtain ⟨xs, h1, h2, h3⟩ := ty_rows e Q he hx
  refine ⟨some nn, xs, by omega, h2, ⟨rfl, fun j hj => ?_⟩, ⟨rfl, fun j hj => ?_⟩⟩
  · have : j = 0 := by simpa using hj
    subst this; exact h3 _
  · have : j = 0 := by simpa using hj
    subst this; exact (h3 (some nn)).trans Leq.slN

theorem ty_bools {a : AV} (h : TyArg tab 56 a) : ∃ (n : Option Bool) (bs : List Bool), Leq a (.sl n (boolRows bs)) ∧ bs.length ≤ 9223372036854775807 := by
  obtain ⟨n, xs, h1, _, h2, _⟩ := ty_slice (fun b : Bool => [AV.bool b]) (fun _ => True) (h.one_inv tabAt_56 rfl) tabAt_56 rfl fun r hr => by
    obtain ⟨b, rfl⟩ := ty_bool hr
    exact ⟨b, trivial, Leqs.refl _⟩
  exact ⟨n, xs, h2.2 0 (by simp), h1⟩

theorem ty_voterC {cs : List AV} (h : Ty tab 23 cs) : ∃ v : Voter, cs = encV v := by
  obtain ⟨ps, rfl, hl, hp⟩ := h.struct_inv tabAt_23 rfl
  match ps, hl with
  | [p, q], _ =>
    obtain ⟨x, hx, _⟩ := ty_int (hp 0 (by decide))
    obtain ⟨y, hy, _⟩ := ty_int (hp 1 (by decide))
    have hx : p = _ := hx
    have hy : q = _ := hy
    subst hx; subst hy
    exact ⟨⟨x, y⟩, rfl⟩

theorem ty_voter {a : AV} (h : TyArg tab 23 a) : ∃ v : Voter, a = .agg (encV v) := by
  obtain ⟨cs, rfl, h2⟩ := h.agg_inv tabAt_23 rfl
  obtain ⟨v, rfl⟩ := ty_voterC h2
  exact ⟨v, rfl⟩

theorem ty_entry {cs : List AV} (h : Ty tab 125 cs) : ∃ e : Entry, cs = encE e := by
  obtain ⟨ps, rfl, hl, hp⟩ := h.struct_inv tabAt_125 rfl
  match ps, hl with
  | [p, q], _ =>
    obtain ⟨x, hx, _⟩ := ty_int (hp 0 (by decide))
    obtain ⟨y, hy, _⟩ := ty_int (hp 1 (by decide))
    have hx : p = _ := hx
    have hy : q = _ := hy
    subst hx; subst hy
    exact ⟨⟨x, y⟩, rfl⟩

theorem ty_action {cs : List AV} (h : Ty tab 129 cs) : ∃ e : Action, cs = encA e := by
  obtain ⟨ps, rfl, hl, hp⟩ := h.struct_inv tabAt_129 rfl
  match ps, hl with
  | [p, q, r, s], _ =>
    obtain ⟨x, hx, _⟩ := ty_int (hp 0 (by decide))
    obtain ⟨y, hy, _⟩ := ty_int (hp 1 (by decide))
    obtain ⟨z, hz, _⟩ := ty_int (hp 2 (by decide))
    obtain ⟨w, hw, _⟩ := ty_int (hp 3 (by decide))
    have hx : p = _ := hx
    have hy : q = _ := hy
    have hz : r = _ := hz
    have hw : s = _ := hw
    subst hx; subst hy; subst hz; subst hw
    exact ⟨⟨x, y, z, w⟩, rfl⟩

theorem Leqs.cons {a b : AV} {r c : List AV} (h : Leq a b) (h' : Leqs r c) : Leqs (a :: r) (b :: c) := by
  refine ⟨by simp [h'.1], fun j hj => ?_⟩
  cases j with
  | zero => exact h
  | succ j => exact h'.2 j (by simpa using hj)

theorem Leqs.one {r : List AV} {b : AV} (h : Leqs r [b]) : ∃ a, r = [a] ∧ Leq a b := by
  obtain ⟨h1, h2⟩ := h
  match r, h1 with
  | [a], _ => exact ⟨a, rfl, h2 0 (by simp)⟩

theorem ty_block {cs : List AV} (h : Ty tab 82 cs) : ∃ b : Block, b.list.length ≤ 9223372036854775807 ∧ Leqs cs (encB1 b) := by
  obtain ⟨ps, rfl, hl, hp⟩ := h.struct_inv tabAt_82 rfl
  match ps, hl with
  | [p1, p2, p3, p4, p5, p6], _ =>
    obtain ⟨x1, h1, _⟩ := ty_int (hp 0 (by decide))
    obtain ⟨x2, h2, _⟩ := ty_int (hp 1 (by decide))
    obtain ⟨x3, h3, _⟩ := ty_int (hp 2 (by decide))
    obtain ⟨_, x4, hl4, _, _, h4⟩ := ty_slice encA (fun _ => True) (hp 3 (by decide)) tabAt_33 rfl fun r hr => by
      obtain ⟨a, rfl⟩ := ty_action hr
      exact ⟨a, trivial, Leqs.refl _⟩
    obtain ⟨x5, h5, _⟩ := ty_int (hp 4 (by decide))
    obtain ⟨x6, h6, _⟩ := ty_int (hp 5 (by decide))
    have h1 : p1 = _ := h1
    have h2 : p2 = _ := h2
    have h3 : p3 = _ := h3
    have h5 : p5 = _ := h5
    have h6 : p6 = _ := h6
    obtain ⟨a4, e4, l4⟩ := h4.one
    have e4 : p4 = _ := e4
    subst h1; subst h2; subst h3; subst h5; subst h6; subst e4
    exact ⟨⟨x1, x2, x3, x4, x5, x6⟩, hl4, .cons (.refl _) (.cons (.refl _) (.cons (.refl _) (.cons l4 (.cons (.refl _) (.cons (.refl _) (.refl [])))))) ⟩

theorem ty_treeC {cs : List AV} (h : Ty tab 55 cs) : ∃ (n1 n2 n3 : Option Bool) (t : Tree), Leqs cs (encT n1 n2 n3 t) ∧ TreeLen t := by
  obtain ⟨ps, rfl, hl, hp⟩ := h.struct_inv tabAt_55 rfl
  match ps, hl with
  | [p1, p2, p3], _ =>
    obtain ⟨n1, x1, l1, _, h1, _⟩ := ty_slice encE (fun _ => True) (hp 0 (by decide)) tabAt_32 rfl fun r hr => by
      obtain ⟨a, rfl⟩ := ty_entry hr
      exact ⟨a, trivial, Leqs.refl _⟩
    obtain ⟨n2, x2, l2, q2, h2, _⟩ := ty_slice encB1 (fun b => b.list.length ≤ 9223372036854775807) (hp 1 (by decide)) tabAt_52 rfl fun r hr => ty_block hr
    obtain ⟨n3, x3, l3, _, h3, _⟩ := ty_slice encI (fun _ => True) (hp 2 (by decide)) tabAt_53 rfl fun r hr => by
      obtain ⟨a, rfl, _⟩ := ty_int hr
      exact ⟨a, trivial, Leqs.refl _⟩
    obtain ⟨a1, e1, g1⟩ := h1.one
    obtain ⟨a2, e2, g2⟩ := h2.one
    obtain ⟨a3, e3, g3⟩ := h3.one
    have e1 : p1 = _ := e1
    have e2 : p2 = _ := e2
    have e3 : p3 = _ := e3
    subst e1; subst e2; subst e3
    exact ⟨n1, n2, n3, ⟨x1, x2, x3⟩, .cons g1 (.cons g2 (.cons g3 (.refl []))), ⟨l1, l2, l3, q2⟩⟩

theorem ty_tree {a : AV} (h : TyArg tab 55 a) : ∃ (n1 n2 n3 : Option Bool) (t : Tree), Leq a (.agg (encT n1 n2 n3 t)) ∧ TreeLen t := by
  obtain ⟨cs, rfl, h2⟩ := h.agg_inv tabAt_55 rfl
  obtain ⟨n1, n2, n3, t, h3, h4⟩ := ty_treeC h2
  exact ⟨n1, n2, n3, t, h3.agg, h4⟩

end Go.Proofs.Ytdaemhaecjldaaa

/- Arguments of the laws, by their types: worlds. -/
set_option linter.unusedSimpArgs false
namespace Go.Proofs.Ytdaemhaecjldaaa
open Go Go.RowKit

theorem Leqs.append {r c r' c' : List AV} (h : Leqs r c) (h' : Leqs r' c') : Leqs (r ++ r') (c ++ c') := by
  refine ⟨by simp [h.1, h'.1], fun j hj => ?_⟩
  by_cases e : j < c.length
  · rw [getD_append_left _ _ _ _ (by rw [h.1]; exact e), getD_append_left _ _ _ _ e]
    exact h.2 j e
  · have hr := h.1
    rw [getD_append_right _ _ _ _ (by omega), getD_append_right _ _ _ _ (by omega), hr]
    exact h'.2 _ (by rw [List.length_append] at hj; omega)

theorem ty_worldC {cs : List AV} (h : Ty tab 105 cs) : ∃ (n1 n2 n3 n4 n5 : Option Bool) (w : Wld), Leqs cs (encW n1 n2 n3 n4 n5 w) ∧ WldLen w := by
  obtain ⟨ps, rfl, hl, hp⟩ := h.struct_inv tabAt_105 rfl
  match ps, hl with
  | [p1, p2, p3], _ =>
    obtain ⟨n1, n2, n3, t, ht, hl1⟩ := ty_treeC (hp 0 (by decide))
    obtain ⟨n4, x4, l4, _, h4, _⟩ := ty_slice encV (fun _ => True) (hp 1 (by decide)) tabAt_103 rfl fun r hr => by
      obtain ⟨a, rfl⟩ := ty_voterC hr
      exact ⟨a, trivial, Leqs.refl _⟩
    obtain ⟨n5, x5, l5, _, h5, _⟩ := ty_slice encI (fun _ => True) (hp 2 (by decide)) tabAt_53 rfl fun r hr => by
      obtain ⟨a, rfl, _⟩ := ty_int hr
      exact ⟨a, trivial, Leqs.refl _⟩
    have ht : Leqs p1 _ := ht
    have h4 : Leqs p2 _ := h4
    have h5 : Leqs p3 _ := h5
    have := ht.append (h4.append (h5.append (Leqs.refl [])))
    exact ⟨n1, n2, n3, n4, n5, ⟨t, x4, x5⟩, by simpa [encT, encW] using this, ⟨hl1, l4, l5⟩⟩

theorem ty_world {a : AV} (h : TyArg tab 105 a) : ∃ (n1 n2 n3 n4 n5 : Option Bool) (w : Wld), Leq a (.agg (encW n1 n2 n3 n4 n5 w)) ∧ WldLen w := by
  obtain ⟨cs, rfl, h2⟩ := h.agg_inv tabAt_105 rfl
  obtain ⟨n1, n2, n3, n4, n5, t, h3, h4⟩ := ty_worldC h2
  exact ⟨n1, n2, n3, n4, n5, t, h3.agg, h4⟩

end Go.Proofs.Ytdaemhaecjldaaa

