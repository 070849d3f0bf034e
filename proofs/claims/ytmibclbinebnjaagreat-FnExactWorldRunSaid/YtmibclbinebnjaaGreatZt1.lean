/- FnExactWorldRun (part 1): W77, W78, W79, W94, Ty2, Ty7, C94 -/
import Derived.Test.YtmibclbinebnjaaGreatRows
import Derived.ProofKit
import Derived.Test.YtmibclbinebnjaaGreatU2

set_option linter.unusedSimpArgs false
set_option linter.unusedVariables false

/- Contracts: votes in worlds. -/
set_option linter.unusedSimpArgs false
set_option linter.unusedVariables false
set_option maxRecDepth 20000
set_option maxHeartbeats 4000000
namespace Go.Proofs.YtmibclbinebnjaaGreat
open Go Go.RowKit

/-- Whether the member m is in a mask; the mask with it. -/
def hasB (v : Int) (m : Nat) : Bool := (v / 2 ^ m) % 2 == 1
def orB (v : Int) (m : Nat) : Int := if hasB v m then v else v + 2 ^ m
def andI (a b : Int) : Int := IntKind.i64.wrap ((BitVec.ofInt 64 a &&& BitVec.ofInt 64 b).toNat : Nat)
def orI (a b : Int) : Int := IntKind.i64.wrap ((BitVec.ofInt 64 a ||| BitVec.ofInt 64 b).toNat : Nat)
theorem intK_and (a b : Int) (K : AV → Prop) : intK .and .i64 .i64 a b K = K (.int .i64 (andI a b)) := propext ⟨fun h => h.2, fun h => ⟨rfl, h⟩⟩
theorem intK_or (a b : Int) (K : AV → Prop) : intK .or .i64 .i64 a b K = K (.int .i64 (orI a b)) := propext ⟨fun h => h.2, fun h => ⟨rfl, h⟩⟩
theorem maskF : ∀ (a : Fin 16) (m : Fin 4), (andI ((a.val : Int).fdiv (2 ^ min m.val 64)) 1 == 1) = hasB a.val m.val ∧
    ((((a.val : Int).fdiv (2 ^ min m.val 64)).tmod 2 == 1) = hasB a.val m.val) ∧
    orI (a.val : Int) (IntKind.i64.wrap (1 * 2 ^ min m.val 64)) = orB a.val m.val ∧
    0 ≤ orB a.val m.val ∧ orB a.val m.val ≤ 15 := by decide +kernel
theorem mask_facts {v : Int} (h : 0 ≤ v ∧ v ≤ 15) {m : Nat} (hm : m < 4) : (andI (v.fdiv (2 ^ min m 64)) 1 == 1) = hasB v m ∧
    (((v.fdiv (2 ^ min m 64)).tmod 2 == 1) = hasB v m) ∧
    orI v (IntKind.i64.wrap (1 * 2 ^ min m 64)) = orB v m ∧ 0 ≤ orB v m ∧ orB v m ≤ 15 := by
  obtain ⟨a, rfl⟩ : ∃ a : Nat, v = (a : Int) := ⟨v.toNat, by omega⟩
  exact maskF ⟨a, by omega⟩ ⟨m, hm⟩

/-- Which blocks are certified by their votes. -/
def certW (w : Wld) : List Bool := (List.range w.votes.length).map fun i => i == 0 || decide (many (w.votes.getD i 0) ≥ 3)
theorem certW_len (w : Wld) : (certW w).length = w.votes.length := by simp [certW]
theorem certW_get (w : Wld) (i : Nat) (h : i < w.votes.length) : (certW w).getD i false = (i == 0 || decide (many w.votes[i] ≥ 3)) := by
  have hg : w.votes.getD i 0 = w.votes[i] := by rw [List.getD_eq_getElem?_getD, List.getElem?_eq_getElem h]; rfl
  rw [List.getD_eq_getElem?_getD]
  unfold certW
  rw [List.getElem?_map, List.getElem?_range h]
  show (i == 0 || decide (many (w.votes.getD i 0) ≥ 3)) = _
  rw [hg]
theorem certW_take (w : Wld) (i : Nat) (h : i < w.votes.length) : (certW w).take (i + 1) = (certW w).take i ++ [(certW w).getD i false] := take_succ_getD _ i false (by rw [certW_len]; exact h)

def VoteOk (w : Wld) (m n : Int) : Prop := (0 ≤ m ∧ m ≤ 3) ∧ (1 ≤ n ∧ n < w.votes.length) ∧ hasB (w.votes.getD n.toNat 0) m.toNat = false
def voted (w : Wld) (m n : Int) : List Int := w.votes.set n.toNat (orB (w.votes.getD n.toNat 0) m.toNat)
noncomputable def voteR (w : Wld) (m n : Int) : Voter × Bool := voteFor (w.voters.getD m.toNat ⟨0, 0⟩) w.tree (certW w) n
open Classical in
/-- A world after a vote. -/
noncomputable def voteW (w : Wld) (m n : Int) : Wld × Bool :=
  if VoteOk w m n then (if m = 3 then (⟨w.tree, w.voters, voted w m n⟩, true) else if (voteR w m n).2 then (⟨w.tree, w.voters.set m.toNat (voteR w m n).1, voted w m n⟩, true) else (w, false)) else (w, false)

theorem voteW_no {w : Wld} {m n : Int} (h : ¬ VoteOk w m n) : voteW w m n = (w, false) := by unfold voteW; rw [if_neg h]
theorem voteW_3 {w : Wld} {m n : Int} (h : VoteOk w m n) (h3 : m = 3) : voteW w m n = (⟨w.tree, w.voters, voted w m n⟩, true) := by unfold voteW; rw [if_pos h, if_pos h3]
theorem voteW_yes {w : Wld} {m n : Int} (h : VoteOk w m n) (h3 : m ≠ 3) (hr : (voteR w m n).2 = true) : voteW w m n = (⟨w.tree, w.voters.set m.toNat (voteR w m n).1, voted w m n⟩, true) := by unfold voteW; rw [if_pos h, if_neg h3, if_pos hr]
theorem voteW_not {w : Wld} {m n : Int} (h : VoteOk w m n) (h3 : m ≠ 3) (hr : (voteR w m n).2 = false) : voteW w m n = (w, false) := by unfold voteW; rw [if_pos h, if_neg h3, hr]; rfl

theorem voteW_wsz (w : Wld) (m n : Int) : wsz (voteW w m n).1 = wsz w := by
  unfold voteW
  split
  · split
    · simp [wsz, voted]
    · split
      · simp [wsz, voted]
      · rfl
  · rfl

theorem voterOk_iff (v : Voter) : voterOk v = true ↔ (0 ≤ v.last ∧ v.last ≤ 1000) ∧ 0 ≤ v.lock ∧ v.lock ≤ 1000 := by
  unfold voterOk voterValid
  simp only [Bool.and_eq_true, decide_eq_true_eq]

theorem voteFor_valid {v : Voter} {t : Tree} {c : List Bool} {n : Int} (h : (voteFor v t c n).2 = true) : voterOk (voteFor v t c n).1 = true := by
  cases h0 : voterValid v.last v.lock with
  | false => unfold voteFor at h; rw [h0, if_neg Bool.false_ne_true] at h; cases h
  | true =>
    cases h1 : mayVote v t c n with
    | false => unfold voteFor at h; rw [h0, h1, if_pos rfl, if_neg Bool.false_ne_true] at h; cases h
    | true =>
      have hm := mayOk_of h1
      have hv := (voterOk_iff v).1 h0
      obtain ⟨j, k, rfl, hj, hjb, hkb, g1, g4, g2, hcase⟩ := voteFor_ok h0 h1
      have hbj := view_bd (hm.tree.valid j hj)
      rcases hcase with ⟨hb, hd, he⟩ | ⟨i, hi, hil, g5, he⟩
      · rw [he, voterOk_iff]
        exact ⟨hbj, hv.2⟩
      · have hbi := view_bd (hm.tree.valid i hil)
        rw [he, voterOk_iff]
        refine ⟨hbj, ?_⟩
        show 0 ≤ max v.lock (t.blk i).view ∧ max v.lock (t.blk i).view ≤ 1000
        omega

theorem voteW_valid {w : Wld} (h : worldValid w = true) (m n : Int) : worldValid (voteW w m n).1 = true := by
  obtain ⟨ht, h4, hvo, hvl, hvs⟩ := worldValid_parts h
  have mk : ∀ (vs : List Voter) (ns : List Int), vs.length = 4 → (∀ v, v ∈ vs → voterOk v = true) → ns.length = w.tree.blocks.length → (∀ n, n ∈ ns → 0 ≤ n ∧ n ≤ 15) → worldValid ⟨w.tree, vs, ns⟩ = true := by
    intro vs ns a1 a2 a3 a4
    unfold worldValid
    simp only [Bool.and_eq_true, decide_eq_true_eq, List.all_eq_true]
    exact ⟨⟨⟨⟨treeValid_true ht, a1⟩, a2⟩, a3⟩, fun n hn => inB_iff.2 (a4 n hn)⟩
  by_cases hok : VoteOk w m n
  · obtain ⟨⟨h1, h2⟩, ⟨h3, h5⟩, h6⟩ := hok
    have hnl : n.toNat < w.votes.length := by omega
    have hvb : 0 ≤ w.votes.getD n.toNat 0 ∧ w.votes.getD n.toNat 0 ≤ 15 := by
      rw [List.getD_eq_getElem?_getD, List.getElem?_eq_getElem hnl]
      exact hvs _ (List.getElem_mem hnl)
    have hor := (mask_facts hvb (m := m.toNat) (by omega)).2.2.2
    have hvd : ∀ x, x ∈ voted w m n → 0 ≤ x ∧ x ≤ 15 := fun x hx => by
      unfold voted at hx
      rcases List.mem_or_eq_of_mem_set hx with e | e
      · exact hvs x e
      · rw [e]; exact hor
    have hvdl : (voted w m n).length = w.tree.blocks.length := by unfold voted; rw [List.length_set]; exact hvl
    by_cases hm3 : m = 3
    · rw [voteW_3 ⟨⟨h1, h2⟩, ⟨h3, h5⟩, h6⟩ hm3]
      exact mk _ _ h4 hvo hvdl hvd
    · cases hr : (voteR w m n).2 with
      | false => rw [voteW_not ⟨⟨h1, h2⟩, ⟨h3, h5⟩, h6⟩ hm3 hr]; exact h
      | true =>
        rw [voteW_yes ⟨⟨h1, h2⟩, ⟨h3, h5⟩, h6⟩ hm3 hr]
        refine mk _ _ (by rw [List.length_set]; exact h4) (fun v hv => ?_) hvdl hvd
        rcases List.mem_or_eq_of_mem_set hv with e | e
        · exact hvo v e
        · rw [e]; exact voteFor_valid hr
  · rw [voteW_no hok]; exact h

theorem c_impl_isMember (x : Int) : Det Tryz.prog 194 [.int .i64 x] (.bool (inB x 0 3)) := by
  refine fspec_det tab_ok Tryz.call194 Tryz.func194 rfl 5 Tryz.ntmps194 (of_decide_eq_true rfl) fun B => codeK_sound tab_ok _ _ _ ?_
  simp (config := { maxSteps := 4000000 }) only [go_sem, simprocAttr, ↓dnA, Tryz.f194, rows_length, boolRows_length]
  refine CallTo.det (c_in _ _ _) fun _ => ?_
  simp (config := { maxSteps := 4000000 }) only [go_sem, simprocAttr, ↓dnA, Tryz.f194, rows_length, boolRows_length]

theorem c_spec_l18Certified (n1 n2 n3 n4 n5 : Option Bool) (w : Wld) (hvt : w.votes.length < 2 ^ 32) (hvs : ∀ n, n ∈ w.votes → 0 ≤ n ∧ n ≤ 15) :
    Det Tryz.prog 142 [.agg (encW n1 n2 n3 n4 n5 w)] (.osl true 1 (boolRows (certW w))) := by
  refine fspec_det tab_ok Tryz.call142 Tryz.func142 rfl 28 Tryz.ntmps142 (of_decide_eq_true rfl) fun B => codeK_sound tab_ok _ _ _ ?_
  simp (config := { maxSteps := 4000000 }) only [go_sem, simprocAttr, ↓dnA, Tryz.f142, rows_length, boolRows_length, encW]
  refine semL_for tab_ok (fun i : Nat => ⟨28, [(1, .loc 1 0), (3, .row 600 i), (4, .int .i64 i)], [(1, .var (encW n1 n2 n3 n4 n5 w)), (600, .row true true 1 (boolRows ((certW w).take i)))]⟩) (fun i => w.votes.length - i)
    (fun i => i ≤ w.votes.length) 0 [(1, 1), (5, 600)] (Weak.of (by rfl) ?_ ?_ (by rfl)) (by omega) ?_
  · simp (config := { maxSteps := 4000000 }) only [go_sem, simprocAttr, ↓dnA, Tryz.f142, rows_length, boolRows_length, encW, frW, wk2, wk1, wkL, wkB, hpW, List.mem_cons, Prod.mk.injEq, exists_eq_left, exists_eq_right, exists_eq]
    try rfl
  · simp (config := { maxSteps := 4000000 }) only [go_sem, simprocAttr, ↓dnA, Tryz.f142, rows_length, boolRows_length, nc0, frW, wk2, wk1, wkL, wkB, hpW, List.mem_cons, Prod.mk.injEq, exists_eq_left, exists_eq_right, exists_eq]
  · rintro i hi
    have hcl := certW_len w
    by_cases h : i < w.votes.length
    · have hw : IntKind.i64.wrap ((i : Int) + 1) = ((i + 1 : Nat) : Int) := wsucc h (by omega)
      have hg := certW_get w i h
      have hst := certW_take w i h
      have htl : ((certW w).take i).length = i := by rw [List.length_take]; omega
      have htk : (boolRows ((certW w).take i)).take i = boolRows ((certW w).take i) := by rw [List.take_of_length_le]; rw [boolRows_length, htl]; omega
      have hsn : ∀ b : Bool, boolRows ((certW w).take i) ++ [[.bool b]] = boolRows ((certW w).take i ++ [b]) := fun b => rows_snoc encBo _ b
      by_cases h0 : i = 0
      · have hz : ((i : Int) == 0) = true := by simp; omega
        have hgt : (certW w).getD i false = true := by rw [hg]; simp [h0]
        rw [hgt] at hst
        simp (config := { maxSteps := 4000000 }) only [go_sem, simprocAttr, ↓dnA, Tryz.f142, rows_length, boolRows_length, encW, nlt h, h, nn0, hz, htl, htk, hw]
        repeat refine And.intro (by first | omega | (simp; done) | (simp; omega) | assumption) ?_
        refine ⟨i + 1, [(1, 1), (26, 600)], by omega, by dsimp only; omega, Weak.of (by rfl) ?_ ?_ (by rfl)⟩
        · simp (config := { maxSteps := 4000000 }) only [go_sem, simprocAttr, ↓dnA, Tryz.f142, rows_length, boolRows_length, encW, hst, hsn, frW, wk2, wk1, wkL, wkB, hpW, List.mem_cons, Prod.mk.injEq, exists_eq_left, exists_eq_right, exists_eq]
        · simp (config := { maxSteps := 4000000 }) only [go_sem, simprocAttr, ↓dnA, Tryz.f142, rows_length, boolRows_length, frW, wk2, wk1, wkL, wkB, hpW, List.mem_cons, Prod.mk.injEq, exists_eq_left, exists_eq_right, exists_eq]
      · have hz : ((i : Int) == 0) = false := by simp; omega
        have hb := hvs _ (List.getElem_mem h)
        have hgt : (certW w).getD i false = decide (many w.votes[i] ≥ 3) := by rw [hg]; simp [h0]
        rw [hgt] at hst
        simp (config := { maxSteps := 4000000 }) only [go_sem, simprocAttr, ↓dnA, Tryz.f142, rows_length, boolRows_length, encW, nlt h, h, nn0, hz, rows_get _ _ _ h, encI]
        refine CallTo.det (c_spec_l15Many _ hb) fun _ => ?_
        simp (config := { maxSteps := 4000000 }) only [go_sem, simprocAttr, ↓dnA, Tryz.f142, rows_length, boolRows_length, encW, nlt h, h, nn0, hz, rows_get _ _ _ h, encI, htl, htk, hw]
        repeat refine And.intro (by first | omega | (simp; done) | (simp; omega) | assumption) ?_
        refine ⟨i + 1, [(1, 1), (26, 600)], by omega, by dsimp only; omega, Weak.of (by rfl) ?_ ?_ (by rfl)⟩
        · simp (config := { maxSteps := 4000000 }) only [go_sem, simprocAttr, ↓dnA, Tryz.f142, rows_length, boolRows_length, encW, hst, hsn, frW, wk2, wk1, wkL, wkB, hpW, List.mem_cons, Prod.mk.injEq, exists_eq_left, exists_eq_right, exists_eq]
        · simp (config := { maxSteps := 4000000 }) only [go_sem, simprocAttr, ↓dnA, Tryz.f142, rows_length, boolRows_length, frW, wk2, wk1, wkL, wkB, hpW, List.mem_cons, Prod.mk.injEq, exists_eq_left, exists_eq_right, exists_eq]
    · have hi' : i = w.votes.length := by omega
      subst hi'
      have htl : (certW w).take w.votes.length = certW w := by rw [List.take_of_length_le]; omega
      simp (config := { maxSteps := 4000000 }) only [go_sem, simprocAttr, ↓dnA, Tryz.f142, rows_length, boolRows_length, encW, nlf h, htl, hcl]

theorem c_impl_vote (w : Wld) (m n : Int) (hv : worldValid w = true) :
    DetB Tryz.prog 144 [.loc 0 0, .int .i64 m, .int .i64 n] (encWF w) (.bool (voteW w m n).2) (encWF (voteW w m n).1) := by
  refine fspec_detB tab_ok Tryz.call144 Tryz.func144 rfl 106 Tryz.ntmps144 (of_decide_eq_true rfl) fun B => codeK_sound tab_ok _ _ _ ?_
  obtain ⟨ht, h4, hvo, hvl, hvs⟩ := worldValid_parts hv
  have hs := worldOk_s32 hv
  have hlen := ht.len
  have hvt := hs.votes
  unfold encWF
  simp (config := { maxSteps := 4000000 }) only [go_sem, simprocAttr, ↓dnA, Tryz.f144, rows_length, boolRows_length]
  refine CallTo.det (c_impl_isMember _) fun _ => ?_
  cases q1 : inB m 0 3 with
  | false =>
    have hno := voteW_no (w := w) (m := m) (n := n) (fun e => by have := inB_iff.2 e.1; rw [q1] at this; cases this)
    simp (config := { maxSteps := 4000000 }) only [go_sem, simprocAttr, ↓dnA, Tryz.f144, rows_length, boolRows_length, q1, hno]
  | true =>
    have hm := inB_iff.1 q1
    obtain ⟨a, rfl⟩ : ∃ a : Nat, m = (a : Int) := ⟨m.toNat, by omega⟩
    simp (config := { maxSteps := 4000000 }) only [go_sem, simprocAttr, ↓dnA, Tryz.f144, rows_length, boolRows_length, q1]
    refine CallTo.det (c_impl_has none none none w.tree n hs.tree.sz) fun _ => ?_
    cases q2 : inB n 0 ((w.tree.blocks.length : Int) - 1) with
    | false =>
      have hno := voteW_no (w := w) (m := (a : Int)) (n := n) (fun e => by have h := e.2.1; have := inB_iff.2 (show 0 ≤ n ∧ n ≤ (w.tree.blocks.length : Int) - 1 by omega); rw [q2] at this; cases this)
      simp (config := { maxSteps := 4000000 }) only [go_sem, simprocAttr, ↓dnA, Tryz.f144, rows_length, boolRows_length, q1, q2, hno]
    | true =>
      have hn := inB_iff.1 q2
      obtain ⟨b, rfl⟩ : ∃ b : Nat, n = (b : Int) := ⟨n.toNat, by omega⟩
      have hbl : b < w.votes.length := by omega
      have hgb : w.votes.getD b 0 = w.votes[b] := by rw [List.getD_eq_getElem?_getD, List.getElem?_eq_getElem hbl]; rfl
      have hvb := hvs _ (List.getElem_mem hbl)
      have ha4 : a < 4 := by omega
      obtain ⟨k1, k2, k3, k4, k5⟩ := mask_facts hvb ha4
      by_cases hb0 : b = 0
      · have hz : ((b : Int) == 0) = true := by simp; omega
        have hno := voteW_no (w := w) (m := (a : Int)) (n := (b : Int)) (fun e => by have h := e.2.1; omega)
        simp (config := { maxSteps := 4000000 }) only [go_sem, simprocAttr, ↓dnA, Tryz.f144, rows_length, boolRows_length, q1, q2, hz, hno]
      · have hz : ((b : Int) == 0) = false := by simp; omega
        cases q3 : hasB w.votes[b] a with
        | true =>
          have hno := voteW_no (w := w) (m := (a : Int)) (n := (b : Int)) (fun e => by have h := e.2.2; rw [Int.toNat_natCast, Int.toNat_natCast, hgb, q3] at h; cases h)
          rw [q3] at k1
          simp (config := { maxSteps := 4000000 }) only [go_sem, simprocAttr, ↓dnA, Tryz.f144, rows_length, boolRows_length, q1, q2, hz, nlt hbl, hbl, nn0, rows_get _ _ _ hbl, encI, ↓intK_and, k1, hno]
        | false =>
          have hok : VoteOk w (a : Int) (b : Int) := ⟨hm, by omega, by rw [Int.toNat_natCast, Int.toNat_natCast, hgb]; exact q3⟩
          have hvd : voted w (a : Int) (b : Int) = w.votes.set b (orB w.votes[b] a) := by unfold voted; rw [Int.toNat_natCast, Int.toNat_natCast, hgb]
          have hrs : (rows encI w.votes).set b [.int .i64 (orB w.votes[b] a)] = rows encI (w.votes.set b (orB w.votes[b] a)) := by rw [← rows_set]; rfl
          rw [q3] at k1
          by_cases hm3 : (a : Int) = 3
          · have hne : ((a : Int) != 3) = false := by simp [hm3]
            have hr := voteW_3 hok hm3
            rw [hvd] at hr
            simp (config := { maxSteps := 4000000 }) only [go_sem, simprocAttr, ↓dnA, Tryz.f144, rows_length, boolRows_length, q1, q2, hz, nlt hbl, hbl, nn0, rows_get _ _ _ hbl, encI, ↓intK_and, k1, hne]
            refine semL_draw tab_ok mixed_ rfl (ord := [(0, []), (1, []), (2, []), (3, []), (4, []), (5, []), (6, []), (7, []), (8, []), (9, []), (10, []), (11, [])]) (by dsimp only; decide +kernel) ?_
            simp (config := { maxSteps := 4000000 }) only [go_sem, simprocAttr, ↓dnA, Tryz.f144, rows_length, boolRows_length, q1, q2, hz, nlt hbl, hbl, nn0, rows_get _ _ _ hbl, encI, ↓intK_and, k1, hne, ↓intK_or, k3, spliceL, hr, hrs, List.length_set]
          · have hne : ((a : Int) != 3) = true := by simp [hm3]
            simp (config := { maxSteps := 4000000 }) only [go_sem, simprocAttr, ↓dnA, Tryz.f144, rows_length, boolRows_length, q1, q2, hz, nlt hbl, hbl, nn0, rows_get _ _ _ hbl, encI, ↓intK_and, k1, hne]
            repeat refine And.intro (by first | omega | (simp; done) | (simp; omega) | assumption) ?_
            refine semL_for tab_ok (fun i : Nat => ⟨106, [(0, .loc 900 0), (1, .int .i64 a), (2, .int .i64 b), (7, .row 600 w.votes.length), (52, .row 905 w.votes.length), (53, .int .i64 w.votes.length), (54, .int .i64 i)],
                [(900, .var [.row 901 w.tree.base.length, .row 902 w.tree.blocks.length, .row 903 w.tree.before.length, .row 904 w.voters.length, .row 905 w.votes.length]),
                  (901, .row true false 2 (rows encE w.tree.base)), (902, .row true false 6 (rows encB1 w.tree.blocks)), (903, .row true false 1 (rows encI w.tree.before)), (904, .row true false 2 (rows encV w.voters)), (905, .row true false 1 (rows encI w.votes)),
                  (600, .row true true 1 (boolRows ((certW w).take i ++ List.replicate (w.votes.length - i) false)))]⟩) (fun i => w.votes.length - i)
              (fun i => i ≤ w.votes.length) 0 [(900, 900), (901, 901), (902, 902), (903, 903), (904, 904), (905, 905), (48, 600)] (Weak.of (by rfl) ?_ ?_ (by rfl)) (by omega) ?_
            · simp (config := { maxSteps := 4000000 }) only [go_sem, simprocAttr, ↓dnA, Tryz.f144, rows_length, boolRows_length, List.take_zero, List.nil_append, Nat.sub_zero, boolRows_rep, frW, wk2, wk1, wkL, wkB, hpW, List.mem_cons, Prod.mk.injEq, exists_eq_left, exists_eq_right, exists_eq]
            · simp (config := { maxSteps := 4000000 }) only [go_sem, simprocAttr, ↓dnA, Tryz.f144, rows_length, boolRows_length, nc0, frW, wk2, wk1, wkL, wkB, hpW, List.mem_cons, Prod.mk.injEq, exists_eq_left, exists_eq_right, exists_eq]
            · rintro i hi
              have hcl := certW_len w
              have hll : ((certW w).take i ++ List.replicate (w.votes.length - i) false).length = w.votes.length := by rw [List.length_append, List.length_take, List.length_replicate]; omega
              by_cases h : i < w.votes.length
              · have hw : IntKind.i64.wrap ((i : Int) + 1) = ((i + 1 : Nat) : Int) := wsucc h (by omega)
                have hg := certW_get w i h
                have hfs := fill_step (certW w) false false i (by omega)
                have hgl := boolRows_get ((certW w).take i ++ List.replicate (w.votes.length - i) false) i (by rw [hll]; exact h)
                rw [hcl] at hfs
                by_cases h0 : i = 0
                · have hz0 : ((i : Int) == 0) = true := by simp; omega
                  have hgt : (certW w).getD i false = true := by rw [hg]; simp [h0]
                  rw [hgt] at hfs
                  simp (config := { maxSteps := 4000000 }) only [go_sem, simprocAttr, ↓dnA, Tryz.f144, rows_length, boolRows_length, nlt h, h, nn0, hz0, rows_get _ _ _ h, encI, hll, hgl, spliceL, List.length_set, hw]
                  refine ⟨i + 1, [(900, 900), (901, 901), (902, 902), (903, 903), (904, 904), (905, 905), (600, 600)], by omega, by dsimp only; omega, Weak.of (by rfl) ?_ ?_ (by rfl)⟩
                  · simp (config := { maxSteps := 4000000 }) only [go_sem, simprocAttr, ↓dnA, Tryz.f144, rows_length, boolRows_length, boolRows_set, hfs, frW, wk2, wk1, wkL, wkB, hpW, List.mem_cons, Prod.mk.injEq, exists_eq_left, exists_eq_right, exists_eq]
                  · simp (config := { maxSteps := 4000000 }) only [go_sem, simprocAttr, ↓dnA, Tryz.f144, rows_length, boolRows_length, frW, wk2, wk1, wkL, wkB, hpW, List.mem_cons, Prod.mk.injEq, exists_eq_left, exists_eq_right, exists_eq]
                · have hz0 : ((i : Int) == 0) = false := by simp; omega
                  have hbi := hvs _ (List.getElem_mem h)
                  have hgt : (certW w).getD i false = decide (many w.votes[i] ≥ 3) := by rw [hg]; simp [h0]
                  rw [hgt] at hfs
                  simp (config := { maxSteps := 4000000 }) only [go_sem, simprocAttr, ↓dnA, Tryz.f144, rows_length, boolRows_length, nlt h, h, nn0, hz0, rows_get _ _ _ h, encI]
                  refine CallTo.det (c_impl_enough _ hbi) fun _ => ?_
                  simp (config := { maxSteps := 4000000 }) only [go_sem, simprocAttr, ↓dnA, Tryz.f144, rows_length, boolRows_length, nlt h, h, nn0, hz0, rows_get _ _ _ h, encI, hll, hgl, spliceL, List.length_set, hw]
                  refine ⟨i + 1, [(900, 900), (901, 901), (902, 902), (903, 903), (904, 904), (905, 905), (600, 600)], by omega, by dsimp only; omega, Weak.of (by rfl) ?_ ?_ (by rfl)⟩
                  · simp (config := { maxSteps := 4000000 }) only [go_sem, simprocAttr, ↓dnA, Tryz.f144, rows_length, boolRows_length, boolRows_set, hfs, frW, wk2, wk1, wkL, wkB, hpW, List.mem_cons, Prod.mk.injEq, exists_eq_left, exists_eq_right, exists_eq]
                  · simp (config := { maxSteps := 4000000 }) only [go_sem, simprocAttr, ↓dnA, Tryz.f144, rows_length, boolRows_length, frW, wk2, wk1, wkL, wkB, hpW, List.mem_cons, Prod.mk.injEq, exists_eq_left, exists_eq_right, exists_eq]
              · have hi' : i = w.votes.length := by omega
                subst hi'
                have htl : (certW w).take w.votes.length ++ List.replicate (w.votes.length - w.votes.length) false = certW w := by rw [Nat.sub_self, List.take_of_length_le (by omega)]; simp
                have hav : a < w.voters.length := by omega
                have hgv : w.voters.getD a ⟨0, 0⟩ = w.voters[a] := by rw [List.getD_eq_getElem?_getD, List.getElem?_eq_getElem hav]; rfl
                have hre : voteR w (a : Int) (b : Int) = voteFor w.voters[a] w.tree (certW w) (b : Int) := by unfold voteR; rw [Int.toNat_natCast, hgv]
                have ev : encV w.voters[a] = [.int .i64 w.voters[a].last, .int .i64 w.voters[a].lock] := rfl
                simp (config := { maxSteps := 4000000 }) only [go_sem, simprocAttr, ↓dnA, Tryz.f144, rows_length, boolRows_length, nlf h, htl, hcl]
                refine semL_draw tab_ok mixed_ rfl (ord := [(0, []), (1, []), (2, []), (3, []), (4, []), (5, []), (6, []), (7, []), (8, []), (9, []), (10, []), (11, []), (12, []), (13, []), (14, []), (15, []), (16, []), (17, [0, 1, 2, 3, 4, 5, 6, 7, 8, 9, 10, 11, 12, 14, 15, 16]), (18, [16]), (19, [])]) (by dsimp only; decide +kernel) ?_
                simp (config := { maxSteps := 4000000 }) only [go_sem, simprocAttr, ↓dnA, Tryz.f144, rows_length, boolRows_length, nlf h, htl, hcl, nlt hav, hav, nn0, rows_get _ _ _ hav, ev]
                refine CallTo.det (c_impl_VoteFor none none none (some true) w.voters[a] w.tree (certW w) (b : Int) hs.tree.sz (by omega)) fun _ => ?_
                have hy := voteW_yes hok hm3
                have hnt := voteW_not hok hm3
                rw [hre, hvd] at hy
                rw [hre] at hnt
                generalize voteFor w.voters[a] w.tree (certW w) (b : Int) = r at hy hnt
                obtain ⟨x, ok⟩ := r
                dsimp only at hy hnt ⊢
                cases ok with
                | false =>
                  have hnt := hnt rfl
                  simp (config := { maxSteps := 4000000 }) only [go_sem, simprocAttr, ↓dnA, Tryz.f144, rows_length, boolRows_length, nlf h, htl, hcl, nlt hav, hav, nn0, rows_get _ _ _ hav, ev, encV, hnt]
                | true =>
                  have hy := hy rfl
                  rw [Int.toNat_natCast] at hy
                  have hrv : (rows encV w.voters).set a [.int .i64 x.last, .int .i64 x.lock] = rows encV (w.voters.set a x) := by rw [← rows_set]; rfl
                  simp (config := { maxSteps := 4000000 }) only [go_sem, simprocAttr, ↓dnA, Tryz.f144, rows_length, boolRows_length, nlf h, htl, hcl, nlt hav, hav, nn0, rows_get _ _ _ hav, encV]
                  refine semL_draw tab_ok mixed_ rfl (ord := [(0, []), (1, []), (2, []), (3, []), (4, []), (5, []), (6, []), (7, [])]) (by dsimp only; decide +kernel) ?_
                  simp (config := { maxSteps := 4000000 }) only [go_sem, simprocAttr, ↓dnA, Tryz.f144, rows_length, boolRows_length, nlf h, htl, hcl, nlt hav, hav, nn0, rows_get _ _ _ hav, encV, spliceL, List.length_set]
                  refine semL_draw tab_ok mixed_ rfl (ord := [(0, []), (1, []), (2, []), (3, []), (4, []), (5, []), (6, []), (7, []), (8, []), (9, []), (10, []), (11, [])]) (by dsimp only; decide +kernel) ?_
                  simp (config := { maxSteps := 4000000 }) only [go_sem, simprocAttr, ↓dnA, Tryz.f144, rows_length, boolRows_length, nlf h, htl, hcl, nlt hav, hav, nlt hbl, hbl, nn0, rows_get _ _ _ hbl, encI, encV, ↓intK_or, k3, spliceL, hy, hrs, hrv, List.length_set]

end Go.Proofs.YtmibclbinebnjaaGreat

/- Contracts: worlds after a vote. -/
set_option linter.unusedSimpArgs false
set_option linter.unusedVariables false
set_option maxRecDepth 20000
set_option maxHeartbeats 4000000
namespace Go.Proofs.YtmibclbinebnjaaGreat
open Go Go.RowKit

noncomputable def worldVote (w : Wld) (m n : Int) : Wld × Bool := if worldValid w then voteW w m n else (noW, false)
theorem worldVote_yes {w : Wld} (h : worldValid w = true) (m n : Int) : worldVote w m n = voteW w m n := by unfold worldVote; rw [if_pos h]
theorem worldVote_no {w : Wld} (h : worldValid w = false) (m n : Int) : worldVote w m n = (noW, false) := by unfold worldVote; rw [h]; rfl
theorem noW_wsz : wsz noW = 0 := by simp [noW, wsz, tsz, lsum]
theorem worldVote_wsz (w : Wld) (m n : Int) : wsz (worldVote w m n).1 ≤ wsz w := by
  cases h : worldValid w with
  | false => rw [worldVote_no h]; show wsz noW ≤ _; rw [noW_wsz]; omega
  | true => rw [worldVote_yes h, voteW_wsz]; exact Nat.le_refl _

theorem c_impl_WorldVote (n1 n2 n3 n4 n5 : Option Bool) (w : Wld) (m n : Int) (hx : WldSz w) :
    Det Tryz.prog 73 [.agg (encW n1 n2 n3 n4 n5 w), .int .i64 m, .int .i64 n] (.tup [.agg (encWF (worldVote w m n).1), .bool (worldVote w m n).2]) := by
  refine fspec_det tab_ok Tryz.call73 Tryz.func73 rfl 21 Tryz.ntmps73 (of_decide_eq_true rfl) fun B => codeK_sound tab_ok _ _ _ ?_
  simp (config := { maxSteps := 4000000 }) only [go_sem, simprocAttr, ↓dnA, Tryz.f73, rows_length, encW, encWF]
  refine CallTo.det (c_impl_WorldValid n1 n2 n3 n4 n5 w hx) fun _ => ?_
  cases h0 : worldValid w with
  | false => simp (config := { maxSteps := 4000000 }) only [go_sem, simprocAttr, ↓dnA, Tryz.f73, rows_length, encW, encWF, h0, worldVote_no h0, noW, rows_nil]
  | true =>
    have hs := worldOk_s32 h0
    rw [worldVote_yes h0]
    simp (config := { maxSteps := 4000000 }) only [go_sem, simprocAttr, ↓dnA, Tryz.f73, rows_length, encW, encWF, h0]
    refine CallTo.det (c_impl_World_clone n1 n2 n3 n4 n5 w hs.tree hs.voters hs.votes) fun _ => ?_
    simp (config := { maxSteps := 4000000 }) only [go_sem, simprocAttr, ↓dnA, Tryz.f73, rows_length, encW, encWF, h0]
    refine CallTo.detB (c_impl_vote w m n h0) ?_
    generalize voteW w m n = r
    obtain ⟨w', ok⟩ := r
    simp (config := { maxSteps := 4000000 }) only [go_sem, simprocAttr, ↓dnA, Tryz.f73, rows_length, encW, encWF, h0]

theorem c_spec_WorldVote (n1 n2 n3 n4 n5 : Option Bool) (w : Wld) (m n : Int) (hx : WldSz w) :
    Det Tryz.prog 72 [.agg (encW n1 n2 n3 n4 n5 w), .int .i64 m, .int .i64 n] (.tup [.agg (encWF (worldVote w m n).1), .bool (worldVote w m n).2]) := by
  refine fspec_det tab_ok Tryz.call72 Tryz.func72 rfl 78 Tryz.ntmps72 (of_decide_eq_true rfl) fun B => codeK_sound tab_ok _ _ _ ?_
  simp (config := { maxSteps := 4000000 }) only [go_sem, simprocAttr, ↓dnA, Tryz.f72, rows_length, encW, encWF]
  refine CallTo.det (c_spec_WorldValid n1 n2 n3 n4 n5 w hx) fun _ => ?_
  cases h0 : worldValid w with
  | false => simp (config := { maxSteps := 4000000 }) only [go_sem, simprocAttr, ↓dnA, Tryz.f72, rows_length, encW, encWF, h0, worldVote_no h0, noW, rows_nil]
  | true =>
    have hs := worldOk_s32 h0
    obtain ⟨ht, h4, hvo, hvl, hvs⟩ := worldValid_parts h0
    have hlen := ht.len
    have hw : IntKind.i64.wrap ((w.votes.length : Int) - 1) = (w.votes.length : Int) - 1 := wrap_small _ (by omega) (by omega)
    rw [worldVote_yes h0]
    simp (config := { maxSteps := 4000000 }) only [go_sem, simprocAttr, ↓dnA, Tryz.f72, rows_length, encW, encWF, h0]
    refine CallTo.det (c_spec_l18Copy n1 n2 n3 n4 n5 w hs.tree hs.voters hs.votes) fun _ => ?_
    simp (config := { maxSteps := 4000000 }) only [go_sem, simprocAttr, ↓dnA, Tryz.f72, rows_length, encW, encWF, h0, hw]
    refine CallTo.det (c_l1In _ _ _) fun _ => ?_
    cases q1 : inB m 0 3 with
    | false =>
      have hno := voteW_no (w := w) (m := m) (n := n) (fun e => by have := inB_iff.2 e.1; rw [q1] at this; cases this)
      simp (config := { maxSteps := 4000000 }) only [go_sem, simprocAttr, ↓dnA, Tryz.f72, rows_length, encW, encWF, h0, hw, q1, hno]
    | true =>
      have hm := inB_iff.1 q1
      obtain ⟨a, rfl⟩ : ∃ a : Nat, m = (a : Int) := ⟨m.toNat, by omega⟩
      simp (config := { maxSteps := 4000000 }) only [go_sem, simprocAttr, ↓dnA, Tryz.f72, rows_length, encW, encWF, h0, hw, q1]
      refine CallTo.det (c_l1In _ _ _) fun _ => ?_
      cases q2 : inB n 1 ((w.votes.length : Int) - 1) with
      | false =>
        have hno := voteW_no (w := w) (m := (a : Int)) (n := n) (fun e => by have h := e.2.1; have := inB_iff.2 (show 1 ≤ n ∧ n ≤ (w.votes.length : Int) - 1 by omega); rw [q2] at this; cases this)
        simp (config := { maxSteps := 4000000 }) only [go_sem, simprocAttr, ↓dnA, Tryz.f72, rows_length, encW, encWF, h0, hw, q1, q2, hno]
      | true =>
        have hn := inB_iff.1 q2
        obtain ⟨b, rfl⟩ : ∃ b : Nat, n = (b : Int) := ⟨n.toNat, by omega⟩
        have hbl : b < w.votes.length := by omega
        have hgb : w.votes.getD b 0 = w.votes[b] := by rw [List.getD_eq_getElem?_getD, List.getElem?_eq_getElem hbl]; rfl
        have hvb := hvs _ (List.getElem_mem hbl)
        have ha4 : a < 4 := by omega
        obtain ⟨k1, k2, k3, k4, k5⟩ := mask_facts hvb ha4
        cases q3 : hasB w.votes[b] a with
        | true =>
          have hno := voteW_no (w := w) (m := (a : Int)) (n := (b : Int)) (fun e => by have h := e.2.2; rw [Int.toNat_natCast, Int.toNat_natCast, hgb, q3] at h; cases h)
          rw [q3] at k2
          simp (config := { maxSteps := 4000000 }) only [go_sem, simprocAttr, ↓dnA, Tryz.f72, rows_length, encW, encWF, h0, hw, q1, q2, nlt hbl, hbl, nn0, rows_get _ _ _ hbl, encI, k2, hno]
        | false =>
          have hok : VoteOk w (a : Int) (b : Int) := ⟨hm, by omega, by rw [Int.toNat_natCast, Int.toNat_natCast, hgb]; exact q3⟩
          have hvd : voted w (a : Int) (b : Int) = w.votes.set b (orB w.votes[b] a) := by unfold voted; rw [Int.toNat_natCast, Int.toNat_natCast, hgb]
          have hrs : (rows encI w.votes).set b [.int .i64 (orB w.votes[b] a)] = rows encI (w.votes.set b (orB w.votes[b] a)) := by rw [← rows_set]; rfl
          rw [q3] at k2
          by_cases hm3 : (a : Int) = 3
          · have hne : decide ((a : Int) < 3) = false := by simp; omega
            have hr := voteW_3 hok hm3
            rw [hvd] at hr
            simp (config := { maxSteps := 4000000 }) only [go_sem, simprocAttr, ↓dnA, Tryz.f72, rows_length, encW, encWF, h0, hw, q1, q2, nlt hbl, hbl, nn0, rows_get _ _ _ hbl, encI, k2, hne]
            refine semL_draw tab_ok mixed_ rfl (ord := [(0, []), (1, []), (2, []), (3, []), (4, []), (5, []), (6, []), (7, []), (8, []), (9, []), (10, []), (11, []), (12, [])]) (by dsimp only; decide +kernel) ?_
            simp (config := { maxSteps := 4000000 }) only [go_sem, simprocAttr, ↓dnA, Tryz.f72, rows_length, encW, encWF, h0, hw, q1, q2, nlt hbl, hbl, nn0, rows_get _ _ _ hbl, encI, k2, hne, ↓intK_or, k3, spliceL, hr, hrs, List.length_set]
          · have hne : decide ((a : Int) < 3) = true := by simp; omega
            have hav : a < w.voters.length := by omega
            have hgv : w.voters.getD a ⟨0, 0⟩ = w.voters[a] := by rw [List.getD_eq_getElem?_getD, List.getElem?_eq_getElem hav]; rfl
            have hre : voteR w (a : Int) (b : Int) = voteFor w.voters[a] w.tree (certW w) (b : Int) := by unfold voteR; rw [Int.toNat_natCast, hgv]
            have ev : encV w.voters[a] = [.int .i64 w.voters[a].last, .int .i64 w.voters[a].lock] := rfl
            have hcl := certW_len w
            simp (config := { maxSteps := 4000000 }) only [go_sem, simprocAttr, ↓dnA, Tryz.f72, rows_length, encW, encWF, h0, hw, q1, q2, nlt hbl, hbl, nn0, rows_get _ _ _ hbl, encI, k2, hne]
            refine semL_draw tab_ok mixed_ rfl (ord := [(0, []), (1, []), (2, []), (3, []), (4, []), (5, []), (6, []), (7, []), (9, []), (8, [0, 1, 2, 3, 4, 5, 6, 9]), (10, []), (11, []), (12, []), (13, []), (14, [0, 1, 2, 3, 4, 5, 6, 7, 9, 11, 12, 13]), (15, [13]), (16, [])]) (by dsimp only; decide +kernel) ?_
            simp (config := { maxSteps := 4000000 }) only [go_sem, simprocAttr, ↓dnA, Tryz.f72, rows_length, encW, encWF, h0, hw, q1, q2, nlt hbl, hbl, nn0, rows_get _ _ _ hbl, encI, k2, hne, nlt hav, hav, rows_get _ _ _ hav, ev]
            refine CallTo.det (c_spec_l18Certified n1 n2 n3 n4 n5 w hs.votes hvs) fun _ => ?_
            simp (config := { maxSteps := 4000000 }) only [go_sem, simprocAttr, ↓dnA, Tryz.f72, rows_length, encW, encWF, h0, hw, q1, q2, nlt hbl, hbl, nn0, rows_get _ _ _ hbl, encI, k2, hne, nlt hav, hav, rows_get _ _ _ hav, ev]
            refine CallTo.det (c_spec_VoteFor n1 n2 n3 (some true) w.voters[a] w.tree (certW w) (b : Int) hs.tree.sz (by omega)) fun _ => ?_
            have hy := voteW_yes hok hm3
            have hnt := voteW_not hok hm3
            rw [hre, hvd] at hy
            rw [hre] at hnt
            generalize voteFor w.voters[a] w.tree (certW w) (b : Int) = r at hy hnt
            obtain ⟨x, ok⟩ := r
            dsimp only at hy hnt ⊢
            cases ok with
            | false =>
              have hnt := hnt rfl
              simp (config := { maxSteps := 4000000 }) only [go_sem, simprocAttr, ↓dnA, Tryz.f72, rows_length, encW, encWF, h0, hw, q1, q2, nlt hbl, hbl, nn0, rows_get _ _ _ hbl, encI, k2, hne, nlt hav, hav, rows_get _ _ _ hav, encV, hnt]
            | true =>
              have hy := hy rfl
              rw [Int.toNat_natCast] at hy
              have hrv : (rows encV w.voters).set a [.int .i64 x.last, .int .i64 x.lock] = rows encV (w.voters.set a x) := by rw [← rows_set]; rfl
              simp (config := { maxSteps := 4000000 }) only [go_sem, simprocAttr, ↓dnA, Tryz.f72, rows_length, encW, encWF, h0, hw, q1, q2, nlt hbl, hbl, nn0, rows_get _ _ _ hbl, encI, k2, hne, nlt hav, hav, rows_get _ _ _ hav, encV, spliceL, List.length_set]
              refine semL_draw tab_ok mixed_ rfl (ord := [(0, []), (1, []), (2, []), (3, []), (4, []), (5, []), (6, []), (7, []), (8, []), (9, []), (10, []), (11, []), (12, [])]) (by dsimp only; decide +kernel) ?_
              simp (config := { maxSteps := 4000000 }) only [go_sem, simprocAttr, ↓dnA, Tryz.f72, rows_length, encW, encWF, h0, hw, q1, q2, nlt hbl, hbl, nn0, rows_get _ _ _ hbl, encI, k2, hne, nlt hav, hav, rows_get _ _ _ hav, encV, ↓intK_or, k3, spliceL, hy, hrs, hrv, List.length_set]

end Go.Proofs.YtmibclbinebnjaaGreat

/- Contracts: worlds after votes. -/
set_option linter.unusedSimpArgs false
set_option linter.unusedVariables false
set_option maxRecDepth 20000
set_option maxHeartbeats 4000000
namespace Go.Proofs.YtmibclbinebnjaaGreat
open Go Go.RowKit

noncomputable def stepV (p : Wld × Int) (m : Int) : Wld × Int := ((voteW p.1 (m.tmod 4) (m.tdiv 4)).1, if (voteW p.1 (m.tmod 4) (m.tdiv 4)).2 then p.2 + 1 else p.2)
noncomputable def runW (w : Wld) (sc : List Int) : Wld × Int := sc.foldl stepV (w, 0)
def ScOk (sc : List Int) : Prop := sc.length ≤ 100 ∧ (sc.all fun m => inB m 0 1000) = true
open Classical in
noncomputable def worldRun (w : Wld) (sc : List Int) : Wld × Int := if worldValid w = true ∧ ScOk sc then runW w sc else (noW, -1)

theorem worldRun_yes {w : Wld} {sc : List Int} (h : worldValid w = true) (hs : ScOk sc) : worldRun w sc = runW w sc := by unfold worldRun; rw [if_pos ⟨h, hs⟩]
theorem worldRun_no {w : Wld} {sc : List Int} (h : ¬ (worldValid w = true ∧ ScOk sc)) : worldRun w sc = (noW, -1) := by unfold worldRun; rw [if_neg h]
theorem runW_take (w : Wld) (sc : List Int) (i : Nat) (h : i < sc.length) : runW w (sc.take (i + 1)) = stepV (runW w (sc.take i)) sc[i] := by
  unfold runW; rw [take_snoc _ _ h, List.foldl_append]; rfl
theorem runW_ok {w : Wld} (hv : worldValid w = true) (sc : List Int) : ∀ i, i ≤ sc.length → worldValid (runW w (sc.take i)).1 = true ∧ wsz (runW w (sc.take i)).1 = wsz w ∧ 0 ≤ (runW w (sc.take i)).2 ∧ (runW w (sc.take i)).2 ≤ i
  | 0, _ => ⟨hv, rfl, by simp [runW], by simp [runW]⟩
  | i + 1, hi => by
    obtain ⟨h1, h2, h3, h4⟩ := runW_ok hv sc i (by omega)
    rw [runW_take w sc i (by omega)]
    refine ⟨voteW_valid h1 _ _, ?_, ?_, ?_⟩
    · show wsz (voteW _ _ _).1 = _; rw [voteW_wsz, h2]
    · unfold stepV; dsimp only; split <;> omega
    · unfold stepV; dsimp only; split <;> omega
theorem worldRun_wsz (w : Wld) (sc : List Int) : wsz (worldRun w sc).1 ≤ wsz w := by
  unfold worldRun
  split
  · rename_i h
    have := (runW_ok h.1 sc sc.length (Nat.le_refl _)).2.1
    rw [List.take_length] at this
    omega
  · show wsz noW ≤ _; rw [noW_wsz]; omega

theorem c_impl_WorldRun1 (n : Int) : Det Tryz.prog 154 [.int .i64 n] (.bool (!inB n 0 1000)) := by
  refine fspec_det tab_ok Tryz.call154 Tryz.func154 rfl 6 Tryz.ntmps154 (of_decide_eq_true rfl) fun B => codeK_sound tab_ok _ _ _ ?_
  simp (config := { maxSteps := 4000000 }) only [go_sem, simprocAttr, ↓dnA, Tryz.f154, rows_length, encW, encWF]
  refine CallTo.det (c_in _ _ _) fun _ => ?_
  simp (config := { maxSteps := 4000000 }) only [go_sem, simprocAttr, ↓dnA, Tryz.f154, rows_length, encW, encWF]

theorem c_impl_WorldRun (n1 n2 n3 n4 n5 n6 : Option Bool) (w : Wld) (sc : List Int) (hx : WldSz w) (hsc : sc.length < 2 ^ 62) :
    Det Tryz.prog 81 [.agg (encW n1 n2 n3 n4 n5 w), .sl n6 (rows encI sc)] (.tup [.agg (encWF (worldRun w sc).1), .int .i64 (worldRun w sc).2]) := by
  refine fspec_det tab_ok Tryz.call81 Tryz.func81 rfl 41 Tryz.ntmps81 (of_decide_eq_true rfl) fun B => codeK_sound tab_ok _ _ _ ?_
  simp (config := { maxSteps := 4000000 }) only [go_sem, simprocAttr, ↓dnA, Tryz.f81, rows_length, encW, encWF]
  refine CallTo.det (c_impl_WorldValid n1 n2 n3 n4 n5 w hx) fun _ => ?_
  cases h0 : worldValid w with
  | false =>
    have hno := worldRun_no (w := w) (sc := sc) (fun e => by rw [h0] at e; cases e.1)
    simp (config := { maxSteps := 4000000 }) only [go_sem, simprocAttr, ↓dnA, Tryz.f81, rows_length, encW, encWF, h0, hno, noW, rows_nil]
  | true =>
    by_cases h100 : (sc.length : Int) > 100
    · have hno := worldRun_no (w := w) (sc := sc) (fun e => by have := e.2.1; omega)
      simp (config := { maxSteps := 4000000 }) only [go_sem, simprocAttr, ↓dnA, Tryz.f81, rows_length, encW, encWF, h0, decide_eq_true h100, hno, noW, rows_nil]
    · have d100 := decide_eq_false h100
      have e2 : sc.any (fun m => !inB m 0 1000) = !sc.all fun m => inB m 0 1000 := any_not _ _
      simp (config := { maxSteps := 4000000 }) only [go_sem, simprocAttr, ↓dnA, Tryz.f81, rows_length, encW, encWF, h0, d100]
      refine CallTo.det (c_slices_ContainsFunc_int n6 sc _ _ hsc rfl fun v _ => c_impl_WorldRun1 v) fun _ => ?_
      cases hal : (sc.all fun m => inB m 0 1000) with
      | false =>
        have hno := worldRun_no (w := w) (sc := sc) (fun e => by have := e.2.2; rw [hal] at this; cases this)
        simp (config := { maxSteps := 4000000 }) only [go_sem, simprocAttr, ↓dnA, Tryz.f81, rows_length, encW, encWF, h0, d100, e2, hal, hno, noW, rows_nil]
      | true =>
        have hs := worldOk_s32 h0
        rw [worldRun_yes h0 ⟨by omega, hal⟩]
        simp (config := { maxSteps := 4000000 }) only [go_sem, simprocAttr, ↓dnA, Tryz.f81, rows_length, encW, encWF, h0, d100, e2, hal]
        refine CallTo.det (c_impl_World_clone n1 n2 n3 n4 n5 w hs.tree hs.voters hs.votes) fun _ => ?_
        simp (config := { maxSteps := 4000000 }) only [go_sem, simprocAttr, ↓dnA, Tryz.f81, rows_length, encW, encWF, h0, d100, e2, hal]
        refine semL_for tab_ok (fun i : Nat => ⟨41, [(4, .loc 4 0), (6, .loc 6 0), (7, .int .i64 (runW w (sc.take i)).2), (25, .sl n6 (rows encI sc)), (26, .int .i64 sc.length), (27, .int .i64 i)],
            [(4, .var [.sl (some false) [], .sl (some false) [], .sl (some false) [], .sl (some false) [], .sl (some false) []]),
              (6, .var [.row 601 (runW w (sc.take i)).1.tree.base.length, .row 602 (runW w (sc.take i)).1.tree.blocks.length, .row 603 (runW w (sc.take i)).1.tree.before.length, .row 604 (runW w (sc.take i)).1.voters.length, .row 605 (runW w (sc.take i)).1.votes.length]),
              (601, .row true false 2 (rows encE (runW w (sc.take i)).1.tree.base)), (602, .row true false 6 (rows encB1 (runW w (sc.take i)).1.tree.blocks)), (603, .row true false 1 (rows encI (runW w (sc.take i)).1.tree.before)), (604, .row true false 2 (rows encV (runW w (sc.take i)).1.voters)), (605, .row true false 1 (rows encI (runW w (sc.take i)).1.votes))]⟩) (fun i => sc.length - i)
          (fun i => i ≤ sc.length) 0 [(4, 4), (6, 6), (25000, 601), (25001, 602), (25002, 603), (25003, 604), (25004, 605)] (Weak.of (by rfl) ?_ ?_ (by rfl)) (by omega) ?_
        · simp (config := { maxSteps := 4000000 }) only [go_sem, simprocAttr, ↓dnA, Tryz.f81, rows_length, encW, encWF, List.take_zero, runW, List.foldl_nil, frW, wk2, wk1, wkL, wkB, hpW, List.mem_cons, Prod.mk.injEq, exists_eq_left, exists_eq_right, exists_eq]
          try rfl
        · simp (config := { maxSteps := 4000000 }) only [go_sem, simprocAttr, ↓dnA, Tryz.f81, rows_length, encW, encWF, nc0, List.take_zero, runW, List.foldl_nil, frW, wk2, wk1, wkL, wkB, hpW, List.mem_cons, Prod.mk.injEq, exists_eq_left, exists_eq_right, exists_eq]
          try rfl
        · rintro i hi
          obtain ⟨r1, r2, r3, r4⟩ := runW_ok h0 sc i hi
          by_cases h : i < sc.length
          · have hw : IntKind.i64.wrap ((i : Int) + 1) = ((i + 1 : Nat) : Int) := wsucc h (by omega)
            have hst := runW_take w sc i h
            have hb := inB_iff.1 (List.all_eq_true.1 hal _ (List.getElem_mem h))
            generalize runW w (sc.take i) = p at r1 r2 r3 r4 hst
            obtain ⟨u, d⟩ := p
            dsimp only at r1 r2 r3 r4
            have t1 : IntKind.i64.wrap (sc[i].tdiv 4) = sc[i].tdiv 4 := by
              have : sc[i].tdiv 4 = sc[i] / 4 := Int.tdiv_eq_ediv_of_nonneg hb.1
              rw [this]
              exact wrap_small _ (by omega) (by omega)
            have hwd : IntKind.i64.wrap (d + 1) = d + 1 := wrap_small _ (by omega) (by omega)
            simp (config := { maxSteps := 4000000 }) only [go_sem, simprocAttr, ↓dnA, Tryz.f81, rows_length, encW, encWF, nlt h, h, nn0, rows_get _ _ _ h, encI, t1]
            refine CallTo.detB (c_impl_vote u (sc[i].tmod 4) (sc[i].tdiv 4) r1) ?_
            unfold stepV at hst
            dsimp only at hst
            generalize voteW u (sc[i].tmod 4) (sc[i].tdiv 4) = r at hst
            obtain ⟨x, ok⟩ := r
            dsimp only at hst
            cases ok with
            | false =>
              rw [if_neg Bool.false_ne_true] at hst
              simp (config := { maxSteps := 4000000 }) only [go_sem, simprocAttr, ↓dnA, Tryz.f81, rows_length, encW, encWF, nlt h, h, nn0, rows_get _ _ _ h, encI, t1, hw]
              refine ⟨i + 1, [(4, 4), (6, 6), (36500, 601), (36501, 602), (36502, 603), (36503, 604), (36504, 605)], by omega, by dsimp only; omega, Weak.of (by rfl) ?_ ?_ (by rfl)⟩
              · simp (config := { maxSteps := 4000000 }) only [go_sem, simprocAttr, ↓dnA, Tryz.f81, rows_length, encW, encWF, hst, frW, wk2, wk1, wkL, wkB, hpW, List.mem_cons, Prod.mk.injEq, exists_eq_left, exists_eq_right, exists_eq]
              · simp (config := { maxSteps := 4000000 }) only [go_sem, simprocAttr, ↓dnA, Tryz.f81, rows_length, encW, encWF, hst, frW, wk2, wk1, wkL, wkB, hpW, List.mem_cons, Prod.mk.injEq, exists_eq_left, exists_eq_right, exists_eq]
            | true =>
              rw [if_pos rfl] at hst
              simp (config := { maxSteps := 4000000 }) only [go_sem, simprocAttr, ↓dnA, Tryz.f81, rows_length, encW, encWF, nlt h, h, nn0, rows_get _ _ _ h, encI, t1, hwd, hw]
              refine ⟨i + 1, [(4, 4), (6, 6), (36500, 601), (36501, 602), (36502, 603), (36503, 604), (36504, 605)], by omega, by dsimp only; omega, Weak.of (by rfl) ?_ ?_ (by rfl)⟩
              · simp (config := { maxSteps := 4000000 }) only [go_sem, simprocAttr, ↓dnA, Tryz.f81, rows_length, encW, encWF, hst, frW, wk2, wk1, wkL, wkB, hpW, List.mem_cons, Prod.mk.injEq, exists_eq_left, exists_eq_right, exists_eq]
              · simp (config := { maxSteps := 4000000 }) only [go_sem, simprocAttr, ↓dnA, Tryz.f81, rows_length, encW, encWF, hst, frW, wk2, wk1, wkL, wkB, hpW, List.mem_cons, Prod.mk.injEq, exists_eq_left, exists_eq_right, exists_eq]
          · have hi' : i = sc.length := by omega
            subst hi'
            simp (config := { maxSteps := 4000000 }) only [go_sem, simprocAttr, ↓dnA, Tryz.f81, rows_length, encW, encWF, nlf h, List.take_length]

theorem c_spec_WorldRun (n1 n2 n3 n4 n5 n6 : Option Bool) (w : Wld) (sc : List Int) (hx : WldSz w) (hsc : sc.length < 2 ^ 62) :
    Det Tryz.prog 79 [.agg (encW n1 n2 n3 n4 n5 w), .sl n6 (rows encI sc)] (.tup [.agg (encWF (worldRun w sc).1), .int .i64 (worldRun w sc).2]) := by
  refine fspec_det tab_ok Tryz.call79 Tryz.func79 rfl 56 Tryz.ntmps79 (of_decide_eq_true rfl) fun B => codeK_sound tab_ok _ _ _ ?_
  simp (config := { maxSteps := 4000000 }) only [go_sem, simprocAttr, ↓dnA, Tryz.f79, rows_length, encW, encWF]
  refine CallTo.det (c_spec_WorldValid n1 n2 n3 n4 n5 w hx) fun _ => ?_
  cases h0 : worldValid w with
  | false =>
    have hno := worldRun_no (w := w) (sc := sc) (fun e => by rw [h0] at e; cases e.1)
    simp (config := { maxSteps := 4000000 }) only [go_sem, simprocAttr, ↓dnA, Tryz.f79, rows_length, encW, encWF, h0, hno, noW, rows_nil]
  | true =>
    by_cases h100 : (sc.length : Int) > 100
    · have hno := worldRun_no (w := w) (sc := sc) (fun e => by have := e.2.1; omega)
      simp (config := { maxSteps := 4000000 }) only [go_sem, simprocAttr, ↓dnA, Tryz.f79, rows_length, encW, encWF, h0, decide_eq_true h100, hno, noW, rows_nil]
    · have d100 := decide_eq_false h100
      have hs := worldOk_s32 h0
      simp (config := { maxSteps := 4000000 }) only [go_sem, simprocAttr, ↓dnA, Tryz.f79, rows_length, encW, encWF, h0, d100]
      refine CallTo.det (c_spec_l18Copy n1 n2 n3 n4 n5 w hs.tree hs.voters hs.votes) fun _ => ?_
      simp (config := { maxSteps := 4000000 }) only [go_sem, simprocAttr, ↓dnA, Tryz.f79, rows_length, encW, encWF, h0, d100]
      refine semL_for tab_ok (fun i : Nat => ⟨56, [(1, .sl n6 (rows encI sc)), (4, .loc 4 0), (6, .int .i64 (runW w (sc.take i)).2), (7, .loc 7 0), (8, .int .i64 i)],
          [(4, .var [.sl (some false) [], .sl (some false) [], .sl (some false) [], .sl (some false) [], .sl (some false) []]),
            (7, .var [.row 601 (runW w (sc.take i)).1.tree.base.length, .row 602 (runW w (sc.take i)).1.tree.blocks.length, .row 603 (runW w (sc.take i)).1.tree.before.length, .row 604 (runW w (sc.take i)).1.voters.length, .row 605 (runW w (sc.take i)).1.votes.length]),
            (601, .row true false 2 (rows encE (runW w (sc.take i)).1.tree.base)), (602, .row true false 6 (rows encB1 (runW w (sc.take i)).1.tree.blocks)), (603, .row true false 1 (rows encI (runW w (sc.take i)).1.tree.before)), (604, .row true false 2 (rows encV (runW w (sc.take i)).1.voters)), (605, .row true false 1 (rows encI (runW w (sc.take i)).1.votes))]⟩) (fun i => sc.length - i)
        (fun i => i ≤ sc.length ∧ ((sc.take i).all fun m => inB m 0 1000) = true) 0 [(4, 4), (7, 7), (22000, 601), (22001, 602), (22002, 603), (22003, 604), (22004, 605)] (Weak.of (by rfl) ?_ ?_ (by rfl)) ⟨by omega, rfl⟩ ?_
      · simp (config := { maxSteps := 4000000 }) only [go_sem, simprocAttr, ↓dnA, Tryz.f79, rows_length, encW, encWF, List.take_zero, runW, List.foldl_nil, frW, wk2, wk1, wkL, wkB, hpW, List.mem_cons, Prod.mk.injEq, exists_eq_left, exists_eq_right, exists_eq]
        try rfl
      · simp (config := { maxSteps := 4000000 }) only [go_sem, simprocAttr, ↓dnA, Tryz.f79, rows_length, encW, encWF, nc0, List.take_zero, runW, List.foldl_nil, frW, wk2, wk1, wkL, wkB, hpW, List.mem_cons, Prod.mk.injEq, exists_eq_left, exists_eq_right, exists_eq]
        try rfl
      · rintro i ⟨hi, hal⟩
        obtain ⟨r1, r2, r3, r4⟩ := runW_ok h0 sc i hi
        by_cases h : i < sc.length
        · have hw : IntKind.i64.wrap ((i : Int) + 1) = ((i + 1 : Nat) : Int) := wsucc h (by omega)
          have hst := runW_take w sc i h
          simp (config := { maxSteps := 4000000 }) only [go_sem, simprocAttr, ↓dnA, Tryz.f79, rows_length, encW, encWF, nlt h, h, nn0, rows_get _ _ _ h, encI]
          refine CallTo.det (c_l1In _ _ _) fun _ => ?_
          cases hb0 : inB sc[i] 0 1000 with
          | false =>
            have hno := worldRun_no (w := w) (sc := sc) (fun e => by
              have := List.all_eq_true.1 e.2.2 _ (List.getElem_mem h)
              rw [hb0] at this; cases this)
            simp (config := { maxSteps := 4000000 }) only [go_sem, simprocAttr, ↓dnA, Tryz.f79, rows_length, encW, encWF, nlt h, h, nn0, rows_get _ _ _ h, encI, hb0, hno, noW, rows_nil]
          | true =>
            have hb := inB_iff.1 hb0
            have hal' : ((sc.take (i + 1)).all fun m => inB m 0 1000) = true := by
              rw [take_snoc _ _ h, List.all_append, hal, List.all_cons, hb0]; rfl
            generalize runW w (sc.take i) = p at r1 r2 r3 r4 hst
            obtain ⟨u, d⟩ := p
            dsimp only at r1 r2 r3 r4
            have t1 : IntKind.i64.wrap (sc[i].tdiv 4) = sc[i].tdiv 4 := by
              have : sc[i].tdiv 4 = sc[i] / 4 := Int.tdiv_eq_ediv_of_nonneg hb.1
              rw [this]
              exact wrap_small _ (by omega) (by omega)
            have hwd : IntKind.i64.wrap (d + 1) = d + 1 := wrap_small _ (by omega) (by omega)
            simp (config := { maxSteps := 4000000 }) only [go_sem, simprocAttr, ↓dnA, Tryz.f79, rows_length, encW, encWF, nlt h, h, nn0, rows_get _ _ _ h, encI, hb0]
            refine semL_draw tab_ok mixed_ rfl (ord := [(0, []), (1, []), (2, []), (3, []), (4, []), (5, []), (6, []), (7, []), (8, []), (9, []), (10, []), (11, []), (12, []), (13, []), (14, []), (15, [0, 1, 2, 3, 4, 5, 6, 7, 8, 9, 10, 12, 13, 14]), (16, [14]), (17, [])]) (by dsimp only; decide +kernel) ?_
            simp (config := { maxSteps := 4000000 }) only [go_sem, simprocAttr, ↓dnA, Tryz.f79, rows_length, encW, encWF, nlt h, h, nn0, rows_get _ _ _ h, encI, hb0, t1]
            refine CallTo.det (c_spec_WorldVote none none none none none u (sc[i].tmod 4) (sc[i].tdiv 4) (worldOk_s32 r1).sz) fun _ => ?_
            rw [worldVote_yes r1]
            unfold stepV at hst
            dsimp only at hst
            generalize voteW u (sc[i].tmod 4) (sc[i].tdiv 4) = r at hst
            obtain ⟨x, ok⟩ := r
            dsimp only at hst
            cases ok with
            | false =>
              rw [if_neg Bool.false_ne_true] at hst
              simp (config := { maxSteps := 4000000 }) only [go_sem, simprocAttr, ↓dnA, Tryz.f79, rows_length, encW, encWF, nlt h, h, nn0, rows_get _ _ _ h, encI, hb0, t1, hw]
              refine ⟨i + 1, [(4, 4), (7, 7), (48000, 601), (48001, 602), (48002, 603), (48003, 604), (48004, 605)], ⟨by omega, hal'⟩, by dsimp only; omega, Weak.of (by rfl) ?_ ?_ (by rfl)⟩
              · simp (config := { maxSteps := 4000000 }) only [go_sem, simprocAttr, ↓dnA, Tryz.f79, rows_length, encW, encWF, hst, frW, wk2, wk1, wkL, wkB, hpW, List.mem_cons, Prod.mk.injEq, exists_eq_left, exists_eq_right, exists_eq]
              · simp (config := { maxSteps := 4000000 }) only [go_sem, simprocAttr, ↓dnA, Tryz.f79, rows_length, encW, encWF, hst, frW, wk2, wk1, wkL, wkB, hpW, List.mem_cons, Prod.mk.injEq, exists_eq_left, exists_eq_right, exists_eq]
            | true =>
              rw [if_pos rfl] at hst
              simp (config := { maxSteps := 4000000 }) only [go_sem, simprocAttr, ↓dnA, Tryz.f79, rows_length, encW, encWF, nlt h, h, nn0, rows_get _ _ _ h, encI, hb0, t1, hwd, hw]
              refine ⟨i + 1, [(4, 4), (7, 7), (48000, 601), (48001, 602), (48002, 603), (48003, 604), (48004, 605)], ⟨by omega, hal'⟩, by dsimp only; omega, Weak.of (by rfl) ?_ ?_ (by rfl)⟩
              · simp (config := { maxSteps := 4000000 }) only [go_sem, simprocAttr, ↓dnA, Tryz.f79, rows_length, encW, encWF, hst, frW, wk2, wk1, wkL, wkB, hpW, List.mem_cons, Prod.mk.injEq, exists_eq_left, exists_eq_right, exists_eq]
              · simp (config := { maxSteps := 4000000 }) only [go_sem, simprocAttr, ↓dnA, Tryz.f79, rows_length, encW, encWF, hst, frW, wk2, wk1, wkL, wkB, hpW, List.mem_cons, Prod.mk.injEq, exists_eq_left, exists_eq_right, exists_eq]
        · have hi' : i = sc.length := by omega
          subst hi'
          rw [List.take_length] at hal
          have hyes := worldRun_yes h0 (sc := sc) ⟨by omega, hal⟩
          simp (config := { maxSteps := 4000000 }) only [go_sem, simprocAttr, ↓dnA, Tryz.f79, rows_length, encW, encWF, nlf h, List.take_length, hyes]

end Go.Proofs.YtmibclbinebnjaaGreat

/- Contracts: FnExactWorldRun. -/
set_option linter.unusedSimpArgs false
set_option linter.unusedVariables false
set_option maxRecDepth 20000
set_option maxHeartbeats 4000000
namespace Go.Proofs.YtmibclbinebnjaaGreat
open Go Go.RowKit

theorem c_laws_FnExactWorldRun (n00 n01 n02 n03 n04 n10 : Option Bool) (w : Wld) (sc : List Int) (hw : WldLen w) (hsc : sc.length ≤ 9223372036854775807) :
    Det Tryz.prog 17 [.agg (encW n00 n01 n02 n03 n04 w), .sl n10 (rows encI sc)] (.bool true) := by
  refine fspec_det tab_ok Tryz.call17 Tryz.func17 rfl 117 Tryz.ntmps17 (of_decide_eq_true rfl) fun B => codeK_sound tab_ok _ _ _ ?_
  cases dl : decide ((sc.length : Int) > 1048576) with
  | true => simp (config := { maxSteps := 4000000 }) only [go_sem, simprocAttr, ↓dnA, Tryz.f17, encW, encWO, encWF, encT, encTO, List.nodup_cons, rows_length, markS_length, dl]
  | false =>
  have dl' := of_decide_eq_false dl
  have qsc : sc.length ≤ 1048576 := by omega
  have hle0 : (0 : Int) ≤ 1048576 ∧ (1048576 : Int) ≤ 1048576 := by omega
  obtain ⟨r0, hr0, hr0b, hT0, hE0⟩ := c_laws_szWorld n00 n01 n02 n03 n04 w 1048576 hw hle0
  simp (config := { maxSteps := 4000000 }) only [go_sem, simprocAttr, ↓dnA, Tryz.f17, encW, encWO, encWF, encT, encTO, List.nodup_cons, rows_length, markS_length, dl]
  refine CallTo.det hr0 fun _ => ?_
  cases d0 : decide (r0 < 0) with
  | true => simp (config := { maxSteps := 4000000 }) only [go_sem, simprocAttr, ↓dnA, Tryz.f17, encW, encWO, encWF, encT, encTO, List.nodup_cons, rows_length, markS_length, dl, d0]
  | false =>
  have d0' := of_decide_eq_false d0
  have hsw := hT0 (by omega)
  have hle1 : 0 ≤ r0 ∧ r0 ≤ 1048576 := by omega
  have hmw := stW_small hsw
  have esc := stepS_const stI 1 (fun _ => rfl) sc
  have hgt : wsz (worldRun w sc).1 ≤ 4194304 := by have := worldRun_wsz w sc; have := hsw.sum; omega
  have hS := c_spec_WorldRun (some true) (some true) (some true) (some true) (some true) (some true) w sc hsw.sz (by omega)
  have hN := c_impl_WorldRun (some true) (some true) (some true) (some true) (some true) (some true) w sc hsw.sz (by omega)
  generalize worldRun w sc = g0 at hS hN hgt
  obtain ⟨g0, g1⟩ := g0
  dsimp only at hS hN hgt
  have hgz := wsz_sz hgt (by omega)
  have hgm := stW_le g0
  have ml0 : (mkW g0 1).tree.base.length = g0.tree.base.length := markS_length ..
  have ml1 : (mkW g0 1).tree.blocks.length = g0.tree.blocks.length := markS_length ..
  have ml2 : (mkW g0 1).tree.before.length = g0.tree.before.length := markS_length ..
  have ml3 : (mkW g0 1).voters.length = g0.voters.length := markS_length ..
  have ml4 : (mkW g0 1).votes.length = g0.votes.length := markS_length ..
  have eg : decide (g0 = g0) = true := by simp
  have dm : decide (1 + (stW g0 : Int) < 0) = false := by simp; omega
  have eo : (g1 != g1) = false := by simp
  have dk : decide (1 + (stW w : Int) + (stepS stI sc : Int) < 0) = false := by simp; omega
  have eww : decide (w = w) = true := by simp
  have escsc : decide (sc = sc) = true := by simp
  simp (config := { maxSteps := 4000000 }) only [go_sem, simprocAttr, ↓dnA, Tryz.f17, encW, encWO, encWF, encT, encTO, List.nodup_cons, rows_length, markS_length, dl, d0, ml0, ml1, ml2, ml3, ml4, eg, dm, eo, dk, eww, escsc]
  refine CallTo.det (c_laws_toWorld n00 n01 n02 n03 n04 w hsw) fun _ => ?_
  simp (config := { maxSteps := 4000000 }) only [go_sem, simprocAttr, ↓dnA, Tryz.f17, encW, encWO, encWF, encT, encTO, List.nodup_cons, rows_length, markS_length, dl, d0, ml0, ml1, ml2, ml3, ml4, eg, dm, eo, dk, eww, escsc]
  refine CallTo.det (c_laws_toIntS n10 sc (by omega)) fun _ => ?_
  simp (config := { maxSteps := 4000000 }) only [go_sem, simprocAttr, ↓dnA, Tryz.f17, encW, encWO, encWF, encT, encTO, List.nodup_cons, rows_length, markS_length, dl, d0, ml0, ml1, ml2, ml3, ml4, eg, dm, eo, dk, eww, escsc]
  refine CallTo.det hS fun _ => ?_
  simp (config := { maxSteps := 4000000 }) only [go_sem, simprocAttr, ↓dnA, Tryz.f17, encW, encWO, encWF, encT, encTO, List.nodup_cons, rows_length, markS_length, dl, d0, ml0, ml1, ml2, ml3, ml4, eg, dm, eo, dk, eww, escsc]
  refine CallTo.det (c_laws_toWorld n00 n01 n02 n03 n04 w hsw) fun _ => ?_
  simp (config := { maxSteps := 4000000 }) only [go_sem, simprocAttr, ↓dnA, Tryz.f17, encW, encWO, encWF, encT, encTO, List.nodup_cons, rows_length, markS_length, dl, d0, ml0, ml1, ml2, ml3, ml4, eg, dm, eo, dk, eww, escsc]
  refine CallTo.det (c_laws_toIntS n10 sc (by omega)) fun _ => ?_
  simp (config := { maxSteps := 4000000 }) only [go_sem, simprocAttr, ↓dnA, Tryz.f17, encW, encWO, encWF, encT, encTO, List.nodup_cons, rows_length, markS_length, dl, d0, ml0, ml1, ml2, ml3, ml4, eg, dm, eo, dk, eww, escsc]
  refine CallTo.det hN fun _ => ?_
  simp (config := { maxSteps := 4000000 }) only [go_sem, simprocAttr, ↓dnA, Tryz.f17, encW, encWO, encWF, encT, encTO, List.nodup_cons, rows_length, markS_length, dl, d0, ml0, ml1, ml2, ml3, ml4, eg, dm, eo, dk, eww, escsc]
  refine CallTo.det (c_laws_eqWorld _ _ _ _ _ _ _ _ _ _ g0 g0 hgz hgz) fun _ => ?_
  simp (config := { maxSteps := 4000000 }) only [go_sem, simprocAttr, ↓dnA, Tryz.f17, encW, encWO, encWF, encT, encTO, List.nodup_cons, rows_length, markS_length, dl, d0, ml0, ml1, ml2, ml3, ml4, eg, dm, eo, dk, eww, escsc]
  refine semL_draw tab_ok mixed_ rfl (ord := [(0, []), (1, []), (2, [0]), (3, []), (4, [])]) (by dsimp only; decide +kernel) ?_
  simp (config := { maxSteps := 4000000 }) only [go_sem, simprocAttr, ↓dnA, Tryz.f17, encW, encWO, encWF, encT, encTO, List.nodup_cons, rows_length, markS_length, dl, d0, ml0, ml1, ml2, ml3, ml4, eg, dm, eo, dk, eww, escsc]
  refine CallTo.det (c_laws_toWorld n00 n01 n02 n03 n04 w hsw) fun _ => ?_
  simp (config := { maxSteps := 4000000 }) only [go_sem, simprocAttr, ↓dnA, Tryz.f17, encW, encWO, encWF, encT, encTO, List.nodup_cons, rows_length, markS_length, dl, d0, ml0, ml1, ml2, ml3, ml4, eg, dm, eo, dk, eww, escsc]
  refine CallTo.det (c_laws_eqWorld _ _ _ _ _ _ _ _ _ _ w w hsw.sz hsw.sz) fun _ => ?_
  simp (config := { maxSteps := 4000000 }) only [go_sem, simprocAttr, ↓dnA, Tryz.f17, encW, encWO, encWF, encT, encTO, List.nodup_cons, rows_length, markS_length, dl, d0, ml0, ml1, ml2, ml3, ml4, eg, dm, eo, dk, eww, escsc]
  refine CallTo.det (c_laws_toIntS n10 sc (by omega)) fun _ => ?_
  simp (config := { maxSteps := 4000000 }) only [go_sem, simprocAttr, ↓dnA, Tryz.f17, encW, encWO, encWF, encT, encTO, List.nodup_cons, rows_length, markS_length, dl, d0, ml0, ml1, ml2, ml3, ml4, eg, dm, eo, dk, eww, escsc]
  refine CallTo.det (c_laws_eqIntS _ _ sc sc (by omega) (by omega)) fun _ => ?_
  simp (config := { maxSteps := 4000000 }) only [go_sem, simprocAttr, ↓dnA, Tryz.f17, encW, encWO, encWF, encT, encTO, List.nodup_cons, rows_length, markS_length, dl, d0, ml0, ml1, ml2, ml3, ml4, eg, dm, eo, dk, eww, escsc]
  refine CallMTo.of (c_laws_markWorld true true true true true w _ hsw.sz ⟨by omega, by omega⟩) ?_
  rintro r ls' ⟨rfl, rfl⟩
  simp (config := { maxSteps := 4000000 }) only [go_sem, simprocAttr, ↓dnA, Tryz.f17, encW, encWO, encWF, encT, encTO, List.nodup_cons, rows_length, markS_length, dl, d0, ml0, ml1, ml2, ml3, ml4, eg, dm, eo, dk, eww, escsc]
  refine CallMTo.of (c_laws_markIntS true 1 sc _ (.inr rfl) (by omega) ⟨by omega, by omega⟩) ?_
  rintro r ls' ⟨rfl, rfl⟩
  simp (config := { maxSteps := 4000000 }) only [go_sem, simprocAttr, ↓dnA, Tryz.f17, encW, encWO, encWF, encT, encTO, List.nodup_cons, rows_length, markS_length, dl, d0, ml0, ml1, ml2, ml3, ml4, eg, dm, eo, dk, eww, escsc]
  refine CallTo.det (c_laws_eqWorld _ _ _ _ _ _ _ _ _ _ g0 g0 hgz hgz) fun _ => ?_
  simp (config := { maxSteps := 4000000 }) only [go_sem, simprocAttr, ↓dnA, Tryz.f17, encW, encWO, encWF, encT, encTO, List.nodup_cons, rows_length, markS_length, dl, d0, ml0, ml1, ml2, ml3, ml4, eg, dm, eo, dk, eww, escsc]
  refine CallMTo.of (c_laws_markWorld false false false false false g0 _ hgz ⟨by omega, by omega⟩) ?_
  rintro r ls' ⟨rfl, rfl⟩
  simp (config := { maxSteps := 4000000 }) only [go_sem, simprocAttr, ↓dnA, Tryz.f17, encW, encWO, encWF, encT, encTO, List.nodup_cons, rows_length, markS_length, dl, d0, ml0, ml1, ml2, ml3, ml4, eg, dm, eo, dk, eww, escsc]
  refine CallTo.det (c_laws_heldWorld _ _ _ _ _ g0 1 hgz ⟨by omega, by omega⟩) fun _ => ?_
  simp (config := { maxSteps := 4000000 }) only [go_sem, simprocAttr, ↓dnA, Tryz.f17, encW, encWO, encWF, encT, encTO, List.nodup_cons, rows_length, markS_length, dl, d0, ml0, ml1, ml2, ml3, ml4, eg, dm, eo, dk, eww, escsc]
  refine CallTo.det (c_laws_toWorld n00 n01 n02 n03 n04 w hsw) fun _ => ?_
  simp (config := { maxSteps := 4000000 }) only [go_sem, simprocAttr, ↓dnA, Tryz.f17, encW, encWO, encWF, encT, encTO, List.nodup_cons, rows_length, markS_length, dl, d0, ml0, ml1, ml2, ml3, ml4, eg, dm, eo, dk, eww, escsc]
  refine CallTo.det (c_laws_toIntS n10 sc (by omega)) fun _ => ?_
  simp (config := { maxSteps := 4000000 }) only [go_sem, simprocAttr, ↓dnA, Tryz.f17, encW, encWO, encWF, encT, encTO, List.nodup_cons, rows_length, markS_length, dl, d0, ml0, ml1, ml2, ml3, ml4, eg, dm, eo, dk, eww, escsc]
  refine CallTo.det hN fun _ => ?_
  simp (config := { maxSteps := 4000000 }) only [go_sem, simprocAttr, ↓dnA, Tryz.f17, encW, encWO, encWF, encT, encTO, List.nodup_cons, rows_length, markS_length, dl, d0, ml0, ml1, ml2, ml3, ml4, eg, dm, eo, dk, eww, escsc]
  refine CallTo.det (c_laws_eqWorld _ _ _ _ _ _ _ _ _ _ g0 g0 hgz hgz) fun _ => ?_
  simp (config := { maxSteps := 4000000 }) only [go_sem, simprocAttr, ↓dnA, Tryz.f17, encW, encWO, encWF, encT, encTO, List.nodup_cons, rows_length, markS_length, dl, d0, ml0, ml1, ml2, ml3, ml4, eg, dm, eo, dk, eww, escsc]
  refine CallTo.det (c_laws_heldWorld _ _ _ _ _ g0 1 hgz ⟨by omega, by omega⟩) fun _ => ?_
  simp (config := { maxSteps := 4000000 }) only [go_sem, simprocAttr, ↓dnA, Tryz.f17, encW, encWO, encWF, encT, encTO, List.nodup_cons, rows_length, markS_length, dl, d0, ml0, ml1, ml2, ml3, ml4, eg, dm, eo, dk, eww, escsc]

end Go.Proofs.YtmibclbinebnjaaGreat

/- Arguments of the laws, by their types: certificates. -/
set_option linter.unusedSimpArgs false
namespace Go.Proofs.YtmibclbinebnjaaGreat
open Go Go.RowKit

theorem ty_certC {cs : List AV} (h : Ty tab 128 cs) : ∃ c : Cert, cs = encC c := by
  obtain ⟨ps, rfl, hl, hp⟩ := h.struct_inv tabAt_128 rfl
  match ps, hl with
  | [p, q, r], _ =>
    obtain ⟨x, hx, _⟩ := ty_int (hp 0 (by decide))
    obtain ⟨y, hy, _⟩ := ty_int (hp 1 (by decide))
    obtain ⟨z, hz, _⟩ := ty_int (hp 2 (by decide))
    have hx : p = _ := hx
    have hy : q = _ := hy
    have hz : r = _ := hz
    subst hx; subst hy; subst hz
    exact ⟨⟨x, y, z⟩, rfl⟩

theorem ty_cert {a : AV} (h : TyArg tab 128 a) : ∃ v : Cert, a = .agg (encC v) := by
  obtain ⟨cs, rfl, h2⟩ := h.agg_inv tabAt_128 rfl
  obtain ⟨v, rfl⟩ := ty_certC h2
  exact ⟨v, rfl⟩

end Go.Proofs.YtmibclbinebnjaaGreat

/- Arguments of the laws, by their types: slices of certificates, of numbers. -/
set_option linter.unusedSimpArgs false
namespace Go.Proofs.YtmibclbinebnjaaGreat
open Go Go.RowKit

theorem ty_certs {a : AV} (h : TyArg tab 54 a) : ∃ (n : Option Bool) (xs : List Cert), Leq a (.sl n (rows encC xs)) ∧ xs.length ≤ 9223372036854775807 := by
  obtain ⟨n, xs, h1, _, h2, _⟩ := ty_slice encC (fun _ => True) (h.one_inv tabAt_54 rfl) tabAt_54 rfl fun r hr => by
    obtain ⟨b, rfl⟩ := ty_certC hr
    exact ⟨b, trivial, Leqs.refl _⟩
  exact ⟨n, xs, h2.2 0 (by simp), h1⟩

theorem ty_ints {a : AV} (h : TyArg tab 25 a) : ∃ (n : Option Bool) (xs : List Int), Leq a (.sl n (rows encI xs)) ∧ xs.length ≤ 9223372036854775807 := by
  obtain ⟨n, xs, h1, _, h2, _⟩ := ty_slice encI (fun _ => True) (h.one_inv tabAt_25 rfl) tabAt_25 rfl fun r hr => by
    obtain ⟨b, rfl, _⟩ := ty_int hr
    exact ⟨b, trivial, Leqs.refl _⟩
  exact ⟨n, xs, h2.2 0 (by simp), h1⟩

end Go.Proofs.YtmibclbinebnjaaGreat

/- The closed facts of the row of FnExactWorldRun. -/
namespace Go.Proofs.YtmibclbinebnjaaGreat
open Go Go.ChangeShapes Go.WideShapes Go.ChangeAt Go.RowKit

theorem fnExactWorldRun_named : Tryz.pinned.checked.prog.funcNamed Rows.fnExactWorldRunRow.func = some 17 := by kernel_rfl
theorem fnExactWorldRun_inst : Tryz.f17.isInstance Tryz.pinned.checked.prog Rows.fnExactWorldRunRow.origin Rows.fnExactWorldRunRow.targs := of_decide_eq_true (by kernel_rfl)
theorem fnExactWorldRun_wrap : Tryz.f17.isWrapper Tryz.pinned.checked.prog Rows.fnExactWorldRunRow.wrapper Rows.fnExactWorldRunRow.mainSum := by
  unfold Func.isWrapper; first | (rw [if_pos (by decide +kernel)]; kernel_rfl) | (rw [if_neg (by decide +kernel)]; exact ⟨rfl, rfl⟩)
set_option maxRecDepth 100000 in
set_option maxHeartbeats 4000000 in
theorem fnExactWorldRun_closed : joinedFacts Tryz.pinned.checked.prog 17 Tryz.f17 Rows.fnExactWorldRunSpec Rows.fnExactWorldRunRow = true := by
  unfold joinedFacts
  simp only [Bool.and_eq_true]
  repeat' apply And.intro
  all_goals first
    | with_reducible exact c_enter
    | (rw [c_final]; as_aux_lemma => kernel_rfl)
    | (rw [c_make]; as_aux_lemma => kernel_rfl)
    | (as_aux_lemma => kernel_rfl)

end Go.Proofs.YtmibclbinebnjaaGreat

