/- CertBlock, the program's and the reference's (part 1): W29, W34, C5, Ty1, Ty2 -/
import Derived.Test.YtdaemhaecjldaaaRows
import Derived.ProofKit
import Derived.Test.YtdaemhaecjldaaaK5

/- Contracts: certificates. -/
set_option linter.unusedSimpArgs false
set_option linter.unusedVariables false
set_option maxRecDepth 20000
set_option maxHeartbeats 4000000
namespace Go.Proofs.Ytdaemhaecjldaaa
open Go Go.RowKit

structure Cert where
  sum : Int
  view : Int
  signers : Int
deriving DecidableEq, Inhabited

def encC (c : Cert) : List AV := [.int .i64 c.sum, .int .i64 c.view, .int .i64 c.signers]

/-- The members in a mask: the first i of them. -/
def manyTo (n : Int) : Nat → Int
  | 0 => 0
  | i + 1 => manyTo n i + (n / 2 ^ i) % 2
def many (n : Int) : Int := manyTo n 4

theorem many_stepF : ∀ (a : Fin 16) (i : Fin 4), IntKind.i64.wrap (manyTo (a.val : Int) i.val + (((a.val : Int)).fdiv (2 ^ min i.val 64)).tmod 2) = manyTo (a.val : Int) (i.val + 1) := by decide +kernel
theorem many_step {n : Int} (h : 0 ≤ n ∧ n ≤ 15) {i : Nat} (hi : i < 4) : IntKind.i64.wrap (manyTo n i + (n.fdiv (2 ^ min i 64)).tmod 2) = manyTo n (i + 1) := by
  obtain ⟨a, rfl⟩ : ∃ a : Nat, n = (a : Int) := ⟨n.toNat, by omega⟩
  exact many_stepF ⟨a, by omega⟩ ⟨i, hi⟩

def certValid (c : Cert) : Bool := inB c.sum 0 1000002 && inB c.view 0 1000 && inB c.signers 0 15
def certCounts (c : Cert) : Bool := certValid c && decide (many c.signers ≥ 3)

theorem c_spec_l15Many (n : Int) (h : 0 ≤ n ∧ n ≤ 15) : Det Try.prog 174 [.int .i64 n] (.int .i64 (many n)) := by
  refine fspec_det tab_ok Try.call174 Try.func174 rfl 16 Try.ntmps174 (of_decide_eq_true rfl) fun B => codeK_sound tab_ok _ _ _ ?_
  simp (config := { maxSteps := 4000000 }) only [go_sem, simprocAttr, ↓dnA, Try.f174]
  refine semL_for tab_ok (fun i : Nat => ⟨16, [(0, .int .i64 n), (3, .int .i64 (manyTo n i)), (4, .int .i64 i)], []⟩) (fun i => 4 - i) (fun i => i ≤ 4) 0 [] (Weak.of rfl trivial ?_ rfl) (by omega) ?_
  · simp (config := { maxSteps := 4000000 }) only [go_sem, simprocAttr, ↓dnA, Try.f174, manyTo, frW, wk2, wk1, wkL, wkB, hpW, List.mem_cons, Prod.mk.injEq, exists_eq_left, exists_eq_right, exists_eq]
  · rintro i hi
    by_cases h4 : i < 4
    · have hlt : ((i : Int) < 4) = True := by simp; omega
      simp (config := { maxSteps := 4000000 }) only [go_sem, simprocAttr, ↓dnA, Try.f174, hlt, nn0, many_step h h4]
      refine ⟨i + 1, [], by omega, by dsimp only; omega, Weak.of rfl trivial ?_ rfl⟩
      simp (config := { maxSteps := 4000000 }) only [go_sem, simprocAttr, ↓dnA, Try.f174, wsucc h4 (show 4 < 2 ^ 62 by decide), frW, wk2, wk1, wkL, wkB, hpW, List.mem_cons, Prod.mk.injEq, exists_eq_left, exists_eq_right, exists_eq]
    · have : i = 4 := by omega
      subst this
      simp (config := { maxSteps := 4000000 }) only [go_sem, simprocAttr, ↓dnA, Try.f174]
      rfl

theorem c_impl_isSigners (x : Int) : Det Try.prog 136 [.int .i64 x] (.bool (inB x 0 15)) := by
  refine fspec_det tab_ok Try.call136 Try.func136 rfl 5 Try.ntmps136 (of_decide_eq_true rfl) fun B => codeK_sound tab_ok _ _ _ ?_
  simp (config := { maxSteps := 4000000 }) only [go_sem, simprocAttr, ↓dnA, Try.f136]
  refine CallTo.det (c_in _ _ _) fun _ => ?_
  simp (config := { maxSteps := 4000000 }) only [go_sem, simprocAttr, ↓dnA, Try.f136]

theorem c_OnesCount64 (n : Int) (h : 0 ≤ n ∧ n ≤ 15) : Det Try.prog 201 [.int .u64 n] (.int .i64 (many n)) := by
  refine fspec_det tab_ok Try.call201 Try.func201 rfl 35 Try.ntmps201 (of_decide_eq_true rfl) fun B => codeK_sound tab_ok _ _ _ ?_
  simp (config := { maxSteps := 4000000 }) only [go_sem, simprocAttr, ↓dnA, Try.f201]
  obtain ⟨a, rfl⟩ : ∃ a : Fin 16, n = (a.val : Int) := ⟨⟨n.toNat, by omega⟩, by simp; omega⟩
  clear h
  revert a
  decide +kernel

theorem c_OnesCount (n : Int) (h : 0 ≤ n ∧ n ≤ 15) : Det Try.prog 199 [.int .u64 n] (.int .i64 (many n)) := by
  refine fspec_det tab_ok Try.call199 Try.func199 rfl 8 Try.ntmps199 (of_decide_eq_true rfl) fun B => codeK_sound tab_ok _ _ _ ?_
  simp (config := { maxSteps := 4000000 }) only [go_sem, simprocAttr, ↓dnA, Try.f199]
  refine CallTo.det (c_OnesCount64 n h) fun _ => ?_
  simp (config := { maxSteps := 4000000 }) only [go_sem, simprocAttr, ↓dnA, Try.f199]

theorem c_impl_enough (n : Int) (h : 0 ≤ n ∧ n ≤ 15) : Det Try.prog 197 [.int .i64 n] (.bool (decide (many n ≥ 3))) := by
  refine fspec_det tab_ok Try.call197 Try.func197 rfl 7 Try.ntmps197 (of_decide_eq_true rfl) fun B => codeK_sound tab_ok _ _ _ ?_
  have hw : IntKind.u64.wrap n = n := by
    obtain ⟨a, rfl⟩ : ∃ a : Fin 16, n = (a.val : Int) := ⟨⟨n.toNat, by omega⟩, by simp; omega⟩
    clear h
    revert a
    decide +kernel
  simp (config := { maxSteps := 4000000 }) only [go_sem, simprocAttr, ↓dnA, Try.f197, hw]
  refine CallTo.det (c_OnesCount n h) fun _ => ?_
  simp (config := { maxSteps := 4000000 }) only [go_sem, simprocAttr, ↓dnA, Try.f197]

theorem c_impl_CertValid (c : Cert) : Det Try.prog 196 [.agg (encC c)] (.bool (certValid c)) := by
  refine fspec_det tab_ok Try.call196 Try.func196 rfl 16 Try.ntmps196 (of_decide_eq_true rfl) fun B => codeK_sound tab_ok _ _ _ ?_
  unfold certValid
  simp (config := { maxSteps := 4000000 }) only [go_sem, simprocAttr, ↓dnA, Try.f196, encC]
  refine CallTo.det (c_impl_isSum _) fun _ => ?_
  cases h1 : inB c.sum 0 1000002 with
  | false => simp (config := { maxSteps := 4000000 }) only [go_sem, simprocAttr, ↓dnA, Try.f196, h1]
  | true =>
    simp (config := { maxSteps := 4000000 }) only [go_sem, simprocAttr, ↓dnA, Try.f196, h1]
    refine CallTo.det (c_isView _) fun _ => ?_
    cases h2 : inB c.view 0 1000 with
    | false => simp (config := { maxSteps := 4000000 }) only [go_sem, simprocAttr, ↓dnA, Try.f196, h1, h2]
    | true =>
      simp (config := { maxSteps := 4000000 }) only [go_sem, simprocAttr, ↓dnA, Try.f196, h1, h2]
      refine CallTo.det (c_impl_isSigners _) fun _ => ?_
      simp (config := { maxSteps := 4000000 }) only [go_sem, simprocAttr, ↓dnA, Try.f196, h1, h2]

theorem c_spec_CertValid (c : Cert) : Det Try.prog 173 [.agg (encC c)] (.bool (certValid c)) := by
  refine fspec_det tab_ok Try.call173 Try.func173 rfl 16 Try.ntmps173 (of_decide_eq_true rfl) fun B => codeK_sound tab_ok _ _ _ ?_
  unfold certValid
  simp (config := { maxSteps := 4000000 }) only [go_sem, simprocAttr, ↓dnA, Try.f173, encC]
  refine CallTo.det (c_l1In _ _ _) fun _ => ?_
  cases h1 : inB c.sum 0 1000002 with
  | false => simp (config := { maxSteps := 4000000 }) only [go_sem, simprocAttr, ↓dnA, Try.f173, h1]
  | true =>
    simp (config := { maxSteps := 4000000 }) only [go_sem, simprocAttr, ↓dnA, Try.f173, h1]
    refine CallTo.det (c_l1In _ _ _) fun _ => ?_
    cases h2 : inB c.view 0 1000 with
    | false => simp (config := { maxSteps := 4000000 }) only [go_sem, simprocAttr, ↓dnA, Try.f173, h1, h2]
    | true =>
      simp (config := { maxSteps := 4000000 }) only [go_sem, simprocAttr, ↓dnA, Try.f173, h1, h2]
      refine CallTo.det (c_l1In _ _ _) fun _ => ?_
      simp (config := { maxSteps := 4000000 }) only [go_sem, simprocAttr, ↓dnA, Try.f173, h1, h2]

theorem certValid_sg {c : Cert} (h : certValid c = true) : 0 ≤ c.signers ∧ c.signers ≤ 15 := by
  unfold certValid at h
  rw [Bool.and_eq_true] at h
  exact inB_iff.1 h.2

theorem c_impl_CertCounts (c : Cert) : Det Try.prog 175 [.agg (encC c)] (.bool (certCounts c)) := by
  refine fspec_det tab_ok Try.call175 Try.func175 rfl 10 Try.ntmps175 (of_decide_eq_true rfl) fun B => codeK_sound tab_ok _ _ _ ?_
  unfold certCounts
  simp (config := { maxSteps := 4000000 }) only [go_sem, simprocAttr, ↓dnA, Try.f175, encC]
  refine CallTo.det (c_impl_CertValid c) fun _ => ?_
  cases h1 : certValid c with
  | false => simp (config := { maxSteps := 4000000 }) only [go_sem, simprocAttr, ↓dnA, Try.f175, h1]
  | true =>
    simp (config := { maxSteps := 4000000 }) only [go_sem, simprocAttr, ↓dnA, Try.f175, h1]
    refine CallTo.det (c_impl_enough _ (certValid_sg h1)) fun _ => ?_
    simp (config := { maxSteps := 4000000 }) only [go_sem, simprocAttr, ↓dnA, Try.f175, h1]

theorem c_spec_CertCounts (c : Cert) : Det Try.prog 127 [.agg (encC c)] (.bool (certCounts c)) := by
  refine fspec_det tab_ok Try.call127 Try.func127 rfl 11 Try.ntmps127 (of_decide_eq_true rfl) fun B => codeK_sound tab_ok _ _ _ ?_
  unfold certCounts
  simp (config := { maxSteps := 4000000 }) only [go_sem, simprocAttr, ↓dnA, Try.f127, encC]
  refine CallTo.det (c_spec_CertValid c) fun _ => ?_
  cases h1 : certValid c with
  | false => simp (config := { maxSteps := 4000000 }) only [go_sem, simprocAttr, ↓dnA, Try.f127, h1]
  | true =>
    simp (config := { maxSteps := 4000000 }) only [go_sem, simprocAttr, ↓dnA, Try.f127, h1]
    refine CallTo.det (c_spec_l15Many _ (certValid_sg h1)) fun _ => ?_
    simp (config := { maxSteps := 4000000 }) only [go_sem, simprocAttr, ↓dnA, Try.f127, h1]

/-- The block for which a certificate counts. -/
def certBlock (t : Tree) (c : Cert) : Int :=
  if certCounts c then (if findB t.blocks c.sum < 0 then -1 else if (t.blk (findB t.blocks c.sum).toNat).view = c.view then findB t.blocks c.sum else -1) else -1

theorem c_impl_certBlock (n1 n2 n3 : Option Bool) (t : Tree) (c : Cert) (hx : TreeSz t) : Det Try.prog 129 [.agg (encT n1 n2 n3 t), .agg (encC c)] (.int .i64 (certBlock t c)) := by
  refine fspec_det tab_ok Try.call129 Try.func129 rfl 27 Try.ntmps129 (of_decide_eq_true rfl) fun B => codeK_sound tab_ok _ _ _ ?_
  unfold certBlock encT
  simp (config := { maxSteps := 4000000 }) only [go_sem, simprocAttr, ↓dnA, Try.f129, encC]
  refine CallTo.det (c_impl_CertCounts c) fun _ => ?_
  cases h1 : certCounts c with
  | false => simp (config := { maxSteps := 4000000 }) only [go_sem, simprocAttr, ↓dnA, Try.f129, h1]
  | true =>
    simp (config := { maxSteps := 4000000 }) only [go_sem, simprocAttr, ↓dnA, Try.f129, h1]
    refine CallTo.det (c_impl_find n1 n2 n3 t c.sum hx) fun _ => ?_
    simp (config := { maxSteps := 4000000 }) only [go_sem, simprocAttr, ↓dnA, Try.f129, h1]
    refine semL_draw tab_ok mixed_ rfl (ord := [(0, []), (1, []), (2, []), (3, []), (4, []), (5, []), (6, []), (7, []), (8, []), (9, []), (10, []), (11, []), (12, [])]) (by dsimp only; decide +kernel) ?_
    rcases findB_cases t c.sum with ⟨hf, _⟩ | ⟨i, hi, hf, _⟩
    · simp (config := { maxSteps := 4000000 }) only [go_sem, simprocAttr, ↓dnA, Try.f129, h1, hf]
    · have hd : decide ((i : Int) ≥ 0) = true := by simp
      have hn : ((i : Int) < 0) = False := by simp
      by_cases h2 : (t.blk i).view = c.view
      · have h2' : ((t.blk i).view != c.view) = false := by simp [h2]
        simp (config := { maxSteps := 4000000 }) only [go_sem, simprocAttr, ↓dnA, Try.f129, h1, hf, hd, nn0, nlt hi, rows_length, rows_gd _ _ i hi, Tree.blk, encB1, encBk, hn, h2, h2']
        all_goals (try unfold Tree.blk at h2 h2'); (try simp (config := { maxSteps := 4000000 }) only [go_sem, simprocAttr, ↓dnA, Try.f129, h1, hf, hd, nn0, nlt hi, rows_length, rows_gd _ _ i hi, encB1, encBk, hn, h2, h2'])
      · have h2' : ((t.blk i).view != c.view) = true := by simp [h2]
        simp (config := { maxSteps := 4000000 }) only [go_sem, simprocAttr, ↓dnA, Try.f129, h1, hf, hd, nn0, nlt hi, rows_length, rows_gd _ _ i hi, Tree.blk, encB1, encBk, hn, h2, h2']
        all_goals (try unfold Tree.blk at h2 h2'); (try simp (config := { maxSteps := 4000000 }) only [go_sem, simprocAttr, ↓dnA, Try.f129, h1, hf, hd, nn0, nlt hi, rows_length, rows_gd _ _ i hi, encB1, encBk, hn, h2, h2'])

end Go.Proofs.Ytdaemhaecjldaaa

/- Contracts: FnExactCertBlock. -/
set_option linter.unusedSimpArgs false
set_option linter.unusedVariables false
set_option maxRecDepth 20000
set_option maxHeartbeats 4000000
namespace Go.Proofs.Ytdaemhaecjldaaa
open Go Go.RowKit

theorem c_laws_toCert (c : Cert) : Det Try.prog 65 [.agg (encC c)] (.agg (encC c)) := by
  refine fspec_det tab_ok Try.call65 Try.func65 rfl 14 Try.ntmps65 (of_decide_eq_true rfl) fun B => codeK_sound tab_ok _ _ _ ?_
  simp (config := { maxSteps := 4000000 }) only [go_sem, simprocAttr, ↓dnA, Try.f65, encC]

theorem c_impl_CertBlock (n1 n2 n3 : Option Bool) (t : Tree) (c : Cert) (hx : TreeSz t) : Det Try.prog 66 [.agg (encT n1 n2 n3 t), .agg (encC c)] (.int .i64 (if treeValid t then certBlock t c else -1)) := by
  refine fspec_det tab_ok Try.call66 Try.func66 rfl 11 Try.ntmps66 (of_decide_eq_true rfl) fun B => codeK_sound tab_ok _ _ _ ?_
  unfold encT
  simp (config := { maxSteps := 4000000 }) only [go_sem, simprocAttr, ↓dnA, Try.f66, encC]
  refine CallTo.det (c_impl_BlockTreeValid n1 n2 n3 t hx) fun _ => ?_
  cases h1 : treeValid t with
  | false => simp (config := { maxSteps := 4000000 }) only [go_sem, simprocAttr, ↓dnA, Try.f66, h1]
  | true =>
    simp (config := { maxSteps := 4000000 }) only [go_sem, simprocAttr, ↓dnA, Try.f66, h1]
    refine CallTo.det (c_impl_certBlock n1 n2 n3 t c hx) fun _ => ?_
    simp (config := { maxSteps := 4000000 }) only [go_sem, simprocAttr, ↓dnA, Try.f66, h1]

theorem c_spec_CertBlock (n1 n2 n3 : Option Bool) (t : Tree) (c : Cert) (hx : TreeSz t) : Det Try.prog 64 [.agg (encT n1 n2 n3 t), .agg (encC c)] (.int .i64 (if treeValid t then certBlock t c else -1)) := by
  refine fspec_det tab_ok Try.call64 Try.func64 rfl 32 Try.ntmps64 (of_decide_eq_true rfl) fun B => codeK_sound tab_ok _ _ _ ?_
  unfold certBlock encT
  simp (config := { maxSteps := 4000000 }) only [go_sem, simprocAttr, ↓dnA, Try.f64, encC]
  refine CallTo.det (c_spec_BlockTreeValid n1 n2 n3 t hx) fun _ => ?_
  cases h0 : treeValid t with
  | false => simp (config := { maxSteps := 4000000 }) only [go_sem, simprocAttr, ↓dnA, Try.f64, h0]
  | true =>
  simp (config := { maxSteps := 4000000 }) only [go_sem, simprocAttr, ↓dnA, Try.f64, h0]
  refine CallTo.det (c_spec_CertCounts c) fun _ => ?_
  cases h1 : certCounts c with
  | false => simp (config := { maxSteps := 4000000 }) only [go_sem, simprocAttr, ↓dnA, Try.f64, h0, h1]
  | true =>
    simp (config := { maxSteps := 4000000 }) only [go_sem, simprocAttr, ↓dnA, Try.f64, h0, h1]
    refine CallTo.det (c_spec_find n1 n2 n3 t c.sum hx) fun _ => ?_
    simp (config := { maxSteps := 4000000 }) only [go_sem, simprocAttr, ↓dnA, Try.f64, h0, h1]
    refine semL_draw tab_ok mixed_ rfl (ord := [(0, []), (1, []), (2, []), (3, []), (4, []), (5, []), (6, []), (7, []), (8, []), (9, []), (10, []), (11, []), (12, [])]) (by dsimp only; decide +kernel) ?_
    rcases findB_cases t c.sum with ⟨hf, _⟩ | ⟨i, hi, hf, _⟩
    · simp (config := { maxSteps := 4000000 }) only [go_sem, simprocAttr, ↓dnA, Try.f64, h0, h1, hf]
    · have hd : decide ((i : Int) < 0) = false := by simp
      have hn : ((i : Int) < 0) = False := by simp
      by_cases h2 : (t.blk i).view = c.view
      · have h2' : ((t.blk i).view != c.view) = false := by simp [h2]
        unfold Tree.blk at h2 h2'
        simp (config := { maxSteps := 4000000 }) only [go_sem, simprocAttr, ↓dnA, Try.f64, h0, h1, hf, hd, nn0, nlt hi, rows_length, rows_gd _ _ i hi, Tree.blk, encB1, encBk, hn, h2, h2']
      · have h2' : ((t.blk i).view != c.view) = true := by simp [h2]
        unfold Tree.blk at h2 h2'
        simp (config := { maxSteps := 4000000 }) only [go_sem, simprocAttr, ↓dnA, Try.f64, h0, h1, hf, hd, nn0, nlt hi, rows_length, rows_gd _ _ i hi, Tree.blk, encB1, encBk, hn, h2, h2']

theorem c_laws_FnExactCertBlock (n1 n2 n3 : Option Bool) (t : Tree) (c : Cert) (hx : TreeLen t) :
    Det Try.prog 11 [.agg (encT n1 n2 n3 t), .agg (encC c)] (.bool true) := by
  refine fspec_det tab_ok Try.call11 Try.func11 rfl 33 Try.ntmps11 (of_decide_eq_true rfl) fun B => codeK_sound tab_ok _ _ _ ?_
  unfold encT
  obtain ⟨r, hr, _, hT, hE⟩ := c_laws_szBlockTree n1 n2 n3 t 1048576 hx (by omega)
  simp (config := { maxSteps := 4000000 }) only [go_sem, simprocAttr, ↓dnA, Try.f11, encC, encTO]
  refine CallTo.det hr fun _ => ?_
  cases h2 : decide (r < 0) with
  | true => simp (config := { maxSteps := 4000000 }) only [go_sem, simprocAttr, ↓dnA, Try.f11, h2]
  | false =>
    have hs := hT (by have := of_decide_eq_false h2; omega)
    simp (config := { maxSteps := 4000000 }) only [go_sem, simprocAttr, ↓dnA, Try.f11, h2]
    refine semL_draw tab_ok mixed_ rfl (ord := [(0, []), (2, []), (1, [2]), (3, []), (4, []), (5, [])]) (by dsimp only; decide +kernel) ?_
    simp (config := { maxSteps := 4000000 }) only [go_sem, simprocAttr, ↓dnA, Try.f11, encC, encTO]
    refine CallTo.det (c_laws_toBlockTree n1 n2 n3 t hs) fun _ => ?_
    simp (config := { maxSteps := 4000000 }) only [go_sem, simprocAttr, ↓dnA, Try.f11, encC, encTO]
    refine CallTo.det (c_laws_toCert c) fun _ => ?_
    simp (config := { maxSteps := 4000000 }) only [go_sem, simprocAttr, ↓dnA, Try.f11, encC, encTO, rows_length]
    refine CallTo.det (c_spec_CertBlock (some true) (some true) (some true) t c hs.sz) fun _ => ?_
    simp (config := { maxSteps := 4000000 }) only [go_sem, simprocAttr, ↓dnA, Try.f11, encC, encTO]
    refine CallTo.det (c_laws_toBlockTree n1 n2 n3 t hs) fun _ => ?_
    simp (config := { maxSteps := 4000000 }) only [go_sem, simprocAttr, ↓dnA, Try.f11, encC, encTO]
    refine semL_draw tab_ok mixed_ rfl (ord := [(0, []), (1, []), (2, [0]), (3, []), (4, [])]) (by dsimp only; decide +kernel) ?_
    simp (config := { maxSteps := 4000000 }) only [go_sem, simprocAttr, ↓dnA, Try.f11, encC, encTO]
    refine CallTo.det (c_laws_toCert c) fun _ => ?_
    simp (config := { maxSteps := 4000000 }) only [go_sem, simprocAttr, ↓dnA, Try.f11, encC, encTO, rows_length]
    refine CallTo.det (c_impl_CertBlock (some true) (some true) (some true) t c hs.sz) fun _ => ?_
    simp (config := { maxSteps := 4000000 }) only [go_sem, simprocAttr, ↓dnA, Try.f11, encC, encTO]
    refine semL_draw tab_ok mixed_ rfl (ord := [(0, []), (1, []), (2, [0]), (3, []), (4, [])]) (by dsimp only; decide +kernel) ?_
    simp (config := { maxSteps := 4000000 }) only [go_sem, simprocAttr, ↓dnA, Try.f11, encC, encTO]
    refine CallTo.det (c_laws_toBlockTree n1 n2 n3 t hs) fun _ => ?_
    simp (config := { maxSteps := 4000000 }) only [go_sem, simprocAttr, ↓dnA, Try.f11, encC, encTO, rows_length]
    refine CallTo.det (c_laws_eqBlockTree (some true) (some true) (some true) (some true) (some true) (some true) t t hs.sz hs.sz) fun _ => ?_
    have he : decide (t = t) = true := by simp
    simp (config := { maxSteps := 4000000 }) only [go_sem, simprocAttr, ↓dnA, Try.f11, he]

end Go.Proofs.Ytdaemhaecjldaaa

/- The closed facts of the row of FnExactCertBlock. -/
namespace Go.Proofs.Ytdaemhaecjldaaa
open Go Go.ChangeShapes Go.WideShapes Go.ChangeAt Go.RowKit

theorem fnExactCertBlock_named : Try.pinned.checked.prog.funcNamed Rows.fnExactCertBlockRow.func = some 11 := by kernel_rfl
theorem fnExactCertBlock_inst : Try.f11.isInstance Try.pinned.checked.prog Rows.fnExactCertBlockRow.origin Rows.fnExactCertBlockRow.targs := of_decide_eq_true (by kernel_rfl)
theorem fnExactCertBlock_wrap : Try.f11.isWrapper Try.pinned.checked.prog Rows.fnExactCertBlockRow.wrapper Rows.fnExactCertBlockRow.mainSum := by
  unfold Func.isWrapper; first | (rw [if_pos (by decide +kernel)]; kernel_rfl) | (rw [if_neg (by decide +kernel)]; exact ⟨rfl, rfl⟩)
set_option maxRecDepth 100000 in
theorem fnExactCertBlock_closed : joinedFacts Try.pinned.checked.prog 11 Try.f11 Rows.fnExactCertBlockSpec Rows.fnExactCertBlockRow = true := by kernel_rfl

end Go.Proofs.Ytdaemhaecjldaaa

/- Arguments of the laws, by their types. -/
set_option linter.unusedSimpArgs false
namespace Go.Proofs.Ytdaemhaecjldaaa
open Go Go.ChangeShapes Go.WideShapes Go.ChangeAt Go.RowKit

theorem own_ : ownKnob Try.prog.godebug = none := by kernel_rfl
theorem laidOut_ : laidOutB Try.prog = true := by kernel_rfl

theorem ty_int {cs : List AV} (h : Ty tab 3 cs) : ∃ n, cs = [.int .i64 n] ∧ IntKind.i64.has n := h.int_inv tabAt_3 rfl
theorem ty_bool {cs : List AV} (h : Ty tab 4 cs) : ∃ b, cs = [.bool b] := h.bool_inv tabAt_4 rfl
theorem ty_intA {a : AV} (h : TyArg tab 3 a) : ∃ n, a = .int .i64 n := by
  obtain ⟨n, e, _⟩ := ty_int (h.one_inv tabAt_3 rfl)
  exact ⟨n, by simpa using e⟩

/-- The cells of one value read as the cells of a datum. -/
def Leqs (r c : List AV) : Prop := r.length = c.length ∧ ∀ (j : Nat) (_ : j < c.length), Leq (r.getD j .top) (c.getD j .top)
theorem Leqs.refl (c : List AV) : Leqs c c := ⟨rfl, fun _ _ => Leq.refl _⟩
theorem Leqs.of_eq {r c : List AV} (h : r = c) : Leqs r c := h ▸ Leqs.refl _
theorem Leqs.agg {r c : List AV} (h : Leqs r c) : Leq (.agg r) (.agg c) := Leq.agg h.1 h.2

/-- A slice of elements that read as data. -/
theorem ty_rows {α : Type} (e : α → List AV) (Q : α → Prop) {et : TypeId} {es : List (List AV)} (h : ∀ (j : Nat) (_ : j < es.length), Ty tab et (es.getD j [])) (hx : ∀ r, Ty tab et r → ∃ x, Q x ∧ Leqs r (e x)) :
    ∃ xs : List α, es.length = xs.length ∧ (∀ x, x ∈ xs → Q x) ∧ ∀ nn, Leq (.sl nn es) (.sl nn (rows e xs)) := by
  have key : ∃ xs : List α, es.length = xs.length ∧ (∀ x, x ∈ xs → Q x) ∧ ∀ (i : Nat) (hi : i < xs.length), Leqs (es.getD i []) (e (xs[i]'hi)) := by
    induction es with
    | nil => exact ⟨[], rfl, fun x hx => (by cases hx), fun i hi => absurd hi (by simp)⟩
    | cons r rs ih =>
      obtain ⟨x, hq, hx1⟩ := hx r (h 0 (by simp))
      obtain ⟨xs, h1, h2, h3⟩ := ih (fun j hj => h (j + 1) (by simpa using hj))
      refine ⟨x :: xs, by simp [h1], fun y hy => ?_, fun i hi => ?_⟩
      · rcases List.mem_cons.1 hy with rfl | hy
        · exact hq
        · exact h2 y hy
      · cases i with
        | zero => exact hx1
        | succ i => exact h3 i (by simpa using hi)
  obtain ⟨xs, h1, h2, h3⟩ := key
  refine ⟨xs, h1, h2, fun nn => Leq.sl (by rw [rows_length, h1]) (fun i hi => ?_) (fun i j hi hj => ?_)⟩
  · rw [rows_length] at hi
    rw [rows_get _ _ _ hi]
    exact (h3 i hi).1
  · rw [rows_length] at hi
    rw [rows_get _ _ _ hi] at hj ⊢
    exact (h3 i hi).2 j hj

/-- A slice, as one cell. -/
theorem ty_slice {α : Type} (e : α → List AV) (Q : α → Prop) {t et : TypeId} {ti : TI} {cs : List AV} (h : Ty tab t cs) (ht : tab t = some ti) (hk : ti.k = .slice et) (hx : ∀ r, Ty tab et r → ∃ x, Q x ∧ Leqs r (e x)) :
    ∃ (n : Option Bool) (xs : List α), xs.length ≤ 9223372036854775807 ∧ (∀ x, x ∈ xs → Q x) ∧ Leqs cs [.sl n (rows e xs)] ∧ Leqs cs [.sl none (rows e xs)] := by
  obtain ⟨nn, es, rfl, _, hl, he⟩ := h.slice_inv ht hk
  obtain ⟨xs, h1, h2, h3⟩ := ty_rows e Q he hx
  refine ⟨some nn, xs, by omega, h2, ⟨rfl, fun j hj => ?_⟩, ⟨rfl, fun j hj => ?_⟩⟩
  · have : j = 0 := by simpa using hj
    subst this; exact h3 _
  · have : j = 0 := by simpa using hj
    subst this; exact (h3 (some nn)).trans Leq.slN

theorem ty_bools {a : AV} (h : TyArg tab 56 a) : ∃ (n : Option Bool) (bs : List Bool), Leq a (.sl n (boolRows bs)) ∧ bs.length ≤ 9223372036854775807 := by
  obtain ⟨n, xs, h1, _, h2, _⟩ := ty_slice (fun b : Bool => [AV.bool b]) (fun _ => True) (h.one_inv tabAt_56 rfl) tabAt_56 rfl fun r hr => by
    obtain ⟨b, rfl⟩ := ty_bool hr
    exact ⟨b, trivial, Leqs.refl _⟩
  exact ⟨n, xs, h2.2 0 (by simp), h1⟩

theorem ty_voterC {cs : List AV} (h : Ty tab 23 cs) : ∃ v : Voter, cs = encV v := by
  obtain ⟨ps, rfl, hl, hp⟩ := h.struct_inv tabAt_23 rfl
  match ps, hl with
  | [p, q], _ =>
    obtain ⟨x, hx, _⟩ := ty_int (hp 0 (by decide))
    obtain ⟨y, hy, _⟩ := ty_int (hp 1 (by decide))
    have hx : p = _ := hx
    have hy : q = _ := hy
    subst hx; subst hy
    exact ⟨⟨x, y⟩, rfl⟩

theorem ty_voter {a : AV} (h : TyArg tab 23 a) : ∃ v : Voter, a = .agg (encV v) := by
  obtain ⟨cs, rfl, h2⟩ := h.agg_inv tabAt_23 rfl
  obtain ⟨v, rfl⟩ := ty_voterC h2
  exact ⟨v, rfl⟩

theorem ty_entry {cs : List AV} (h : Ty tab 125 cs) : ∃ e : Entry, cs = encE e := by
  obtain ⟨ps, rfl, hl, hp⟩ := h.struct_inv tabAt_125 rfl
  match ps, hl with
  | [p, q], _ =>
    obtain ⟨x, hx, _⟩ := ty_int (hp 0 (by decide))
    obtain ⟨y, hy, _⟩ := ty_int (hp 1 (by decide))
    have hx : p = _ := hx
    have hy : q = _ := hy
    subst hx; subst hy
    exact ⟨⟨x, y⟩, rfl⟩

theorem ty_action {cs : List AV} (h : Ty tab 129 cs) : ∃ e : Action, cs = encA e := by
  obtain ⟨ps, rfl, hl, hp⟩ := h.struct_inv tabAt_129 rfl
  match ps, hl with
  | [p, q, r, s], _ =>
    obtain ⟨x, hx, _⟩ := ty_int (hp 0 (by decide))
    obtain ⟨y, hy, _⟩ := ty_int (hp 1 (by decide))
    obtain ⟨z, hz, _⟩ := ty_int (hp 2 (by decide))
    obtain ⟨w, hw, _⟩ := ty_int (hp 3 (by decide))
    have hx : p = _ := hx
    have hy : q = _ := hy
    have hz : r = _ := hz
    have hw : s = _ := hw
    subst hx; subst hy; subst hz; subst hw
    exact ⟨⟨x, y, z, w⟩, rfl⟩

theorem Leqs.cons {a b : AV} {r c : List AV} (h : Leq a b) (h' : Leqs r c) : Leqs (a :: r) (b :: c) := by
  refine ⟨by simp [h'.1], fun j hj => ?_⟩
  cases j with
  | zero => exact h
  | succ j => exact h'.2 j (by simpa using hj)

theorem Leqs.one {r : List AV} {b : AV} (h : Leqs r [b]) : ∃ a, r = [a] ∧ Leq a b := by
  obtain ⟨h1, h2⟩ := h
  match r, h1 with
  | [a], _ => exact ⟨a, rfl, h2 0 (by simp)⟩

theorem ty_block {cs : List AV} (h : Ty tab 82 cs) : ∃ b : Block, b.list.length ≤ 9223372036854775807 ∧ Leqs cs (encB1 b) := by
  obtain ⟨ps, rfl, hl, hp⟩ := h.struct_inv tabAt_82 rfl
  match ps, hl with
  | [p1, p2, p3, p4, p5, p6], _ =>
    obtain ⟨x1, h1, _⟩ := ty_int (hp 0 (by decide))
    obtain ⟨x2, h2, _⟩ := ty_int (hp 1 (by decide))
    obtain ⟨x3, h3, _⟩ := ty_int (hp 2 (by decide))
    obtain ⟨_, x4, hl4, _, _, h4⟩ := ty_slice encA (fun _ => True) (hp 3 (by decide)) tabAt_33 rfl fun r hr => by
      obtain ⟨a, rfl⟩ := ty_action hr
      exact ⟨a, trivial, Leqs.refl _⟩
    obtain ⟨x5, h5, _⟩ := ty_int (hp 4 (by decide))
    obtain ⟨x6, h6, _⟩ := ty_int (hp 5 (by decide))
    have h1 : p1 = _ := h1
    have h2 : p2 = _ := h2
    have h3 : p3 = _ := h3
    have h5 : p5 = _ := h5
    have h6 : p6 = _ := h6
    obtain ⟨a4, e4, l4⟩ := h4.one
    have e4 : p4 = _ := e4
    subst h1; subst h2; subst h3; subst h5; subst h6; subst e4
    exact ⟨⟨x1, x2, x3, x4, x5, x6⟩, hl4, .cons (.refl _) (.cons (.refl _) (.cons (.refl _) (.cons l4 (.cons (.refl _) (.cons (.refl _) (.refl [])))))) ⟩

theorem ty_treeC {cs : List AV} (h : Ty tab 55 cs) : ∃ (n1 n2 n3 : Option Bool) (t : Tree), Leqs cs (encT n1 n2 n3 t) ∧ TreeLen t := by
  obtain ⟨ps, rfl, hl, hp⟩ := h.struct_inv tabAt_55 rfl
  match ps, hl with
  | [p1, p2, p3], _ =>
    obtain ⟨n1, x1, l1, _, h1, _⟩ := ty_slice encE (fun _ => True) (hp 0 (by decide)) tabAt_32 rfl fun r hr => by
      obtain ⟨a, rfl⟩ := ty_entry hr
      exact ⟨a, trivial, Leqs.refl _⟩
    obtain ⟨n2, x2, l2, q2, h2, _⟩ := ty_slice encB1 (fun b => b.list.length ≤ 9223372036854775807) (hp 1 (by decide)) tabAt_52 rfl fun r hr => ty_block hr
    obtain ⟨n3, x3, l3, _, h3, _⟩ := ty_slice encI (fun _ => True) (hp 2 (by decide)) tabAt_53 rfl fun r hr => by
      obtain ⟨a, rfl, _⟩ := ty_int hr
      exact ⟨a, trivial, Leqs.refl _⟩
    obtain ⟨a1, e1, g1⟩ := h1.one
    obtain ⟨a2, e2, g2⟩ := h2.one
    obtain ⟨a3, e3, g3⟩ := h3.one
    have e1 : p1 = _ := e1
    have e2 : p2 = _ := e2
    have e3 : p3 = _ := e3
    subst e1; subst e2; subst e3
    exact ⟨n1, n2, n3, ⟨x1, x2, x3⟩, .cons g1 (.cons g2 (.cons g3 (.refl []))), ⟨l1, l2, l3, q2⟩⟩

theorem ty_tree {a : AV} (h : TyArg tab 55 a) : ∃ (n1 n2 n3 : Option Bool) (t : Tree), Leq a (.agg (encT n1 n2 n3 t)) ∧ TreeLen t := by
  obtain ⟨cs, rfl, h2⟩ := h.agg_inv tabAt_55 rfl
  obtain ⟨n1, n2, n3, t, h3, h4⟩ := ty_treeC h2
  exact ⟨n1, n2, n3, t, h3.agg, h4⟩

end Go.Proofs.Ytdaemhaecjldaaa

/- Arguments of the laws, by their types: certificates. -/
set_option linter.unusedSimpArgs false
namespace Go.Proofs.Ytdaemhaecjldaaa
open Go Go.RowKit

theorem ty_certC {cs : List AV} (h : Ty tab 98 cs) : ∃ c : Cert, cs = encC c := by
  obtain ⟨ps, rfl, hl, hp⟩ := h.struct_inv tabAt_98 rfl
  match ps, hl with
  | [p, q, r], _ =>
    obtain ⟨x, hx, _⟩ := ty_int (hp 0 (by decide))
    obtain ⟨y, hy, _⟩ := ty_int (hp 1 (by decide))
    obtain ⟨z, hz, _⟩ := ty_int (hp 2 (by decide))
    have hx : p = _ := hx
    have hy : q = _ := hy
    have hz : r = _ := hz
    subst hx; subst hy; subst hz
    exact ⟨⟨x, y, z⟩, rfl⟩

theorem ty_cert {a : AV} (h : TyArg tab 98 a) : ∃ v : Cert, a = .agg (encC v) := by
  obtain ⟨cs, rfl, h2⟩ := h.agg_inv tabAt_98 rfl
  obtain ⟨v, rfl⟩ := ty_certC h2
  exact ⟨v, rfl⟩

end Go.Proofs.Ytdaemhaecjldaaa

