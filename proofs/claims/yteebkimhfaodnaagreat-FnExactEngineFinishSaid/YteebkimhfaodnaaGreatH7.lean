/- Shared texts H (part 7): W184, W183 -/
import Derived.Test.YteebkimhfaodnaaGreatH6

set_option linter.unusedSimpArgs false
set_option linter.unusedVariables false

/- Contracts: the laws' tests and marks of effects. -/
set_option linter.unusedSimpArgs false
set_option linter.unusedVariables false
set_option maxRecDepth 20000
set_option maxHeartbeats 4000000
namespace Go.Proofs.YteebkimhfaodnaaGreat
open Go Go.RowKit

structure EffSz (n : Nat) (f : Effect) : Prop where
  reads : f.reads.length < n
  writes : f.writes.length < n
structure EffsSz (n : Nat) (l : List Effect) : Prop where
  len : l.length < n
  each : ∀ f, f ∈ l → EffSz n f

theorem c_laws_eqEffectS (n1 n2 : Option Bool) (xs ys : List Effect) (hx : xs.length < 2 ^ 62) (hy : ys.length < 2 ^ 62) (hlx : ∀ b, b ∈ xs → EffSz (2 ^ 62) b) (hly : ∀ b, b ∈ ys → EffSz (2 ^ 62) b) :
    Det Tryz.prog 38 [.sl n1 (rows encF1 xs), .sl n2 (rows encF1 ys)] (.bool (decide (xs = ys))) := by
  refine fspec_det tab_ok Tryz.call38 Tryz.func38 rfl 27 Tryz.ntmps38 (of_decide_eq_true rfl) fun B => codeK_sound tab_ok _ _ _ ?_
  by_cases hl : xs.length = ys.length
  · have hd : (((xs.length : Int) != (ys.length : Int))) = false := by simp [hl]
    simp (config := { maxSteps := 4000000 }) only [go_sem, simprocAttr, ↓dnA, Tryz.f38, encF1, encF, rows_length, hd]
    refine semL_for tab_ok (fun i : Nat => ⟨27, [(0, .sl n1 (rows encF1 xs)), (1, .sl n2 (rows encF1 ys)), (5, .int .i64 i)], []⟩) (fun i => xs.length - i)
      (fun i => i ≤ xs.length ∧ decide (xs.drop i = ys.drop i) = decide (xs = ys)) 0 [] (Weak.of (by rfl) trivial ?_ (by rfl)) ⟨by omega, rfl⟩ ?_
    · simp (config := { maxSteps := 4000000 }) only [go_sem, simprocAttr, ↓dnA, Tryz.f38, encF1, encF, rows_length, frW, wk2, wk1, wkL, wkB, hpW, List.mem_cons, Prod.mk.injEq, exists_eq_left, exists_eq_right, exists_eq]
    · rintro i ⟨hi, hp⟩
      by_cases h : i < xs.length
      · have h2 : i < ys.length := by omega
        rw [eq_drop xs ys i hl h] at hp
        simp (config := { maxSteps := 4000000 }) only [go_sem, simprocAttr, ↓dnA, Tryz.f38, encF1, encF, rows_length, nlt h]
        refine semL_draw tab_ok mixed_ rfl (ord := [(0, []), (1, []), (2, []), (3, []), (4, []), (5, []), (6, []), (7, []), (8, []), (9, [])]) (by dsimp only; decide +kernel) ?_
        simp (config := { maxSteps := 4000000 }) only [go_sem, simprocAttr, ↓dnA, Tryz.f38, encF1, encF, rows_length, rows_get _ _ _ h, rows_get _ _ _ h2, encF1, encBk, nn0, nlt h, nlt h2]
        refine CallTo.det (c_laws_eqEffect none none none none xs[i] ys[i] (hlx _ (List.getElem_mem h)).reads (hlx _ (List.getElem_mem h)).writes (hly _ (List.getElem_mem h2)).reads (hly _ (List.getElem_mem h2)).writes) fun _ => ?_
        cases he : decide (xs[i] = ys[i]) with
        | false =>
          have he' : decide (xs[i] = ys[i]) = false := he
          rw [he', Bool.false_and] at hp
          simp (config := { maxSteps := 4000000 }) only [go_sem, simprocAttr, ↓dnA, Tryz.f38, encF1, encF, rows_length, rows_get _ _ _ h, rows_get _ _ _ h2, encF1, encBk, nn0, nlt h, nlt h2, he, ← hp]
        | true =>
          have he' : decide (xs[i] = ys[i]) = true := he
          rw [he', Bool.true_and] at hp
          simp (config := { maxSteps := 4000000 }) only [go_sem, simprocAttr, ↓dnA, Tryz.f38, encF1, encF, rows_length, rows_get _ _ _ h, rows_get _ _ _ h2, encF1, encBk, nn0, nlt h, nlt h2, he]
          refine ⟨i + 1, [], ⟨by omega, hp⟩, by dsimp only; omega, Weak.of (by rfl) trivial ?_ (by rfl)⟩
          simp (config := { maxSteps := 4000000 }) only [go_sem, simprocAttr, ↓dnA, Tryz.f38, encF1, encF, wsucc h hx, frW, wk2, wk1, wkL, wkB, hpW, List.mem_cons, Prod.mk.injEq, exists_eq_left, exists_eq_right, exists_eq]
      · have : i = xs.length := by omega
        subst this
        rw [List.drop_length, List.drop_of_length_le (by omega)] at hp
        simp (config := { maxSteps := 4000000 }) only [go_sem, simprocAttr, ↓dnA, Tryz.f38, encF1, encF, rows_length, nlf h, ← hp]
  · have hd : (((xs.length : Int) != (ys.length : Int))) = true := by simp; omega
    have hne : xs ≠ ys := fun e => hl (by rw [e])
    simp (config := { maxSteps := 4000000 }) only [go_sem, simprocAttr, ↓dnA, Tryz.f38, encF1, encF, rows_length, hd, decide_eq_false hne]


/-- An effect's marks. -/
def mkF (s : Effect) (k : Int) : Effect := ⟨k.tmod 3 == 0, markS mkE stE s.reads (k + 1), markS mkE stE s.writes (k + 1 + (stepS stE s.reads : Int))⟩
def stF (s : Effect) : Nat := 1 + stepS stE s.reads + stepS stE s.writes

theorem c_laws_markEffectS (nn : Bool) (xs : List Effect) (k : Int) (hx : xs.length < 2 ^ 62) (hk : 0 ≤ k ∧ k + stepS stF xs < 2 ^ 62) :
    FSpecM Tryz.prog 40 [.row 800 xs.length, .int .i64 k] [.osl nn 3 (rows encF1 xs)] (fun r ls' => r = .int .i64 (k + stepS stF xs) ∧ ls' = [.osl nn 3 (rows encF1 (markS mkF stF xs k))]) := by
  refine fspec_introM tab_ok Tryz.call40 Tryz.func40 rfl 36 Tryz.ntmps40 (of_decide_eq_true rfl) (of_decide_eq_true rfl) fun B => codeK_sound tab_ok _ _ _ ?_
  simp (config := { maxSteps := 4000000 }) only [go_sem, simprocAttr, ↓dnA, Tryz.f40, rows_length]
  refine semL_for tab_ok (fun i : Nat => ⟨36, [(0, .row 800 xs.length), (1, .int .i64 (k + (stepS stF (xs.take i) : Int))), (5, .int .i64 i)], [(800, .row true nn 3 (rows encF1 (midS mkF stF xs k i)))]⟩) (fun i => xs.length - i)
    (fun i => i ≤ xs.length) 0 [(800, 800)] (Weak.of (by rfl) ?_ ?_ (by rfl)) (by omega) ?_
  · simp (config := { maxSteps := 4000000 }) only [go_sem, simprocAttr, ↓dnA, Tryz.f40, midS_zero, frW, wk2, wk1, wkL, wkB, hpW, List.mem_cons, Prod.mk.injEq, exists_eq_left, exists_eq_right, exists_eq]
  · simp (config := { maxSteps := 4000000 }) only [go_sem, simprocAttr, ↓dnA, Tryz.f40, List.take_zero, stepS, Int.add_zero, nc0, frW, wk2, wk1, wkL, wkB, hpW, List.mem_cons, Prod.mk.injEq, exists_eq_left, exists_eq_right, exists_eq]
  · rintro i hi
    by_cases h : i < xs.length
    · have hb := stepS_lt stF xs i h
      have hm : i < (rows encF1 (midS mkF stF xs k i)).length := by rw [rows_length, midS_length _ _ _ _ _ hi]; exact h
      have hst : stF xs[i] = 1 + stepS stE xs[i].reads + stepS stE xs[i].writes := rfl
      have hl2 := stepS_const stE 2 (fun _ => rfl) xs[i].reads
      have hl3 := stepS_const stE 2 (fun _ => rfl) xs[i].writes
      have hK : k + (stepS stF (xs.take (i + 1)) : Int) = k + (stepS stF (xs.take i) : Int) + 1 + (stepS stE xs[i].reads : Int) + (stepS stE xs[i].writes : Int) := by rw [stepS_take_succ _ _ _ h, hst]; omega
      have hs := midS_set encF1 mkF stF xs k i h
      unfold mkF at hs
      generalize hKe : k + (stepS stF (xs.take i) : Int) = K at *
      have hw1 : IntKind.i64.wrap (K + 1) = K + 1 := wrap_small _ (by omega) (by omega)
      simp (config := { maxSteps := 4000000 }) only [go_sem, simprocAttr, ↓dnA, Tryz.f40, rows_length, midS_length _ _ _ _ _ hi, List.length_set, nlt h, h, nn0, midS_get _ _ _ _ _ _ h, encF1, encF, set_same _ _ _ hm, List.set_set, spliceL, hw1]
      repeat refine And.intro (by first | omega | (simp; done) | (simp; omega) | assumption) ?_
      intro sz2 hz2 hl2'
      refine CallMTo.of (c_laws_markEntryS false sz2 xs[i].reads _ (sz_of encE xs[i].reads 2 sz2 (fun _ => rfl) hl2') (by omega) (by omega)) ?_
      rintro r ls' ⟨rfl, rfl⟩ es2' he
      simp only [List.cons.injEq, AV.osl.injEq, and_true, true_and] at he
      subst he
      simp (config := { maxSteps := 4000000 }) only [go_sem, simprocAttr, ↓dnA, Tryz.f40, rows_length, midS_length _ _ _ _ _ hi, List.length_set, nlt h, h, nn0, midS_get _ _ _ _ _ _ h, encF1, encF, set_same _ _ _ hm, List.set_set, spliceL]
      repeat refine And.intro (by first | omega | (simp; done) | (simp; omega) | assumption) ?_
      intro sz2 hz2 hl2'
      refine CallMTo.of (c_laws_markEntryS false sz2 xs[i].writes _ (sz_of encE xs[i].writes 2 sz2 (fun _ => rfl) hl2') (by omega) (by omega)) ?_
      rintro r ls' ⟨rfl, rfl⟩ es2' he
      simp only [List.cons.injEq, AV.osl.injEq, and_true, true_and] at he
      subst he
      simp (config := { maxSteps := 4000000 }) only [go_sem, simprocAttr, ↓dnA, Tryz.f40, rows_length, midS_length _ _ _ _ _ hi, List.length_set, nlt h, h, nn0, midS_get _ _ _ _ _ _ h, encF1, encF, set_same _ _ _ hm, List.set_set, spliceL, wsucc h hx]
      refine ⟨i + 1, [(800, 800)], by omega, by dsimp only; omega, Weak.of (by rfl) ?_ ?_ (by rfl)⟩
      · simp (config := { maxSteps := 4000000 }) only [go_sem, simprocAttr, ↓dnA, Tryz.f40, frW, wk2, wk1, wkL, wkB, hpW, List.mem_cons, Prod.mk.injEq, exists_eq_left, exists_eq_right, exists_eq]
        exact hs.symm
      · simp (config := { maxSteps := 4000000 }) only [go_sem, simprocAttr, ↓dnA, Tryz.f40, hK, wsucc h hx, frW, wk2, wk1, wkL, wkB, hpW, List.mem_cons, Prod.mk.injEq, exists_eq_left, exists_eq_right, exists_eq]
    · have hi' : i = xs.length := by omega
      subst hi'
      simp (config := { maxSteps := 4000000 }) only [go_sem, simprocAttr, ↓dnA, Tryz.f40, nlf h, rows_length, midS_len, List.take_length, markS_length]

theorem c_laws_heldEffectS (n1 : Option Bool) (xs : List Effect) (k : Int) (hx : xs.length < 2 ^ 62) (hk : 0 ≤ k ∧ k + stepS stF xs < 2 ^ 62) :
    Det Tryz.prog 42 [.sl n1 (rows encF1 (markS mkF stF xs k)), .int .i64 k] (.int .i64 (k + stepS stF xs)) := by
  refine fspec_det tab_ok Tryz.call42 Tryz.func42 rfl 42 Tryz.ntmps42 (of_decide_eq_true rfl) fun B => codeK_sound tab_ok _ _ _ ?_
  simp (config := { maxSteps := 4000000 }) only [go_sem, simprocAttr, ↓dnA, Tryz.f42]
  refine semL_for tab_ok (fun i : Nat => ⟨42, [(0, .sl n1 (rows encF1 (markS mkF stF xs k))), (1, .int .i64 (k + (stepS stF (xs.take i) : Int))), (5, .int .i64 i)], []⟩) (fun i => xs.length - i)
    (fun i => i ≤ xs.length) 0 [] (Weak.of rfl trivial ?_ rfl) (by omega) ?_
  · simp (config := { maxSteps := 4000000 }) only [go_sem, simprocAttr, ↓dnA, Tryz.f42, List.take_zero, stepS, Int.add_zero, nc0, frW, wk2, wk1, wkL, wkB, hpW, List.mem_cons, Prod.mk.injEq, exists_eq_left, exists_eq_right, exists_eq]
  · rintro i hi
    by_cases h : i < xs.length
    · have hb := stepS_lt stF xs i h
      have hst : stF xs[i] = 1 + stepS stE xs[i].reads + stepS stE xs[i].writes := rfl
      have hl2 := stepS_const stE 2 (fun _ => rfl) xs[i].reads
      have hl3 := stepS_const stE 2 (fun _ => rfl) xs[i].writes
      have hK : k + (stepS stF (xs.take (i + 1)) : Int) = k + (stepS stF (xs.take i) : Int) + 1 + (stepS stE xs[i].reads : Int) + (stepS stE xs[i].writes : Int) := by rw [stepS_take_succ _ _ _ h, hst]; omega
      have hg := markS_rget encF1 mkF stF xs i k h
      generalize hKe : k + (stepS stF (xs.take i) : Int) = K at *
      have hw1 : IntKind.i64.wrap (K + 1) = K + 1 := wrap_small _ (by omega) (by omega)
      have d2 : decide (K + 1 + (stepS stE xs[i].reads : Int) < 0) = false := by simp; omega
      have d3 : decide (K + 1 + (stepS stE xs[i].reads : Int) + (stepS stE xs[i].writes : Int) < 0) = false := by simp; omega
      simp (config := { maxSteps := 4000000 }) only [go_sem, simprocAttr, ↓dnA, Tryz.f42, rows_length, markS_length, nlt h, h, nn0, hg, encF1, encF, mkF, hw1]
      repeat refine And.intro (by first | omega | (simp; done) | (simp; omega) | assumption) ?_
      refine CallTo.det (c_laws_heldEntryS none xs[i].reads _ (by omega) (by omega)) fun _ => ?_
      simp (config := { maxSteps := 4000000 }) only [go_sem, simprocAttr, ↓dnA, Tryz.f42, rows_length, markS_length, nlt h, h, nn0, hg, encF1, encF, mkF, d2]
      repeat refine And.intro (by first | omega | (simp; done) | (simp; omega) | assumption) ?_
      refine CallTo.det (c_laws_heldEntryS none xs[i].writes _ (by omega) (by omega)) fun _ => ?_
      simp (config := { maxSteps := 4000000 }) only [go_sem, simprocAttr, ↓dnA, Tryz.f42, rows_length, markS_length, nlt h, h, nn0, hg, encF1, encF, mkF, d3, wsucc h hx]
      refine ⟨i + 1, [], by omega, by dsimp only; omega, Weak.of rfl trivial ?_ rfl⟩
      simp (config := { maxSteps := 4000000 }) only [go_sem, simprocAttr, ↓dnA, Tryz.f42, hK, wsucc h hx, frW, wk2, wk1, wkL, wkB, hpW, List.mem_cons, Prod.mk.injEq, exists_eq_left, exists_eq_right, exists_eq]
    · have hi' : i = xs.length := by omega
      subst hi'
      simp (config := { maxSteps := 4000000 }) only [go_sem, simprocAttr, ↓dnA, Tryz.f42, nlf h, rows_length, List.take_length, markS_length]

theorem stF_le : ∀ (l : List Effect), (∀ f, f ∈ l → f.reads.length ≤ 2 ∧ f.writes.length ≤ 2) → stepS stF l ≤ 9 * l.length
  | [], _ => by show 0 ≤ _; omega
  | f :: r, h => by
    have h1 := stF_le r fun x hx => h x (List.mem_cons_of_mem _ hx)
    have h2 := h f (List.mem_cons_self ..)
    have hl2 := stepS_const stE 2 (fun _ => rfl) f.reads
    have hl3 := stepS_const stE 2 (fun _ => rfl) f.writes
    have hst : stF f = 1 + stepS stE f.reads + stepS stE f.writes := rfl
    show stF f + stepS stF r ≤ _
    rw [List.length_cons]
    omega
theorem resX_sz (e : Engine) : EffsSz (2 ^ 62) (resX e).2.1 := by
  have h := resX_efl e
  exact ⟨by omega, fun f hf => ⟨by have := h.2 f hf; omega, by have := h.2 f hf; omega⟩⟩
theorem resX_st (e : Engine) : stepS stF (resX e).2.1 ≤ 90 := by
  have h := resX_efl e
  have := stF_le _ h.2
  omega

end Go.Proofs.YteebkimhfaodnaaGreat

/- Contracts: FnExactEngineResult. -/
set_option linter.unusedSimpArgs false
set_option linter.unusedVariables false
set_option maxRecDepth 20000
set_option maxHeartbeats 4000000
namespace Go.Proofs.YteebkimhfaodnaaGreat
open Go Go.RowKit

theorem c_laws_FnExactEngineResult (n00 n01 n02 n03 : Option Bool) (e : Engine) (he : EngLen e) :
    Det Tryz.prog 10 [.agg (encG n00 n01 n02 n03 e)] (.bool true) := by
  refine fspec_det tab_ok Tryz.call10 Tryz.func10 rfl 133 Tryz.ntmps10 (of_decide_eq_true rfl) fun B => codeK_sound tab_ok _ _ _ ?_
  have hle0 : (0 : Int) ≤ 1048576 ∧ (1048576 : Int) ≤ 1048576 := by omega
  have hr0b := szI_bd (left := 1048576) (n := (gsz e)) hle0.2
  simp (config := { maxSteps := 4000000 }) only [go_sem, simprocAttr, ↓dnA, Tryz.f10, encG, encGO, encGF, List.nodup_cons, rows_length, markS_length]
  refine CallTo.det (c_laws_szEngine n00 n01 n02 n03 e _ he hle0) fun _ => ?_
  cases d0 : decide (szI 1048576 (gsz e) < 0) with
  | true => simp (config := { maxSteps := 4000000 }) only [go_sem, simprocAttr, ↓dnA, Tryz.f10, encG, encGO, encGF, List.nodup_cons, rows_length, markS_length, d0]
  | false =>
  have d0' := of_decide_eq_false d0
  have hle1 : 0 ≤ szI 1048576 (gsz e) ∧ szI 1048576 (gsz e) ≤ 1048576 := by omega
  have qe : (gsz e) ≤ 1048576 := by have := hr0b.2 (by omega); omega
  have hse : EngSz (2 ^ 32) e := gsz_sz (by omega)
  have hze : EngSz (2 ^ 62) e := gsz_sz (by omega)
  have hme := stG_le e
  have hl1 := resX_len e
  have hl2 := resX_sz e
  have hl3 := resX_st e
  have hS := c_spec_EngineResult (some true) (some true) (some true) (some true) e hse
  have hN := c_impl_EngineResult (some true) (some true) (some true) (some true) e hse
  generalize resX e = g0 at hS hN hl1 hl2 hl3
  obtain ⟨s, f, g1⟩ := g0
  dsimp only at hS hN hl1 hl2 hl3
  have hf1 := hl2.len
  have eg : decide (s = s) = true := by simp
  have eh : decide (f = f) = true := by simp
  have es := stepS_const stE 2 (fun _ => rfl) s
  have dm : decide (1 + (stepS stE s : Int) < 0) = false := by simp; omega
  have dm2 : decide (1 + (stepS stE s : Int) + (stepS stF f : Int) < 0) = false := by simp; omega
  have eo : (g1 != g1) = false := by simp
  have dk : decide (1 + (stG e : Int) < 0) = false := by simp; omega
  have eee : decide (e = e) = true := by simp
  simp (config := { maxSteps := 4000000 }) only [go_sem, simprocAttr, ↓dnA, Tryz.f10, encG, encGO, encGF, List.nodup_cons, rows_length, markS_length, d0, mkG_l1, mkG_l2, mkG_l3, mkG_l4, eg, eh, dm, dm2, eo, dk, eee]
  refine CallTo.det (c_laws_toEngine n00 n01 n02 n03 e hse) fun _ => ?_
  simp (config := { maxSteps := 4000000 }) only [go_sem, simprocAttr, ↓dnA, Tryz.f10, encG, encGO, encGF, List.nodup_cons, rows_length, markS_length, d0, mkG_l1, mkG_l2, mkG_l3, mkG_l4, eg, eh, dm, dm2, eo, dk, eee]
  refine CallTo.det (hS) fun _ => ?_
  simp (config := { maxSteps := 4000000 }) only [go_sem, simprocAttr, ↓dnA, Tryz.f10, encG, encGO, encGF, List.nodup_cons, rows_length, markS_length, d0, mkG_l1, mkG_l2, mkG_l3, mkG_l4, eg, eh, dm, dm2, eo, dk, eee]
  refine CallTo.det (c_laws_toEngine n00 n01 n02 n03 e hse) fun _ => ?_
  simp (config := { maxSteps := 4000000 }) only [go_sem, simprocAttr, ↓dnA, Tryz.f10, encG, encGO, encGF, List.nodup_cons, rows_length, markS_length, d0, mkG_l1, mkG_l2, mkG_l3, mkG_l4, eg, eh, dm, dm2, eo, dk, eee]
  refine CallTo.det (hN) fun _ => ?_
  simp (config := { maxSteps := 4000000 }) only [go_sem, simprocAttr, ↓dnA, Tryz.f10, encG, encGO, encGF, List.nodup_cons, rows_length, markS_length, d0, mkG_l1, mkG_l2, mkG_l3, mkG_l4, eg, eh, dm, dm2, eo, dk, eee]
  refine CallTo.det (c_laws_eqEntryS _ _ s s (by omega) (by omega)) fun _ => ?_
  simp (config := { maxSteps := 4000000 }) only [go_sem, simprocAttr, ↓dnA, Tryz.f10, encG, encGO, encGF, List.nodup_cons, rows_length, markS_length, d0, mkG_l1, mkG_l2, mkG_l3, mkG_l4, eg, eh, dm, dm2, eo, dk, eee]
  refine CallTo.det (c_laws_eqEffectS _ _ f f hf1 hf1 hl2.each hl2.each) fun _ => ?_
  simp (config := { maxSteps := 4000000 }) only [go_sem, simprocAttr, ↓dnA, Tryz.f10, encG, encGO, encGF, List.nodup_cons, rows_length, markS_length, d0, mkG_l1, mkG_l2, mkG_l3, mkG_l4, eg, eh, dm, dm2, eo, dk, eee]
  refine semL_draw tab_ok mixed_ rfl (ord := [(0, []), (1, []), (2, [0]), (3, []), (4, [])]) (by dsimp only; decide +kernel) ?_
  simp (config := { maxSteps := 4000000 }) only [go_sem, simprocAttr, ↓dnA, Tryz.f10, encG, encGO, encGF, List.nodup_cons, rows_length, markS_length, d0, mkG_l1, mkG_l2, mkG_l3, mkG_l4, eg, eh, dm, dm2, eo, dk, eee]
  refine CallTo.det (c_laws_toEngine n00 n01 n02 n03 e hse) fun _ => ?_
  simp (config := { maxSteps := 4000000 }) only [go_sem, simprocAttr, ↓dnA, Tryz.f10, encG, encGO, encGF, List.nodup_cons, rows_length, markS_length, d0, mkG_l1, mkG_l2, mkG_l3, mkG_l4, eg, eh, dm, dm2, eo, dk, eee]
  refine CallTo.det (c_laws_eqEngine _ _ _ _ _ _ _ _ e e hze hze) fun _ => ?_
  simp (config := { maxSteps := 4000000 }) only [go_sem, simprocAttr, ↓dnA, Tryz.f10, encG, encGO, encGF, List.nodup_cons, rows_length, markS_length, d0, mkG_l1, mkG_l2, mkG_l3, mkG_l4, eg, eh, dm, dm2, eo, dk, eee]
  refine CallMTo.of (c_laws_markEngine true true true true e _ hze ⟨by omega, by omega⟩) ?_
  rintro r ls' ⟨rfl, rfl⟩
  simp (config := { maxSteps := 4000000 }) only [go_sem, simprocAttr, ↓dnA, Tryz.f10, encG, encGO, encGF, List.nodup_cons, rows_length, markS_length, d0, mkG_l1, mkG_l2, mkG_l3, mkG_l4, eg, eh, dm, dm2, eo, dk, eee]
  refine CallTo.det (c_laws_eqEntryS _ _ s s (by omega) (by omega)) fun _ => ?_
  simp (config := { maxSteps := 4000000 }) only [go_sem, simprocAttr, ↓dnA, Tryz.f10, encG, encGO, encGF, List.nodup_cons, rows_length, markS_length, d0, mkG_l1, mkG_l2, mkG_l3, mkG_l4, eg, eh, dm, dm2, eo, dk, eee]
  refine CallTo.det (c_laws_eqEffectS _ _ f f hf1 hf1 hl2.each hl2.each) fun _ => ?_
  simp (config := { maxSteps := 4000000 }) only [go_sem, simprocAttr, ↓dnA, Tryz.f10, encG, encGO, encGF, List.nodup_cons, rows_length, markS_length, d0, mkG_l1, mkG_l2, mkG_l3, mkG_l4, eg, eh, dm, dm2, eo, dk, eee]
  refine CallMTo.of (c_laws_markEntryS false 2 s _ (.inr rfl) (by omega) ⟨by omega, by omega⟩) ?_
  rintro r ls' ⟨rfl, rfl⟩
  simp (config := { maxSteps := 4000000 }) only [go_sem, simprocAttr, ↓dnA, Tryz.f10, encG, encGO, encGF, List.nodup_cons, rows_length, markS_length, d0, mkG_l1, mkG_l2, mkG_l3, mkG_l4, eg, eh, dm, dm2, eo, dk, eee]
  refine CallMTo.of (c_laws_markEffectS false f _ hf1 ⟨by omega, by omega⟩) ?_
  rintro r ls' ⟨rfl, rfl⟩
  simp (config := { maxSteps := 4000000 }) only [go_sem, simprocAttr, ↓dnA, Tryz.f10, encG, encGO, encGF, List.nodup_cons, rows_length, markS_length, d0, mkG_l1, mkG_l2, mkG_l3, mkG_l4, eg, eh, dm, dm2, eo, dk, eee]
  refine CallTo.det (c_laws_heldEntryS _ s 1 (by omega) ⟨by omega, by omega⟩) fun _ => ?_
  simp (config := { maxSteps := 4000000 }) only [go_sem, simprocAttr, ↓dnA, Tryz.f10, encG, encGO, encGF, List.nodup_cons, rows_length, markS_length, d0, mkG_l1, mkG_l2, mkG_l3, mkG_l4, eg, eh, dm, dm2, eo, dk, eee]
  refine CallTo.det (c_laws_heldEffectS _ f _ hf1 ⟨by omega, by omega⟩) fun _ => ?_
  simp (config := { maxSteps := 4000000 }) only [go_sem, simprocAttr, ↓dnA, Tryz.f10, encG, encGO, encGF, List.nodup_cons, rows_length, markS_length, d0, mkG_l1, mkG_l2, mkG_l3, mkG_l4, eg, eh, dm, dm2, eo, dk, eee]
  refine CallTo.det (c_laws_toEngine n00 n01 n02 n03 e hse) fun _ => ?_
  simp (config := { maxSteps := 4000000 }) only [go_sem, simprocAttr, ↓dnA, Tryz.f10, encG, encGO, encGF, List.nodup_cons, rows_length, markS_length, d0, mkG_l1, mkG_l2, mkG_l3, mkG_l4, eg, eh, dm, dm2, eo, dk, eee]
  refine CallTo.det (hN) fun _ => ?_
  simp (config := { maxSteps := 4000000 }) only [go_sem, simprocAttr, ↓dnA, Tryz.f10, encG, encGO, encGF, List.nodup_cons, rows_length, markS_length, d0, mkG_l1, mkG_l2, mkG_l3, mkG_l4, eg, eh, dm, dm2, eo, dk, eee]
  refine CallTo.det (c_laws_eqEntryS _ _ s s (by omega) (by omega)) fun _ => ?_
  simp (config := { maxSteps := 4000000 }) only [go_sem, simprocAttr, ↓dnA, Tryz.f10, encG, encGO, encGF, List.nodup_cons, rows_length, markS_length, d0, mkG_l1, mkG_l2, mkG_l3, mkG_l4, eg, eh, dm, dm2, eo, dk, eee]
  refine CallTo.det (c_laws_eqEffectS _ _ f f hf1 hf1 hl2.each hl2.each) fun _ => ?_
  simp (config := { maxSteps := 4000000 }) only [go_sem, simprocAttr, ↓dnA, Tryz.f10, encG, encGO, encGF, List.nodup_cons, rows_length, markS_length, d0, mkG_l1, mkG_l2, mkG_l3, mkG_l4, eg, eh, dm, dm2, eo, dk, eee]
  refine CallTo.det (c_laws_heldEntryS _ s 1 (by omega) ⟨by omega, by omega⟩) fun _ => ?_
  simp (config := { maxSteps := 4000000 }) only [go_sem, simprocAttr, ↓dnA, Tryz.f10, encG, encGO, encGF, List.nodup_cons, rows_length, markS_length, d0, mkG_l1, mkG_l2, mkG_l3, mkG_l4, eg, eh, dm, dm2, eo, dk, eee]
  refine CallTo.det (c_laws_heldEffectS _ f _ hf1 ⟨by omega, by omega⟩) fun _ => ?_
  simp (config := { maxSteps := 4000000 }) only [go_sem, simprocAttr, ↓dnA, Tryz.f10, encG, encGO, encGF, List.nodup_cons, rows_length, markS_length, d0, mkG_l1, mkG_l2, mkG_l3, mkG_l4, eg, eh, dm, dm2, eo, dk, eee]

end Go.Proofs.YteebkimhfaodnaaGreat

