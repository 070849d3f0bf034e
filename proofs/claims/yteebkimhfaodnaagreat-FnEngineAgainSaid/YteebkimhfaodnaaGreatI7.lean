/- Shared texts I (part 7): W194, W195 -/
import Derived.Test.YteebkimhfaodnaaGreatI6

set_option linter.unusedSimpArgs false
set_option linter.unusedVariables false

/- FnEngineResult. -/
set_option linter.unusedSimpArgs false
set_option linter.unusedVariables false
set_option maxRecDepth 20000
set_option maxHeartbeats 4000000
namespace Go.Proofs.YteebkimhfaodnaaGreat
open Go Go.RowKit

/-- An engine that is done has the results of the serial run. -/
theorem serial_is {e : Engine} (h : EngOk e) (hd : doneE e = true) : runSerial e.base e.list = (storeL (lastVals e.base e.versions), e.slots.map Slot.res) := by
  unfold runSerial
  rw [h.base, h.list, last_serial h (doneE_iff.1 hd)]
  rfl
theorem effs_small (e : Engine) : ∀ f, f ∈ (resX e).2.1 → f.reads.length < 2 ^ 62 ∧ f.writes.length < 2 ^ 62 := fun f hf => by
  have := (resX_efl e).2 f hf
  omega

theorem c_laws_FnEngineResult (nb : Option Bool) (bs : List Int) (h : ∀ b, b ∈ bs → 0 ≤ b ∧ b ≤ 255) : Det Tryz.prog 8 [.sl nb (rows encB bs)] (.bool true) := by
  refine fspec_det tab_ok Tryz.call8 Tryz.func8 rfl 73 Tryz.ntmps8 (of_decide_eq_true rfl) fun B => codeK_sound tab_ok _ _ _ ?_
  simp (config := { maxSteps := 4000000 }) only [go_sem, simprocAttr, ↓dnA, Tryz.f8, rows_length]
  intro hl
  have hc : CodeOk bs := ⟨h, by simp at hl; omega⟩
  refine CallTo.of (c_spec_DrawEngineResult nb bs hc) ?_
  rintro r b ⟨e, rfl, hs⟩
  have hs32 : EngSz (2 ^ 32) e := hs.mono (by omega)
  have hI := c_impl_EngineResult none none none none e hs32
  have hS := c_spec_EngineResult none none none none e hs32
  have hR := c_impl_RunSerial none none e.base e.list hs32.base hs32.list
  have hl1 := resX_len e
  have hl2 := (resX_efl e).1
  have hl3 := effs_small e
  have hd : ((resX e).2.2 = false ∧ (resX e).1 = [] ∧ (resX e).2.1 = []) ∨ ((resX e).2.2 = true ∧ runSerial e.base e.list = ((resX e).1, (resX e).2.1)) := by
    cases c : doneX e with
    | false => left; rw [resX_no c]; exact ⟨rfl, rfl, rfl⟩
    | true =>
      obtain ⟨he, hd, hr⟩ := resX_yes c
      right; rw [hr, serial_is he hd]; exact ⟨rfl, rfl⟩
  generalize runSerial e.base e.list = z at hR hd
  generalize resX e = y at hI hS hl1 hl2 hl3 hd
  obtain ⟨st, ef, ok⟩ := y
  dsimp only at hI hS hl1 hl2 hl3 hd
  have hoo : (ok != ok) = false := by simp
  simp (config := { maxSteps := 4000000 }) only [go_sem, simprocAttr, ↓dnA, Tryz.f8, rows_length, encG]
  refine CallTo.det hI fun _ => ?_
  simp (config := { maxSteps := 4000000 }) only [go_sem, simprocAttr, ↓dnA, Tryz.f8, rows_length, encG]
  refine CallTo.det hS fun _ => ?_
  simp (config := { maxSteps := 4000000 }) only [go_sem, simprocAttr, ↓dnA, Tryz.f8, rows_length, encG]
  refine CallTo.det (c_laws_sameStore none none st (by omega)) fun _ => ?_
  simp (config := { maxSteps := 4000000 }) only [go_sem, simprocAttr, ↓dnA, Tryz.f8, rows_length, encG]
  refine CallTo.det (c_laws_sameEffects none none ef (by omega) hl3) fun _ => ?_
  rcases hd with ⟨rfl, rfl, rfl⟩ | ⟨rfl, rfl⟩
  · have z : ((0 : Int) == 0) = true := rfl
    simp (config := { maxSteps := 4000000 }) only [go_sem, simprocAttr, ↓dnA, Tryz.f8, rows_length, encG, hoo, List.length_nil, rows_nil, z]
    refine CallTo.det c_laws_alive fun _ => ?_
    simp (config := { maxSteps := 4000000 }) only [go_sem, simprocAttr, ↓dnA, Tryz.f8, rows_length, encG, hoo]
  · dsimp only at hR
    simp (config := { maxSteps := 4000000 }) only [go_sem, simprocAttr, ↓dnA, Tryz.f8, rows_length, encG, hoo]
    refine CallTo.det hR fun _ => ?_
    simp (config := { maxSteps := 4000000 }) only [go_sem, simprocAttr, ↓dnA, Tryz.f8, rows_length, encG, hoo]
    refine CallTo.det (c_laws_sameStore none none st (by omega)) fun _ => ?_
    simp (config := { maxSteps := 4000000 }) only [go_sem, simprocAttr, ↓dnA, Tryz.f8, rows_length, encG, hoo]
    refine CallTo.det (c_laws_sameEffects none none ef (by omega) hl3) fun _ => ?_
    simp (config := { maxSteps := 4000000 }) only [go_sem, simprocAttr, ↓dnA, Tryz.f8, rows_length, encG, hoo]

end Go.Proofs.YteebkimhfaodnaaGreat

/- FnEngineFinish. -/
set_option linter.unusedSimpArgs false
set_option linter.unusedVariables false
set_option maxRecDepth 20000
set_option maxHeartbeats 4000000
namespace Go.Proofs.YteebkimhfaodnaaGreat
open Go Go.RowKit

/-- What a finish leads to. -/
structure FinIs (e x : Engine) (m : Int) : Prop where
  e_ok : EngOk e
  ok : EngOk x
  done : doneE x = true
  base : x.base = e.base
  list : x.list = e.list
  len : x.slots.length = e.slots.length
  tries : ∀ j, j < x.slots.length → (slotAt x j).tries ≤ 901
  m0 : 0 ≤ m
  m3 : m ≤ 3 * (e.slots.length : Int)
theorem finX_is (e : Engine) : finX e = (zeroE, -1) ∨ FinIs e (finX e).1 (finX e).2 := by
  unfold finX
  split
  · rename_i h
    have he := engValid_iff.1 h.1
    have hf := finE_fin (b := 900) (by omega) he h.2
    have hlen := hf.len
    have hc := hf.cnt
    rw [if_neg (by omega)] at hc
    exact .inr ⟨he, hf.ok, doneE_iff.2 fun j hj => hf.pre j (by omega), hf.base, hf.list, hlen, hf.top, hc.1, by omega⟩
  · exact .inl rfl
theorem finX_again {e x : Engine} {m : Int} (h : FinIs e x m) : finX x = (x, 0) ∨ finX x = (zeroE, -1) := by
  unfold finX
  split
  · exact .inl (finE_done h.ok (doneE_iff.1 h.done))
  · exact .inr rfl

theorem c_laws_FnEngineFinish (nb : Option Bool) (bs : List Int) (h : ∀ b, b ∈ bs → 0 ≤ b ∧ b ≤ 255) : Det Tryz.prog 9 [.sl nb (rows encB bs)] (.bool true) := by
  refine fspec_det tab_ok Tryz.call9 Tryz.func9 rfl 87 Tryz.ntmps9 (of_decide_eq_true rfl) fun B => codeK_sound tab_ok _ _ _ ?_
  simp (config := { maxSteps := 4000000 }) only [go_sem, simprocAttr, ↓dnA, Tryz.f9, rows_length]
  intro hl
  have hc : CodeOk bs := ⟨h, by simp at hl; omega⟩
  refine CallTo.of (c_spec_DrawEngineFinish nb bs hc) ?_
  rintro r b ⟨e, rfl, hs⟩
  have hs32 : EngSz (2 ^ 32) e := hs.mono (by omega)
  have hI := c_impl_EngineFinish none none none none e hs32
  have hS := c_spec_EngineFinish none none none none e hs32
  have hR := c_impl_RunSerial none none e.base e.list hs32.base hs32.list
  have hxs := finX_sz e
  have hxi := finX_is e
  generalize finX e = y at hI hS hxs hxi
  obtain ⟨x, m⟩ := y
  dsimp only at hI hS hxs hxi
  have hx32 : EngSz (2 ^ 32) x := hxs.mono (by omega)
  have hx62 : EngSz (2 ^ 62) x := hxs.mono (by omega)
  have hmm : (m != m) = false := by simp
  simp (config := { maxSteps := 4000000 }) only [go_sem, simprocAttr, ↓dnA, Tryz.f9, rows_length, encG, encGF]
  refine CallTo.det hI fun _ => ?_
  simp (config := { maxSteps := 4000000 }) only [go_sem, simprocAttr, ↓dnA, Tryz.f9, rows_length, encG, encGF]
  refine CallTo.det hS fun _ => ?_
  simp (config := { maxSteps := 4000000 }) only [go_sem, simprocAttr, ↓dnA, Tryz.f9, rows_length, encG, encGF]
  refine CallTo.det (c_laws_sameEngine none none none none none none none none x hx62) fun _ => ?_
  rcases hxi with hz | hz
  · obtain ⟨rfl, rfl⟩ := Prod.mk.inj hz
    have z : ((0 : Int) == 0) = true := rfl
    have z1 : decide ((-1 : Int) < 0) = true := rfl
    have z2 : ((-1 : Int) == -1) = true := rfl
    have zl : (zeroE.slots.length : Int) = 0 := rfl
    simp (config := { maxSteps := 4000000 }) only [go_sem, simprocAttr, ↓dnA, Tryz.f9, rows_length, encG, encGF, hmm, zl, z, z1, z2]
    refine CallTo.det c_laws_alive fun _ => ?_
    simp (config := { maxSteps := 4000000 }) only [go_sem, simprocAttr, ↓dnA, Tryz.f9, rows_length, encG, encGF]
  · have hER := c_impl_EngineResult none none none none x hx32
    have hED := c_impl_EngineDone none none none none x hx32
    have hdx : doneX x = true := by unfold doneX; rw [engValid_yes hz.ok, hz.done]; rfl
    rw [hdx] at hED
    obtain ⟨_, _, hr⟩ := resX_yes hdx
    have hser := serial_is hz.ok hz.done
    rw [hz.base, hz.list] at hser
    rw [hser] at hR
    have hl1 := resX_len x
    have hl2 := (resX_efl x).1
    have hl3 := effs_small x
    rw [hr] at hER hl1 hl2 hl3
    rw [hz.base] at hER hl1
    dsimp only at hER hR hl1 hl2 hl3
    generalize storeL (lastVals e.base x.versions) = st at hER hR hl1
    generalize x.slots.map Slot.res = ef at hER hR hl2 hl3
    have d0 : decide (m < 0) = false := decide_eq_false (by have := hz.m0; omega)
    have hel := hs.slots
    have hw3 : IntKind.i64.wrap (3 * (e.slots.length : Int)) = 3 * (e.slots.length : Int) := wrap_small _ (by omega) (by omega)
    have d3 : decide (m ≤ 3 * (e.slots.length : Int)) = true := decide_eq_true hz.m3
    simp (config := { maxSteps := 4000000 }) only [go_sem, simprocAttr, ↓dnA, Tryz.f9, rows_length, encG, encGF, hmm, d0]
    refine CallTo.det hER fun _ => ?_
    simp (config := { maxSteps := 4000000 }) only [go_sem, simprocAttr, ↓dnA, Tryz.f9, rows_length, encG, encGF, hmm, d0]
    refine CallTo.det hR fun _ => ?_
    simp (config := { maxSteps := 4000000 }) only [go_sem, simprocAttr, ↓dnA, Tryz.f9, rows_length, encG, encGF, hmm, d0]
    refine CallTo.det hED fun _ => ?_
    simp (config := { maxSteps := 4000000 }) only [go_sem, simprocAttr, ↓dnA, Tryz.f9, rows_length, encG, encGF, hmm, d0]
    refine CallTo.det (c_laws_sameStore none none st (by omega)) fun _ => ?_
    simp (config := { maxSteps := 4000000 }) only [go_sem, simprocAttr, ↓dnA, Tryz.f9, rows_length, encG, encGF, hmm, d0]
    refine CallTo.det (c_laws_sameEffects none none ef (by omega) hl3) fun _ => ?_
    simp (config := { maxSteps := 4000000 }) only [go_sem, simprocAttr, ↓dnA, Tryz.f9, rows_length, encG, encGF, hmm, d0, hw3, d3]

theorem c_laws_FnEngineAgain (nb : Option Bool) (bs : List Int) (h : ∀ b, b ∈ bs → 0 ≤ b ∧ b ≤ 255) : Det Tryz.prog 7 [.sl nb (rows encB bs)] (.bool true) := by
  refine fspec_det tab_ok Tryz.call7 Tryz.func7 rfl 53 Tryz.ntmps7 (of_decide_eq_true rfl) fun B => codeK_sound tab_ok _ _ _ ?_
  simp (config := { maxSteps := 4000000 }) only [go_sem, simprocAttr, ↓dnA, Tryz.f7, rows_length]
  intro hl
  have hc : CodeOk bs := ⟨h, by simp at hl; omega⟩
  refine CallTo.of (c_spec_DrawEngineFinish nb bs hc) ?_
  rintro r b ⟨e, rfl, hs⟩
  have hs32 : EngSz (2 ^ 32) e := hs.mono (by omega)
  have hI := c_impl_EngineFinish none none none none e hs32
  have hS := c_spec_EngineFinish none none none none e hs32
  have hxs := finX_sz e
  have hxi := finX_is e
  generalize finX e = y at hI hS hxs hxi
  obtain ⟨x, m⟩ := y
  dsimp only at hI hS hxs hxi
  have hx32 : EngSz (2 ^ 32) x := hxs.mono (by omega)
  have hx62 : EngSz (2 ^ 62) x := hxs.mono (by omega)
  have hmm : (m != m) = false := by simp
  simp (config := { maxSteps := 4000000 }) only [go_sem, simprocAttr, ↓dnA, Tryz.f7, rows_length, encG, encGF]
  refine CallTo.det hI fun _ => ?_
  simp (config := { maxSteps := 4000000 }) only [go_sem, simprocAttr, ↓dnA, Tryz.f7, rows_length, encG, encGF]
  refine CallTo.det hS fun _ => ?_
  simp (config := { maxSteps := 4000000 }) only [go_sem, simprocAttr, ↓dnA, Tryz.f7, rows_length, encG, encGF]
  refine CallTo.det (c_laws_sameEngine none none none none none none none none x hx62) fun _ => ?_
  rcases hxi with hz | hz
  · obtain ⟨rfl, rfl⟩ := Prod.mk.inj hz
    have z1 : decide ((-1 : Int) < 0) = true := rfl
    simp (config := { maxSteps := 4000000 }) only [go_sem, simprocAttr, ↓dnA, Tryz.f7, rows_length, encG, encGF, hmm, z1]
    refine CallTo.det c_laws_alive fun _ => ?_
    simp (config := { maxSteps := 4000000 }) only [go_sem, simprocAttr, ↓dnA, Tryz.f7, rows_length, encG, encGF]
  · have hI2 := c_impl_EngineFinish none none none none x hx32
    have d0 : decide (m < 0) = false := decide_eq_false (by have := hz.m0; omega)
    simp (config := { maxSteps := 4000000 }) only [go_sem, simprocAttr, ↓dnA, Tryz.f7, rows_length, encG, encGF, hmm, d0]
    refine CallTo.det hI2 fun _ => ?_
    rcases finX_again hz with e2 | e2
    · rw [e2]
      have z0 : decide ((0 : Int) ≤ 0) = true := rfl
      have z1 : decide ((0 : Int) < 0) = false := rfl
      simp (config := { maxSteps := 4000000 }) only [go_sem, simprocAttr, ↓dnA, Tryz.f7, rows_length, encG, encGF, z0, z1]
      refine CallTo.det (c_laws_sameEngine none none none none none none none none x hx62) fun _ => ?_
      simp (config := { maxSteps := 4000000 }) only [go_sem, simprocAttr, ↓dnA, Tryz.f7, rows_length, encG, encGF, z0, z1]
    · rw [e2]
      have z0 : decide ((-1 : Int) ≤ 0) = true := rfl
      have z1 : decide ((-1 : Int) < 0) = true := rfl
      simp (config := { maxSteps := 4000000 }) only [go_sem, simprocAttr, ↓dnA, Tryz.f7, rows_length, encG, encGF, z0, z1]

end Go.Proofs.YteebkimhfaodnaaGreat

