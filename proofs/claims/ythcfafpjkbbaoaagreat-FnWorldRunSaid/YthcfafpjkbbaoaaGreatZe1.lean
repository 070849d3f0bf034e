/- FnWorldRun (part 1): W140, C31 -/
import Derived.Test.YthcfafpjkbbaoaaGreatRows
import Derived.ProofKit
import Derived.Test.YthcfafpjkbbaoaaGreatH7

set_option linter.unusedSimpArgs false
set_option linter.unusedVariables false

/- FnWorldRun. -/
set_option linter.unusedSimpArgs false
set_option linter.unusedVariables false
set_option maxRecDepth 20000
set_option maxHeartbeats 4000000
namespace Go.Proofs.YthcfafpjkbbaoaaGreat
open Go Go.RowKit

theorem worldRun_neg1 {w : Wld} {sc : List Int} (h : (worldRun w sc).2 < 0) : worldRun w sc = (noW, -1) ∨ (worldValid w = true ∧ ScOk sc) := by
  by_cases hv : worldValid w = true ∧ ScOk sc
  · exact .inr hv
  · exact .inl (worldRun_no hv)
theorem stepV_snd (p : Wld × Int) (m : Int) : p.2 ≤ (stepV p m).2 := by
  unfold stepV
  dsimp only
  split <;> omega
theorem foldV_snd : ∀ (sc : List Int) (p : Wld × Int), p.2 ≤ (sc.foldl stepV p).2
  | [], p => Int.le_refl _
  | x :: r, p => Int.le_trans (stepV_snd p x) (foldV_snd r (stepV p x))
theorem runW_snd (w : Wld) (sc : List Int) : 0 ≤ (runW w sc).2 := foldV_snd sc (w, 0)
theorem runW_le : ∀ (sc : List Int) (p : Wld × Int), (sc.foldl stepV p).2 ≤ p.2 + sc.length
  | [], p => by simp
  | x :: r, p => by
    have h1 := runW_le r (stepV p x)
    have h2 : (stepV p x).2 ≤ p.2 + 1 := by
      unfold stepV
      dsimp only
      split <;> omega
    rw [List.foldl_cons, List.length_cons]
    omega
theorem worldRun_is {w : Wld} {sc : List Int} (h : (worldRun w sc).2 < 0) : worldRun w sc = (noW, -1) := by
  by_cases hv : worldValid w = true ∧ ScOk sc
  · rw [worldRun_yes hv.1 hv.2] at h
    have := runW_snd w sc
    omega
  · exact worldRun_no hv
theorem worldRun_ok {w : Wld} {sc : List Int} (h : ¬ (worldRun w sc).2 < 0) : (worldValid w = true ∧ ScOk sc) ∧ worldValid (worldRun w sc).1 = true := by
  by_cases hv : worldValid w = true ∧ ScOk sc
  · refine ⟨hv, ?_⟩
    rw [worldRun_yes hv.1 hv.2]
    exact runW_valid hv.1 sc
  · rw [worldRun_no hv] at h; exact absurd (by decide) h

theorem c_laws_FnWorldRun (nb : Option Bool) (bs : List Int) (h : ∀ b, b ∈ bs → 0 ≤ b ∧ b ≤ 255) : Det Tryz.prog 10 [.sl nb (rows encB bs)] (.bool true) := by
  refine fspec_det tab_ok Tryz.call10 Tryz.func10 rfl 117 Tryz.ntmps10 (of_decide_eq_true rfl) fun B => codeK_sound tab_ok _ _ _ ?_
  simp (config := { maxSteps := 4000000 }) only [go_sem, simprocAttr, ↓dnA, Tryz.f10, rows_length]
  intro hl
  have hc : CodeOk bs := ⟨h, by simp at hl; omega⟩
  refine CallTo.of (c_spec_DrawWorldRun nb bs hc) ?_
  rintro r b ⟨w, sc, rfl, hw, hsl⟩
  have hx : WldSz w := WldS32.sz ⟨by omega⟩
  have hI := c_impl_WorldRun none none none none none none w sc hx (by omega)
  have hS := c_spec_WorldRun none none none none none none w sc hx (by omega)
  have hsz := worldRun_wsz w sc
  have hneg := fun h => worldRun_is (w := w) (sc := sc) h
  have hpos := fun h => worldRun_ok (w := w) (sc := sc) h
  generalize worldRun w sc = p at hI hS hsz hneg hpos
  obtain ⟨x, n⟩ := p
  dsimp only at hI hS hsz hneg hpos
  have hy : WldSz x := WldS32.sz ⟨by omega⟩
  have hqq : (n != n) = false := by simp
  have hsw := c_laws_sameWorld none none none none none none none none none none x hy
  simp (config := { maxSteps := 4000000 }) only [go_sem, simprocAttr, ↓dnA, Tryz.f10, rows_length, encW]
  refine CallTo.det hI fun _ => ?_
  simp (config := { maxSteps := 4000000 }) only [go_sem, simprocAttr, ↓dnA, Tryz.f10, rows_length, encW, encWF]
  refine CallTo.det hS fun _ => ?_
  simp (config := { maxSteps := 4000000 }) only [go_sem, simprocAttr, ↓dnA, Tryz.f10, rows_length, encW, encWF]
  refine CallTo.det hsw fun _ => ?_
  by_cases hn : n < 0
  · have e := hneg hn
    injection e with e1 e2
    subst e1 e2
    have z1 : ((-1 : Int) == -1) = true := rfl
    have z2 : ((noW.votes.length : Int) == 0) = true := rfl
    simp (config := { maxSteps := 4000000 }) only [go_sem, simprocAttr, ↓dnA, Tryz.f10, rows_length, encW, encWF, hqq, hn, z1, z2]
    refine CallTo.det c_laws_alive fun _ => ?_
    simp (config := { maxSteps := 4000000 }) only [go_sem, simprocAttr, ↓dnA, Tryz.f10, rows_length, encW, encWF, hqq, hn, z1, z2]
  · obtain ⟨⟨hv, hs⟩, hxv⟩ := hpos hn
    have ht := (worldValid_parts hv).1
    have hvo := worldOf_valid ht
    have hO := c_impl_WorldOf none none none w.tree (tb_s32 ht)
    have hso := (worldOk_s32 hvo).sz
    have hV := c_impl_WorldValid none none none none none x hy
    rw [hxv] at hV
    obtain ⟨f1, f2, f3, f4, f5, f6⟩ := run_facts ht hs (sc.length / 2)
    have hR1 := c_impl_WorldRun none none none none none none (worldOf w.tree) (sc.take (sc.length / 2)) hso (by rw [List.length_take]; omega)
    have hz1 := (worldOk_s32 f3).sz
    have hR2 := c_impl_WorldRun none none none none none none (worldRun (worldOf w.tree) (sc.take (sc.length / 2))).1 (sc.drop (sc.length / 2)) hz1 (by rw [List.length_drop]; omega)
    have hR3 := c_impl_WorldRun none none none none none none (worldOf w.tree) sc hso (by omega)
    have hz3 := (worldOk_s32 f4.valid).sz
    have hsw3 := c_laws_sameWorld none none none none none none none none none none (worldRun (worldOf w.tree) sc).1 hz3
    have hC := c_impl_WorldCerts none none none none none (worldRun (worldOf w.tree) sc).1 hz3
    have hA := c_impl_CommitsAgree none none none none (worldRun (worldOf w.tree) sc).1.tree (worldCerts (worldRun (worldOf w.tree) sc).1) hz3.tree
    have hH1 := c_impl_WorldHead none none none none none (worldRun (worldOf w.tree) (sc.take (sc.length / 2))).1 hz1
    have hH3 := c_impl_WorldHead none none none none none (worldRun (worldOf w.tree) sc).1 hz3
    have hB := c_impl_IsBefore none none none (worldRun (worldOf w.tree) sc).1.tree (worldHead (worldRun (worldOf w.tree) (sc.take (sc.length / 2))).1) (worldHead (worldRun (worldOf w.tree) sc).1) hz3.tree
    rw [f5] at hA
    rw [f6] at hB
    rw [show worldRun (worldRun (worldOf w.tree) (sc.take (sc.length / 2))).1 (sc.drop (sc.length / 2)) = ((worldRun (worldOf w.tree) sc).1, (worldRun (worldRun (worldOf w.tree) (sc.take (sc.length / 2))).1 (sc.drop (sc.length / 2))).2) from by rw [← f1]] at hR2
    have hb3 : (worldRun (worldOf w.tree) sc).2 ≤ 100 ∧ 0 ≤ (worldRun (worldOf w.tree) sc).2 := by
      rw [worldRun_yes hvo hs]
      have h1 := runW_snd (worldOf w.tree) sc
      have h2 := runW_le sc (worldOf w.tree, 0)
      have h3 := hs.1
      dsimp only at h2
      unfold runW at h1 ⊢
      omega
    generalize (worldRun (worldRun (worldOf w.tree) (sc.take (sc.length / 2))).1 (sc.drop (sc.length / 2))).2 = j at hR2 f2
    generalize worldCerts (worldRun (worldOf w.tree) sc).1 = cs at hC hA
    generalize worldHead (worldRun (worldOf w.tree) sc).1 = h3 at hH3 hB
    generalize worldHead (worldRun (worldOf w.tree) (sc.take (sc.length / 2))).1 = h1 at hH1 hB
    generalize worldRun (worldOf w.tree) sc = p3 at *
    generalize worldRun (worldOf w.tree) (sc.take (sc.length / 2)) = p1 at *
    generalize worldOf w.tree = o at *
    obtain ⟨a, i⟩ := p1
    obtain ⟨z, k⟩ := p3
    dsimp only at *
    have wk : IntKind.i64.wrap (i + j) = k := by rw [f2]; exact wrap_small _ (by omega) (by omega)
    have dk : (k == k) = true := by simp
    have hdv : (sc.length : Int).tdiv 2 = ((sc.length / 2 : Nat) : Int) := by
      rw [Int.tdiv_eq_ediv_of_nonneg (by omega)]; omega
    have htk : (rows encI sc).take sc.length = rows encI sc := by rw [List.take_of_length_le]; rw [rows_length]; omega
    have h2le : sc.length / 2 ≤ sc.length := by omega
    have hle : (((sc.length / 2 : Nat) : Int) ≤ (sc.length : Int)) = True := by simp; omega
    have wh : IntKind.i64.wrap ((sc.length / 2 : Nat) : Int) = ((sc.length / 2 : Nat) : Int) := wrap_small _ (by omega) (by omega)
    simp (config := { maxSteps := 4000000 }) only [go_sem, simprocAttr, ↓dnA, Tryz.f10, rows_length, encW, encWF, hqq, hn]
    refine CallTo.det hO fun _ => ?_
    simp (config := { maxSteps := 4000000 }) only [go_sem, simprocAttr, ↓dnA, Tryz.f10, rows_length, encW, encWF, hqq, hn]
    refine semL_draw tab_ok mixed_ rfl (ord := [(0, []), (1, []), (2, []), (3, []), (4, []), (5, []), (6, []), (7, []), (8, []), (9, []), (10, [0, 1, 2, 3, 4, 5, 7, 8, 9]), (11, [9]), (12, [])]) (by dsimp only; decide +kernel) ?_
    simp (config := { maxSteps := 4000000 }) only [go_sem, simprocAttr, ↓dnA, Tryz.f10, rows_length, encW, encWF, hqq, hn, hdv, wh, hle, nn0, h2le, rows_take]
    refine CallTo.det hR1 fun _ => ?_
    simp (config := { maxSteps := 4000000 }) only [go_sem, simprocAttr, ↓dnA, Tryz.f10, rows_length, encW, encWF, hqq, hn, hdv, wh, hle, nn0]
    refine semL_draw tab_ok mixed_ rfl (ord := [(0, []), (1, []), (2, []), (3, []), (4, []), (5, []), (6, []), (7, []), (8, []), (9, []), (10, [0, 1, 2, 3, 4, 5, 7, 8, 9]), (11, [9]), (12, [])]) (by first | (dsimp only; decide +kernel) | decide +kernel) ?_
    simp (config := { maxSteps := 4000000 }) only [go_sem, simprocAttr, ↓dnA, Tryz.f10, rows_length, encW, encWF, hqq, hn, hdv, wh, hle, nn0, h2le, htk, rows_drop]
    refine ⟨by omega, fun h1 h2 => (sz0I sc).elim (fun e => by omega) id, ?_⟩
    refine CallTo.det hR2 fun _ => ?_
    simp (config := { maxSteps := 4000000 }) only [go_sem, simprocAttr, ↓dnA, Tryz.f10, rows_length, encW, encWF, hqq, hn, hdv, wh, hle, nn0]
    refine ⟨⟨by omega, fun h1 h2 => (sz0I sc).elim (fun e => by omega) id⟩, ?_⟩
    refine CallTo.det hR3 fun _ => ?_
    simp (config := { maxSteps := 4000000 }) only [go_sem, simprocAttr, ↓dnA, Tryz.f10, rows_length, encW, encWF, hqq, hn, hdv, wh, hle, nn0]
    refine semL_draw tab_ok mixed_ rfl (ord := [(0, []), (1, []), (2, []), (3, []), (4, []), (5, []), (6, []), (7, []), (8, []), (9, []), (10, []), (11, []), (12, []), (13, []), (14, []), (15, []), (16, []), (17, []), (18, [15, 16]), (19, []), (20, []), (21, []), (22, []), (23, []), (24, []), (26, []), (25, [22, 23, 26]), (27, [22, 23]), (28, []), (29, []), (30, [])]) (by first | (dsimp only; decide +kernel) | decide +kernel) ?_
    simp (config := { maxSteps := 4000000 }) only [go_sem, simprocAttr, ↓dnA, Tryz.f10, rows_length, encW, encWF, hqq, hn, hdv, wh, hle, nn0]
    refine CallTo.det hV fun _ => ?_
    simp (config := { maxSteps := 4000000 }) only [go_sem, simprocAttr, ↓dnA, Tryz.f10, rows_length, encW, encWF, hqq, hn, hdv, wh, hle, nn0]
    refine CallTo.det hsw3 fun _ => ?_
    simp (config := { maxSteps := 4000000 }) only [go_sem, simprocAttr, ↓dnA, Tryz.f10, rows_length, encW, encWF, hqq, hn, hdv, wk, dk, nn0]
    refine CallTo.det hC fun _ => ?_
    simp (config := { maxSteps := 4000000 }) only [go_sem, simprocAttr, ↓dnA, Tryz.f10, rows_length, encW, encWF, hqq, hn, hdv, wk, dk, nn0]
    refine CallTo.det hA fun _ => ?_
    simp (config := { maxSteps := 4000000 }) only [go_sem, simprocAttr, ↓dnA, Tryz.f10, rows_length, encW, encWF, hqq, hn, hdv, wk, dk, nn0]
    refine CallTo.det hH1 fun _ => ?_
    simp (config := { maxSteps := 4000000 }) only [go_sem, simprocAttr, ↓dnA, Tryz.f10, rows_length, encW, encWF, hqq, hn, hdv, wk, dk, nn0]
    refine CallTo.det hH3 fun _ => ?_
    simp (config := { maxSteps := 4000000 }) only [go_sem, simprocAttr, ↓dnA, Tryz.f10, rows_length, encW, encWF, hqq, hn, hdv, wk, dk, nn0]
    refine CallTo.det hB fun _ => ?_
    simp (config := { maxSteps := 4000000 }) only [go_sem, simprocAttr, ↓dnA, Tryz.f10, rows_length, encW, encWF, hqq, hn, hdv, wk, dk, nn0]

end Go.Proofs.YthcfafpjkbbaoaaGreat

/- The law FnWorldRun, and its closed facts. -/
namespace Go.Proofs.YthcfafpjkbbaoaaGreat
open Go Go.ChangeShapes Go.WideShapes Go.ChangeAt Go.RowKit

theorem fnWorldRun_named : Tryz.pinned.checked.prog.funcNamed Rows.fnWorldRunRow.func = some 10 := by kernel_rfl
theorem fnWorldRun_inst : Tryz.f10.isInstance Tryz.pinned.checked.prog Rows.fnWorldRunRow.origin Rows.fnWorldRunRow.targs := of_decide_eq_true (by kernel_rfl)
theorem fnWorldRun_wrap : Tryz.f10.isWrapper Tryz.pinned.checked.prog Rows.fnWorldRunRow.wrapper Rows.fnWorldRunRow.mainSum := by
  unfold Func.isWrapper; first | (rw [if_pos (by decide +kernel)]; kernel_rfl) | (rw [if_neg (by decide +kernel)]; exact ⟨rfl, rfl⟩)
set_option maxRecDepth 100000 in
theorem fnWorldRun_closed : joinedFacts Tryz.pinned.checked.prog 10 Tryz.f10 Rows.fnWorldRunSpec Rows.fnWorldRunRow = true := by kernel_rfl

end Go.Proofs.YthcfafpjkbbaoaaGreat

