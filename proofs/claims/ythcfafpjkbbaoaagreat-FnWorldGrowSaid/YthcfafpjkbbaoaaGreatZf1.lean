/- FnWorldGrow (part 1): W131, C34 -/
import Derived.Test.YthcfafpjkbbaoaaGreatRows
import Derived.ProofKit
import Derived.Test.YthcfafpjkbbaoaaGreatJ7

set_option linter.unusedSimpArgs false
set_option linter.unusedVariables false

/- FnWorldGrow (written without the seat's operations: regions' numbers are guesses). -/
set_option linter.unusedSimpArgs false
set_option linter.unusedVariables false
set_option maxRecDepth 20000
set_option maxHeartbeats 4000000
namespace Go.Proofs.YthcfafpjkbbaoaaGreat
open Go Go.RowKit

def DrawGQ (r : AV) (b : List AV) : Prop := ∃ (w : Wld) (n v : Int) (l : List Action), r = .tup [.agg (encW none none none none none w), .int .i64 n, .int .i64 v, .osl true 4 (rows encA l)] ∧ wsz w ≤ 300 ∧ l.length ≤ 20

theorem c_spec_DrawWorldGrow (nb : Option Bool) (bs : List Int) (h : CodeOk bs) : FSpec Tryz.prog 56 [.sl nb (rows encB bs)] false [] DrawGQ := by
  refine fspec_rel tab_ok Tryz.call56 Tryz.func56 rfl 27 Tryz.ntmps56 (of_decide_eq_true rfl) fun B => codeK_sound tab_ok _ _ _ ?_
  simp (config := { maxSteps := 4000000 }) only [go_sem, simprocAttr, ↓dnA, Tryz.f56, rows_length]
  refine CallTo.of (c_spec_l20Open nb bs h) ?_
  rintro r b rfl
  unfold rd
  simp (config := { maxSteps := 4000000 }) only [go_sem, simprocAttr, ↓dnA, Tryz.f56, rows_length]
  have h0 := code_take h
  generalize bs.take 2000 = bs at h0
  refine CallTo.of (c_spec_l20World nb _ 0 12 h0 (by omega) (by omega)) ?_
  rintro r b ⟨w, q, rfl, rfl, hq1, hq2, hw⟩
  have hq := h0.step (q := q) (by omega) (by omega)
  have hvl : w.votes.length ≤ 300 := by unfold wsz at hw; omega
  have hwl : IntKind.i64.wrap ((w.votes.length : Int) + 1) = (w.votes.length : Int) + 1 := wrap_small _ (by omega) (by omega)
  simp (config := { maxSteps := 4000000 }) only [go_sem, simprocAttr, ↓dnA, Tryz.f56, rows_length, rd, encW]
  refine semL_draw tab_ok mixed_ rfl (ord := [(0, []), (1, []), (2, []), (3, []), (4, []), (5, []), (7, []), (11, []), (13, []), (6, [0, 7, 11, 13]), (8, [0, 11, 13]), (9, []), (10, []), (12, [0, 13, 9, 10]), (14, [0, 9, 10]), (15, [9, 10]), (16, []), (17, []), (18, [])]) (by dsimp only; decide +kernel) ?_
  simp (config := { maxSteps := 4000000 }) only [go_sem, simprocAttr, ↓dnA, Tryz.f56, rows_length, rd, encW, hwl]
  refine CallTo.of (c_spec_pick nb bs q ((w.votes.length : Int) + 1) hq) ?_
  rintro r b ⟨m, rfl, rfl, hm⟩
  have hr1 := h0.step (q := q + 1) (by omega) (by omega)
  simp (config := { maxSteps := 4000000 }) only [go_sem, simprocAttr, ↓dnA, Tryz.f56, rows_length, rd, encW, hwl]
  refine CallTo.of (c_spec_pick nb bs (q + 1) 12 hr1) ?_
  rintro r b ⟨y, rfl, rfl, hy⟩
  have hr2 := h0.step (q := q + 1 + 1) (by omega) (by omega)
  simp (config := { maxSteps := 4000000 }) only [go_sem, simprocAttr, ↓dnA, Tryz.f56, rows_length, rd, encW, hwl]
  refine CallTo.of (c_spec_pick nb bs (q + 1 + 1) 12 hr2) ?_
  rintro r b ⟨v, rfl, rfl, hv⟩
  have hr3 := h0.step (q := q + 1 + 1 + 1) (by omega) (by omega)
  simp (config := { maxSteps := 4000000 }) only [go_sem, simprocAttr, ↓dnA, Tryz.f56, rows_length, rd, encW, hwl]
  refine CallTo.of (c_spec_l20Actions nb bs (q + 1 + 1 + 1) 12 hr3 (by omega) (by omega)) ?_
  rintro r b ⟨l, q4, rfl, rfl, _, _, hll⟩
  simp (config := { maxSteps := 4000000 }) only [go_sem, simprocAttr, ↓dnA, Tryz.f56, rows_length, rd, encW, hwl]
  exact .same ⟨w, _, v, l, rfl, hw, hll⟩

theorem worldGrow_no {w : Wld} {n v : Int} {l : List Action} (h : (worldGrow w n v l).2 = false) : (worldGrow w n v l).1 = noW ∨ (worldGrow w n v l).1 = w := by
  unfold worldGrow at h ⊢
  split
  · rename_i hv
    rw [if_pos hv] at h
    split
    · rename_i hg
      rw [if_pos hg] at h; cases h
    · exact .inr rfl
  · exact .inl rfl

theorem c_laws_FnWorldGrow (nb : Option Bool) (bs : List Int) (h : ∀ b, b ∈ bs → 0 ≤ b ∧ b ≤ 255) : Det Tryz.prog 13 [.sl nb (rows encB bs)] (.bool true) := by
  refine fspec_det tab_ok Tryz.call13 Tryz.func13 rfl 89 Tryz.ntmps13 (of_decide_eq_true rfl) fun B => codeK_sound tab_ok _ _ _ ?_
  simp (config := { maxSteps := 4000000 }) only [go_sem, simprocAttr, ↓dnA, Tryz.f13, rows_length]
  intro hl
  have hc : CodeOk bs := ⟨h, by simp at hl; omega⟩
  refine CallTo.of (c_spec_DrawWorldGrow nb bs hc) ?_
  rintro r b ⟨w, n, v, l, rfl, hw, hll⟩
  have hx : WldSz w := WldS32.sz ⟨by omega⟩
  have hI := c_impl_WorldGrow none none none none none (some true) w n v l hx (by omega)
  have hS := c_spec_WorldGrow none none none none none (some true) w n v l hx (by omega)
  have hsz := worldGrow_wsz w n v l
  have hno := fun h => worldGrow_no (w := w) (n := n) (v := v) (l := l) h
  have hok := fun h => worldGrow_facts (w := w) (n := n) (v := v) (l := l) h
  generalize worldGrow w n v l = p at hI hS hsz hno hok
  obtain ⟨x, ok⟩ := p
  dsimp only at hI hS hsz hno hok
  have hy : WldSz x := WldS32.sz ⟨by omega⟩
  have hqq : (ok != ok) = false := by simp
  cases ok with
  | false =>
    have hno := hno rfl
    obtain ⟨z, hz⟩ : ∃ z, ((x.votes.length : Int) == 0) = z := ⟨_, rfl⟩
    have hsw : z = false → x = w := fun e => by
      rcases hno with e2 | e2
      · rw [e2] at hz; rw [e] at hz; cases hz
      · exact e2
    simp (config := { maxSteps := 4000000 }) only [go_sem, simprocAttr, ↓dnA, Tryz.f13, rows_length, encW]
    refine CallTo.det hI fun _ => ?_
    simp (config := { maxSteps := 4000000 }) only [go_sem, simprocAttr, ↓dnA, Tryz.f13, rows_length, encW, encWF]
    refine CallTo.det hS fun _ => ?_
    simp (config := { maxSteps := 4000000 }) only [go_sem, simprocAttr, ↓dnA, Tryz.f13, rows_length, encW, encWF]
    refine CallTo.det (c_laws_sameWorld none none none none none none none none none none x hy) fun _ => ?_
    cases z with
    | true =>
      simp (config := { maxSteps := 4000000 }) only [go_sem, simprocAttr, ↓dnA, Tryz.f13, rows_length, encW, encWF, hqq, hz]
      refine CallTo.det c_laws_alive fun _ => ?_
      simp (config := { maxSteps := 4000000 }) only [go_sem, simprocAttr, ↓dnA, Tryz.f13, rows_length, encW, encWF, hqq, hz]
    | false =>
      have e := hsw rfl
      have hW : Det Tryz.prog 22 [.agg (encW none none none none none x), .agg (encW none none none none none w)] (.bool true) := by rw [e]; exact c_laws_sameWorld none none none none none none none none none none w hx
      simp (config := { maxSteps := 4000000 }) only [go_sem, simprocAttr, ↓dnA, Tryz.f13, rows_length, encW, encWF, hqq, hz]
      refine CallTo.det hW fun _ => ?_
      simp (config := { maxSteps := 4000000 }) only [go_sem, simprocAttr, ↓dnA, Tryz.f13, rows_length, encW, encWF, hqq, hz]
      refine CallTo.det c_laws_alive fun _ => ?_
      simp (config := { maxSteps := 4000000 }) only [go_sem, simprocAttr, ↓dnA, Tryz.f13, rows_length, encW, encWF, hqq, hz]
  | true =>
    obtain ⟨hv1, hv2, hhead, hvotes⟩ := hok rfl
    have hA := c_impl_WorldValid none none none none none x hy
    rw [hv2] at hA
    have hB := c_impl_WorldHead none none none none none x hy
    have hC := c_impl_WorldHead none none none none none w hx
    rw [worldHead_yes hv2, hhead] at hB
    rw [worldHead_yes hv1] at hC
    generalize headW w = k at hB hC
    have hvl : w.votes.length ≤ 300 := by unfold wsz at hw; omega
    have hxl : x.votes.length = w.votes.length + 1 := by rw [hvotes]; simp
    have hlast : w.votes.length < x.votes.length := by omega
    have hw1 : IntKind.i64.wrap ((x.votes.length : Int) - 1) = (w.votes.length : Int) := by rw [wrap_small _ (by omega) (by omega)]; omega
    have hvx : (rows encI x.votes).getD w.votes.length [] = [.int .i64 0] := by
      rw [rows_get _ _ _ hlast]
      have e : x.votes[w.votes.length] = 0 := by simp [hvotes]
      rw [e]; rfl
    have d1 : (k == k) = true := by simp
    have d2 : ((w.votes.length : Int) == (w.votes.length : Int)) = true := by simp
    have d3 : ((0 : Int) == 0) = true := rfl
    simp (config := { maxSteps := 4000000 }) only [go_sem, simprocAttr, ↓dnA, Tryz.f13, rows_length, encW]
    refine CallTo.det hI fun _ => ?_
    simp (config := { maxSteps := 4000000 }) only [go_sem, simprocAttr, ↓dnA, Tryz.f13, rows_length, encW, encWF]
    refine CallTo.det hS fun _ => ?_
    simp (config := { maxSteps := 4000000 }) only [go_sem, simprocAttr, ↓dnA, Tryz.f13, rows_length, encW, encWF]
    refine CallTo.det (c_laws_sameWorld none none none none none none none none none none x hy) fun _ => ?_
    simp (config := { maxSteps := 4000000 }) only [go_sem, simprocAttr, ↓dnA, Tryz.f13, rows_length, encW, encWF, hqq, hw1]
    refine semL_draw tab_ok mixed_ rfl (ord := [(0, []), (1, []), (2, []), (3, []), (5, []), (4, [5]), (6, []), (7, []), (8, []), (9, []), (10, []), (11, []), (12, []), (13, []), (14, []), (15, []), (16, []), (17, []), (18, []), (19, []), (20, []), (21, []), (22, []), (23, []), (24, [])]) (by dsimp only; decide +kernel) ?_
    simp (config := { maxSteps := 4000000 }) only [go_sem, simprocAttr, ↓dnA, Tryz.f13, rows_length, encW, encWF, hqq, hw1]
    refine CallTo.det hA fun _ => ?_
    simp (config := { maxSteps := 4000000 }) only [go_sem, simprocAttr, ↓dnA, Tryz.f13, rows_length, encW, encWF, hqq, hw1]
    refine CallTo.det hB fun _ => ?_
    simp (config := { maxSteps := 4000000 }) only [go_sem, simprocAttr, ↓dnA, Tryz.f13, rows_length, encW, encWF, hqq, hw1]
    refine CallTo.det hC fun _ => ?_
    simp (config := { maxSteps := 4000000 }) only [go_sem, simprocAttr, ↓dnA, Tryz.f13, rows_length, encW, encWF, hqq, hw1, d1, d2, d3, nn0, nlt hlast, hlast, hvx]

end Go.Proofs.YthcfafpjkbbaoaaGreat

/- The law FnWorldGrow, and its closed facts. -/
namespace Go.Proofs.YthcfafpjkbbaoaaGreat
open Go Go.ChangeShapes Go.WideShapes Go.ChangeAt Go.RowKit

theorem fnWorldGrow_named : Tryz.pinned.checked.prog.funcNamed Rows.fnWorldGrowRow.func = some 13 := by kernel_rfl
theorem fnWorldGrow_inst : Tryz.f13.isInstance Tryz.pinned.checked.prog Rows.fnWorldGrowRow.origin Rows.fnWorldGrowRow.targs := of_decide_eq_true (by kernel_rfl)
theorem fnWorldGrow_wrap : Tryz.f13.isWrapper Tryz.pinned.checked.prog Rows.fnWorldGrowRow.wrapper Rows.fnWorldGrowRow.mainSum := by
  unfold Func.isWrapper; first | (rw [if_pos (by decide +kernel)]; kernel_rfl) | (rw [if_neg (by decide +kernel)]; exact ⟨rfl, rfl⟩)
set_option maxRecDepth 100000 in
theorem fnWorldGrow_closed : joinedFacts Tryz.pinned.checked.prog 13 Tryz.f13 Rows.fnWorldGrowSpec Rows.fnWorldGrowRow = true := by kernel_rfl

end Go.Proofs.YthcfafpjkbbaoaaGreat

