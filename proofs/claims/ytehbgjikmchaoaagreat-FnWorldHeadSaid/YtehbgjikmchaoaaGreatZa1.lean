/- FnWorldHead (part 1): W124, C21 -/
import Derived.Test.YtehbgjikmchaoaaGreatRows
import Derived.ProofKit
import Derived.Test.YtehbgjikmchaoaaGreatH6

set_option linter.unusedSimpArgs false
set_option linter.unusedVariables false

/- FnWorldHead. -/
set_option linter.unusedSimpArgs false
set_option linter.unusedVariables false
set_option maxRecDepth 20000
set_option maxHeartbeats 4000000
namespace Go.Proofs.YtehbgjikmchaoaaGreat
open Go Go.RowKit

theorem c_spec_DrawWorldHead (nb : Option Bool) (bs : List Int) (h : CodeOk bs) : FSpec Tryz.prog 16 [.sl nb (rows encB bs)] false [] DrawWQ := by
  refine fspec_rel tab_ok Tryz.call16 Tryz.func16 rfl 6 Tryz.ntmps16 (of_decide_eq_true rfl) fun B => codeK_sound tab_ok _ _ _ ?_
  simp (config := { maxSteps := 4000000 }) only [go_sem, simprocAttr, ↓dnA, Tryz.f16, rows_length]
  refine CallTo.of (c_spec_l20Open nb bs h) ?_
  rintro r b rfl
  unfold rd
  simp (config := { maxSteps := 4000000 }) only [go_sem, simprocAttr, ↓dnA, Tryz.f16, rows_length]
  have h0 := code_take h
  generalize bs.take 2000 = bs at h0
  refine CallTo.of (c_spec_l20World nb _ 0 9 h0 (by omega) (by omega)) ?_
  rintro r b ⟨w, q, rfl, rfl, _, _, hw⟩
  simp (config := { maxSteps := 4000000 }) only [go_sem, simprocAttr, ↓dnA, Tryz.f16, rows_length, rd, encW]
  exact .same ⟨w, by simp [encW], hw⟩

theorem c_laws_FnWorldHead (nb : Option Bool) (bs : List Int) (h : ∀ b, b ∈ bs → 0 ≤ b ∧ b ≤ 255) : Det Tryz.prog 5 [.sl nb (rows encB bs)] (.bool true) := by
  refine fspec_det tab_ok Tryz.call5 Tryz.func5 rfl 42 Tryz.ntmps5 (of_decide_eq_true rfl) fun B => codeK_sound tab_ok _ _ _ ?_
  simp (config := { maxSteps := 4000000 }) only [go_sem, simprocAttr, ↓dnA, Tryz.f5, rows_length]
  intro hl
  have hc : CodeOk bs := ⟨h, by simp at hl; omega⟩
  refine CallTo.of (c_spec_DrawWorldHead nb bs hc) ?_
  rintro r b ⟨w, rfl, hw⟩
  have hx : WldSz w := WldS32.sz ⟨by omega⟩
  have hI := c_impl_WorldHead none none none none none w hx
  have hS := c_spec_WorldHead none none none none none w hx
  have hW := c_spec_WorldValid none none none none none w hx
  cases hv : worldValid w with
  | false =>
    rw [hv] at hW
    rw [worldHead_no hv] at hI hS
    simp (config := { maxSteps := 4000000 }) only [go_sem, simprocAttr, ↓dnA, Tryz.f5, rows_length, encW]
    refine CallTo.det hI fun _ => ?_
    simp (config := { maxSteps := 4000000 }) only [go_sem, simprocAttr, ↓dnA, Tryz.f5, rows_length, encW]
    refine CallTo.det hS fun _ => ?_
    simp (config := { maxSteps := 4000000 }) only [go_sem, simprocAttr, ↓dnA, Tryz.f5, rows_length, encW]
    refine CallTo.det hW fun _ => ?_
    simp (config := { maxSteps := 4000000 }) only [go_sem, simprocAttr, ↓dnA, Tryz.f5, rows_length, encW]
    refine CallTo.det c_laws_alive fun _ => ?_
    simp (config := { maxSteps := 4000000 }) only [go_sem, simprocAttr, ↓dnA, Tryz.f5, rows_length, encW]
  | true =>
    rw [hv] at hW
    have hh : worldHead w = committedTo w.tree (worldCerts w) := by rw [worldHead_yes hv, worldCerts_yes hv]; rfl
    have hbd := headW_bd hv
    rw [← worldHead_yes hv] at hbd
    obtain ⟨_, _, _, hvl, _⟩ := worldValid_parts hv
    have hC := c_impl_WorldCerts none none none none none w hx
    have hT := c_impl_CommittedTo none none none none w.tree (worldCerts w) hx.tree
    rw [← hh] at hT
    obtain ⟨k, hk⟩ : ∃ k : Nat, worldHead w = (k : Int) := ⟨(worldHead w).toNat, by omega⟩
    rw [hk] at hI hS hT hbd
    generalize worldCerts w = cs at hC hT
    have d0 : ((k : Int) != (k : Int)) = false := by simp
    have d1 : decide ((k : Int) ≥ 0) = true := by simp
    have d2 : ((k : Int) < (w.votes.length : Int)) = True := by simp; omega
    have d3 : ((k : Int) == (k : Int)) = true := by simp
    simp (config := { maxSteps := 4000000 }) only [go_sem, simprocAttr, ↓dnA, Tryz.f5, rows_length, encW]
    refine CallTo.det hI fun _ => ?_
    simp (config := { maxSteps := 4000000 }) only [go_sem, simprocAttr, ↓dnA, Tryz.f5, rows_length, encW]
    refine CallTo.det hS fun _ => ?_
    simp (config := { maxSteps := 4000000 }) only [go_sem, simprocAttr, ↓dnA, Tryz.f5, rows_length, encW, d0]
    refine CallTo.det hW fun _ => ?_
    simp (config := { maxSteps := 4000000 }) only [go_sem, simprocAttr, ↓dnA, Tryz.f5, rows_length, encW, d0, d1, d2, nn0]
    refine semL_draw tab_ok mixed_ rfl (ord := [(0, []), (1, []), (2, []), (3, []), (4, []), (5, []), (6, []), (7, []), (8, []), (9, []), (10, []), (11, []), (12, []), (13, []), (14, [10, 11, 12]), (15, [10]), (16, []), (17, []), (18, [])]) (by dsimp only; decide +kernel) ?_
    simp (config := { maxSteps := 4000000 }) only [go_sem, simprocAttr, ↓dnA, Tryz.f5, rows_length, encW, d0, d1, d2, nn0]
    refine CallTo.det hC fun _ => ?_
    simp (config := { maxSteps := 4000000 }) only [go_sem, simprocAttr, ↓dnA, Tryz.f5, rows_length, encW, d0, d1, d2, nn0]
    refine CallTo.det hT fun _ => ?_
    simp (config := { maxSteps := 4000000 }) only [go_sem, simprocAttr, ↓dnA, Tryz.f5, rows_length, encW, d0, d1, d2, d3, nn0]

end Go.Proofs.YtehbgjikmchaoaaGreat

/- The law FnWorldHead, and its closed facts. -/
namespace Go.Proofs.YtehbgjikmchaoaaGreat
open Go Go.ChangeShapes Go.WideShapes Go.ChangeAt Go.RowKit

theorem fnWorldHead_named : Tryz.pinned.checked.prog.funcNamed Rows.fnWorldHeadRow.func = some 5 := by kernel_rfl
theorem fnWorldHead_inst : Tryz.f5.isInstance Tryz.pinned.checked.prog Rows.fnWorldHeadRow.origin Rows.fnWorldHeadRow.targs := of_decide_eq_true (by kernel_rfl)
theorem fnWorldHead_wrap : Tryz.f5.isWrapper Tryz.pinned.checked.prog Rows.fnWorldHeadRow.wrapper Rows.fnWorldHeadRow.mainSum := by
  unfold Func.isWrapper; first | (rw [if_pos (by decide +kernel)]; kernel_rfl) | (rw [if_neg (by decide +kernel)]; exact ⟨rfl, rfl⟩)
set_option maxRecDepth 100000 in
theorem fnWorldHead_closed : joinedFacts Tryz.pinned.checked.prog 5 Tryz.f5 Rows.fnWorldHeadSpec Rows.fnWorldHeadRow = true := by kernel_rfl

end Go.Proofs.YtehbgjikmchaoaaGreat

