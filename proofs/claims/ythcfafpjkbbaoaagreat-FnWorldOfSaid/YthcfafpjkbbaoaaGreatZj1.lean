/- FnWorldOf (part 1): W130, C24 -/
import Derived.Test.YthcfafpjkbbaoaaGreatRows
import Derived.ProofKit
import Derived.Test.YthcfafpjkbbaoaaGreatJ7

set_option linter.unusedSimpArgs false
set_option linter.unusedVariables false

/- FnWorldOf. -/
set_option linter.unusedSimpArgs false
set_option linter.unusedVariables false
set_option maxRecDepth 20000
set_option maxHeartbeats 4000000
namespace Go.Proofs.YthcfafpjkbbaoaaGreat
open Go Go.RowKit

def DrawTQ (r : AV) (b : List AV) : Prop := ∃ t : Tree, r = .agg (encT none none none t) ∧ tsz t ≤ 300

theorem c_spec_DrawWorldOf (nb : Option Bool) (bs : List Int) (h : CodeOk bs) : FSpec Tryz.prog 20 [.sl nb (rows encB bs)] false [] DrawTQ := by
  refine fspec_rel tab_ok Tryz.call20 Tryz.func20 rfl 6 Tryz.ntmps20 (of_decide_eq_true rfl) fun B => codeK_sound tab_ok _ _ _ ?_
  simp (config := { maxSteps := 4000000 }) only [go_sem, simprocAttr, ↓dnA, Tryz.f20, rows_length]
  refine CallTo.of (c_spec_l20Open nb bs h) ?_
  rintro r b rfl
  unfold rd
  simp (config := { maxSteps := 4000000 }) only [go_sem, simprocAttr, ↓dnA, Tryz.f20, rows_length]
  have h0 := code_take h
  generalize bs.take 2000 = bs at h0
  refine CallTo.of (c_spec_l20TreeP nb _ 0 6 h0 (by omega) (by omega)) ?_
  rintro r b ⟨t, q, rfl, rfl, _, _, ht, _, _⟩
  simp (config := { maxSteps := 4000000 }) only [go_sem, simprocAttr, ↓dnA, Tryz.f20, rows_length, rd, encT]
  exact .same ⟨t, by simp [encT], ht⟩

theorem c_laws_FnWorldOf (nb : Option Bool) (bs : List Int) (h : ∀ b, b ∈ bs → 0 ≤ b ∧ b ≤ 255) : Det Tryz.prog 4 [.sl nb (rows encB bs)] (.bool true) := by
  refine fspec_det tab_ok Tryz.call4 Tryz.func4 rfl 40 Tryz.ntmps4 (of_decide_eq_true rfl) fun B => codeK_sound tab_ok _ _ _ ?_
  simp (config := { maxSteps := 4000000 }) only [go_sem, simprocAttr, ↓dnA, Tryz.f4, rows_length]
  intro hl
  have hc : CodeOk bs := ⟨h, by simp at hl; omega⟩
  refine CallTo.of (c_spec_DrawWorldOf nb bs hc) ?_
  rintro r b ⟨t, rfl, hts⟩
  have hx : TreeS32 t := ⟨by omega⟩
  have hI := c_impl_WorldOf none none none t hx
  have hS := c_spec_WorldOf none none none t hx
  have hV := c_spec_BlockTreeValid none none none t hx.sz
  have hsz := worldOf_wsz t
  have hno : treeValid t = false → worldOf t = noW := fun h => by unfold worldOf; rw [h]; rfl
  have hok : treeValid t = true → worldValid (worldOf t) = true ∧ worldHead (worldOf t) = 0 ∧ worldCerts (worldOf t) = [] := fun h => by
    have ht := treeOk_of h
    exact ⟨worldOf_valid ht, by rw [worldHead_yes (worldOf_valid ht), worldOf_head ht], worldOf_certs ht⟩
  generalize worldOf t = w at hI hS hsz hno hok
  have hw : WldSz w := WldS32.sz ⟨by omega⟩
  cases hv : treeValid t with
  | false =>
    rw [hv] at hV
    have e := hno hv
    subst e
    have z : ((0 : Int) == 0) = true := rfl
    simp (config := { maxSteps := 4000000 }) only [go_sem, simprocAttr, ↓dnA, Tryz.f4, rows_length, encT]
    refine CallTo.det hI fun _ => ?_
    simp (config := { maxSteps := 4000000 }) only [go_sem, simprocAttr, ↓dnA, Tryz.f4, rows_length, encT, encWF]
    refine semL_draw tab_ok mixed_ rfl (ord := [(0, []), (1, []), (2, [0]), (3, []), (4, [])]) (by dsimp only; decide +kernel) ?_
    simp (config := { maxSteps := 4000000 }) only [go_sem, simprocAttr, ↓dnA, Tryz.f4, rows_length, encT, encWF]
    refine CallTo.det hS fun _ => ?_
    simp (config := { maxSteps := 4000000 }) only [go_sem, simprocAttr, ↓dnA, Tryz.f4, rows_length, encT, encWF]
    refine CallTo.det (c_laws_sameWorld none none none none none none none none none none noW hw) fun _ => ?_
    simp (config := { maxSteps := 4000000 }) only [go_sem, simprocAttr, ↓dnA, Tryz.f4, rows_length, encT, encWF]
    refine CallTo.det hV fun _ => ?_
    simp (config := { maxSteps := 4000000 }) only [go_sem, simprocAttr, ↓dnA, Tryz.f4, rows_length, encT, encWF, noW, List.length_nil, nc0, z]
    refine CallTo.det c_laws_alive fun _ => ?_
    simp (config := { maxSteps := 4000000 }) only [go_sem, simprocAttr, ↓dnA, Tryz.f4, rows_length, encT, encWF, noW, List.length_nil, nc0, z]
  | true =>
    rw [hv] at hV
    obtain ⟨k1, k2, k3⟩ := hok hv
    have hA := c_impl_WorldValid none none none none none w hw
    have hB := c_impl_WorldHead none none none none none w hw
    have hC := c_impl_WorldCerts none none none none none w hw
    rw [k1] at hA
    rw [k2] at hB
    rw [k3] at hC
    have z : ((0 : Int) == 0) = true := rfl
    simp (config := { maxSteps := 4000000 }) only [go_sem, simprocAttr, ↓dnA, Tryz.f4, rows_length, encT]
    refine CallTo.det hI fun _ => ?_
    simp (config := { maxSteps := 4000000 }) only [go_sem, simprocAttr, ↓dnA, Tryz.f4, rows_length, encT, encWF]
    refine semL_draw tab_ok mixed_ rfl (ord := [(0, []), (1, []), (2, [0]), (3, []), (4, [])]) (by dsimp only; decide +kernel) ?_
    simp (config := { maxSteps := 4000000 }) only [go_sem, simprocAttr, ↓dnA, Tryz.f4, rows_length, encT, encWF]
    refine CallTo.det hS fun _ => ?_
    simp (config := { maxSteps := 4000000 }) only [go_sem, simprocAttr, ↓dnA, Tryz.f4, rows_length, encT, encWF]
    refine CallTo.det (c_laws_sameWorld none none none none none none none none none none w hw) fun _ => ?_
    simp (config := { maxSteps := 4000000 }) only [go_sem, simprocAttr, ↓dnA, Tryz.f4, rows_length, encT, encWF]
    refine CallTo.det hV fun _ => ?_
    simp (config := { maxSteps := 4000000 }) only [go_sem, simprocAttr, ↓dnA, Tryz.f4, rows_length, encT, encWF, z]
    refine CallTo.det hA fun _ => ?_
    simp (config := { maxSteps := 4000000 }) only [go_sem, simprocAttr, ↓dnA, Tryz.f4, rows_length, encT, encWF, z]
    refine CallTo.det hB fun _ => ?_
    simp (config := { maxSteps := 4000000 }) only [go_sem, simprocAttr, ↓dnA, Tryz.f4, rows_length, encT, encWF, z]
    refine CallTo.det hC fun _ => ?_
    simp (config := { maxSteps := 4000000 }) only [go_sem, simprocAttr, ↓dnA, Tryz.f4, rows_length, encT, encWF, List.length_nil, nc0, z]

end Go.Proofs.YthcfafpjkbbaoaaGreat

/- The law FnWorldOf, and its closed facts. -/
namespace Go.Proofs.YthcfafpjkbbaoaaGreat
open Go Go.ChangeShapes Go.WideShapes Go.ChangeAt Go.RowKit

theorem fnWorldOf_named : Tryz.pinned.checked.prog.funcNamed Rows.fnWorldOfRow.func = some 4 := by kernel_rfl
theorem fnWorldOf_inst : Tryz.f4.isInstance Tryz.pinned.checked.prog Rows.fnWorldOfRow.origin Rows.fnWorldOfRow.targs := of_decide_eq_true (by kernel_rfl)
theorem fnWorldOf_wrap : Tryz.f4.isWrapper Tryz.pinned.checked.prog Rows.fnWorldOfRow.wrapper Rows.fnWorldOfRow.mainSum := by
  unfold Func.isWrapper; first | (rw [if_pos (by decide +kernel)]; kernel_rfl) | (rw [if_neg (by decide +kernel)]; exact ⟨rfl, rfl⟩)
set_option maxRecDepth 100000 in
theorem fnWorldOf_closed : joinedFacts Tryz.pinned.checked.prog 4 Tryz.f4 Rows.fnWorldOfSpec Rows.fnWorldOfRow = true := by kernel_rfl

end Go.Proofs.YthcfafpjkbbaoaaGreat

