/- FnCommittedRoot (part 1): W144, W147, C33 -/
import Derived.Test.YthcfafpjkbbaoaaGreatRows
import Derived.ProofKit
import Derived.Test.YthcfafpjkbbaoaaGreatI7

set_option linter.unusedSimpArgs false
set_option linter.unusedVariables false

/- FnWorldStore. -/
set_option linter.unusedSimpArgs false
set_option linter.unusedVariables false
set_option maxRecDepth 20000
set_option maxHeartbeats 4000000
namespace Go.Proofs.YthcfafpjkbbaoaaGreat
open Go Go.RowKit

theorem c_spec_DrawWorldStore (nb : Option Bool) (bs : List Int) (h : CodeOk bs) : FSpec Tryz.prog 48 [.sl nb (rows encB bs)] false [] DrawWQ := by
  refine fspec_rel tab_ok Tryz.call48 Tryz.func48 rfl 6 Tryz.ntmps48 (of_decide_eq_true rfl) fun B => codeK_sound tab_ok _ _ _ ?_
  simp (config := { maxSteps := 4000000 }) only [go_sem, simprocAttr, ↓dnA, Tryz.f48, rows_length]
  refine CallTo.of (c_spec_l20Open nb bs h) ?_
  rintro r b rfl
  unfold rd
  simp (config := { maxSteps := 4000000 }) only [go_sem, simprocAttr, ↓dnA, Tryz.f48, rows_length]
  have h0 := code_take h
  generalize bs.take 2000 = bs at h0
  refine CallTo.of (c_spec_l20World nb _ 0 9 h0 (by omega) (by omega)) ?_
  rintro r b ⟨w, q, rfl, rfl, _, _, hw⟩
  simp (config := { maxSteps := 4000000 }) only [go_sem, simprocAttr, ↓dnA, Tryz.f48, rows_length, rd, encW]
  exact .same ⟨w, by simp [encW], hw⟩

theorem c_laws_FnWorldStore (nb : Option Bool) (bs : List Int) (h : ∀ b, b ∈ bs → 0 ≤ b ∧ b ≤ 255) : Det Tryz.prog 11 [.sl nb (rows encB bs)] (.bool true) := by
  refine fspec_det tab_ok Tryz.call11 Tryz.func11 rfl 57 Tryz.ntmps11 (of_decide_eq_true rfl) fun B => codeK_sound tab_ok _ _ _ ?_
  simp (config := { maxSteps := 4000000 }) only [go_sem, simprocAttr, ↓dnA, Tryz.f11, rows_length]
  intro hl
  have hc : CodeOk bs := ⟨h, by simp at hl; omega⟩
  refine CallTo.of (c_spec_DrawWorldStore nb bs hc) ?_
  rintro r b ⟨w, rfl, hw⟩
  have hx : WldSz w := WldS32.sz ⟨by omega⟩
  have hI := c_impl_WorldStore none none none none none w hx
  have hS := c_spec_WorldStore none none none none none w hx
  have hW := c_spec_WorldValid none none none none none w hx
  have hsl := worldStore_len w
  have hss := c_laws_sameStore none none (worldStore w) (by omega)
  simp (config := { maxSteps := 4000000 }) only [go_sem, simprocAttr, ↓dnA, Tryz.f11, rows_length, encW]
  refine CallTo.det hI fun _ => ?_
  simp (config := { maxSteps := 4000000 }) only [go_sem, simprocAttr, ↓dnA, Tryz.f11, rows_length, encW]
  refine CallTo.det hS fun _ => ?_
  simp (config := { maxSteps := 4000000 }) only [go_sem, simprocAttr, ↓dnA, Tryz.f11, rows_length, encW]
  refine CallTo.det hss fun _ => ?_
  simp (config := { maxSteps := 4000000 }) only [go_sem, simprocAttr, ↓dnA, Tryz.f11, rows_length, encW]
  refine CallTo.det hW fun _ => ?_
  cases hv : worldValid w with
  | false =>
    have z : (((worldStore w).length : Int) == 0) = true := by rw [worldStore_no hv]; rfl
    simp (config := { maxSteps := 4000000 }) only [go_sem, simprocAttr, ↓dnA, Tryz.f11, rows_length, encW, hv, z]
    refine CallTo.det c_laws_alive fun _ => ?_
    simp (config := { maxSteps := 4000000 }) only [go_sem, simprocAttr, ↓dnA, Tryz.f11, rows_length, encW, hv, z]
  | true =>
    have hA := c_impl_WorldActions none none none none none w hx
    have hal := worldActions_len w
    have hav := worldActions_ok hv
    have hst := worldStore_acts hv
    have hsv := worldStore_valid hv
    have ht := (worldValid_parts hv).1
    have hV := valuesL_ok ht.store
    have hbl := store_len ht.store
    have hbs := storeL_values ht.store
    have hSV := c_impl_StoreValid none (worldStore w) (by omega)
    rw [hsv] at hSV
    have hs2 : Det Tryz.prog 50 [.sl none (rows encE (worldStore w)), .sl none (rows encE (storeL (runAllE (valuesL w.tree.base) (worldActions w)).1))] (.bool true) := by rw [← hst]; exact hss
    generalize worldActions w = l at hA hal hav hs2
    generalize worldStore w = s at hSV hs2 hsl
    have b1 := all_rows encE AV.flat (fun _ => rfl) w.tree.base
    have b2 := all_rows encE AV.one (fun _ => rfl) w.tree.base
    have b3 := sz0_rows encE 2 (fun _ => rfl) w.tree.base
    have hao : ∀ a, a ∈ l → ActOk a := fun a ha => actOk_of (hav a ha)
    have hz0 : storeL (runAllE (valuesL w.tree.base) []).1 = w.tree.base := hbs
    simp (config := { maxSteps := 4000000 }) only [go_sem, simprocAttr, ↓dnA, Tryz.f11, rows_length, encW, hv]
    refine CallTo.det hA fun _ => ?_
    simp (config := { maxSteps := 4000000 }) only [go_sem, simprocAttr, ↓dnA, Tryz.f11, rows_length, encW, hv]
    repeat refine And.intro (by first | omega | (simp; done) | (simp; omega) | assumption) ?_
    refine semL_for tab_ok (fun i : Nat => ⟨57, [(3, .loc 3 0), (4, .row 600 s.length), (5, .row 601 l.length), (6, .row 602 (storeL (runAllE (valuesL w.tree.base) (l.take i)).1).length), (7, .int .i64 i)],
        [(3, .var (encW none none none none none w)), (600, .row true false 2 (rows encE s)), (601, .row true false 4 (rows encA l)), (602, .row true false 2 (rows encE (storeL (runAllE (valuesL w.tree.base) (l.take i)).1)))]⟩) (fun i => l.length - i)
      (fun i => i ≤ l.length) 0 [(3, 3), (15000, 600), (31000, 601), (35, 602)] (Weak.of (by rfl) ?_ ?_ (by rfl)) (by omega) ?_
    · simp (config := { maxSteps := 4000000 }) only [go_sem, simprocAttr, ↓dnA, Tryz.f11, rows_length, encW, hz0, frW, wk2, wk1, wkL, wkB, hpW, List.mem_cons, Prod.mk.injEq, exists_eq_left, exists_eq_right, exists_eq]
      try rfl
    · simp (config := { maxSteps := 4000000 }) only [go_sem, simprocAttr, ↓dnA, Tryz.f11, rows_length, encW, hz0, nc0, frW, wk2, wk1, wkL, wkB, hpW, List.mem_cons, Prod.mk.injEq, exists_eq_left, exists_eq_right, exists_eq]
      try rfl
    · rintro i hi
      obtain ⟨hU, _⟩ := runAllE_ok hao hV i hi
      by_cases h : i < l.length
      · have hwi : IntKind.i64.wrap ((i : Int) + 1) = ((i + 1 : Nat) : Int) := wsucc h (by omega)
        have hsn := runAllE_snoc (valuesL w.tree.base) l i h
        have hva := hav _ (List.getElem_mem h)
        generalize (runAllE (valuesL w.tree.base) (l.take i)).1 = u at hU hsn
        have hul := store_len (storeL_valid hU)
        have hR := c_impl_RunAction none (storeL u) l[i] (by omega)
        rw [runAction_eq hva hU] at hR
        have hwl := runE_wlen l[i] u
        have hE := c_impl_ApplyEffect none none none (storeL u) (runE l[i] u) (by omega) (by omega)
        rw [applyEffect_eq hva hU, ← hsn] at hE
        simp (config := { maxSteps := 4000000 }) only [go_sem, simprocAttr, ↓dnA, Tryz.f11, rows_length, encW, nlt h, h, rows_get _ _ _ h, encA, nn0, hwi]
        refine CallTo.det hR fun _ => ?_
        simp (config := { maxSteps := 4000000 }) only [go_sem, simprocAttr, ↓dnA, Tryz.f11, rows_length, encW, encFO, encF, nlt h, h, rows_get _ _ _ h, encA, nn0, hwi]
        refine CallTo.det hE fun _ => ?_
        simp (config := { maxSteps := 4000000 }) only [go_sem, simprocAttr, ↓dnA, Tryz.f11, rows_length, encW, encFO, encF, nlt h, h, rows_get _ _ _ h, encA, nn0, hwi]
        refine ⟨i + 1, [(3, 3), (600, 600), (601, 601), (50000, 602)], by omega, by dsimp only; omega, Weak.of (by rfl) ?_ ?_ (by rfl)⟩
        · simp (config := { maxSteps := 4000000 }) only [go_sem, simprocAttr, ↓dnA, Tryz.f11, rows_length, encW, frW, wk2, wk1, wkL, wkB, hpW, List.mem_cons, Prod.mk.injEq, exists_eq_left, exists_eq_right, exists_eq]
          try rfl
        · simp (config := { maxSteps := 4000000 }) only [go_sem, simprocAttr, ↓dnA, Tryz.f11, rows_length, encW, frW, wk2, wk1, wkL, wkB, hpW, List.mem_cons, Prod.mk.injEq, exists_eq_left, exists_eq_right, exists_eq]
          try rfl
      · obtain rfl : i = l.length := by omega
        simp (config := { maxSteps := 4000000 }) only [go_sem, simprocAttr, ↓dnA, Tryz.f11, rows_length, encW, nlf h, List.take_length]
        refine CallTo.det hSV fun _ => ?_
        simp (config := { maxSteps := 4000000 }) only [go_sem, simprocAttr, ↓dnA, Tryz.f11, rows_length, encW, nlf h, List.take_length]
        refine CallTo.det hs2 fun _ => ?_
        simp (config := { maxSteps := 4000000 }) only [go_sem, simprocAttr, ↓dnA, Tryz.f11, rows_length, encW, nlf h, List.take_length]

end Go.Proofs.YthcfafpjkbbaoaaGreat

/- FnCommittedRoot. -/
set_option linter.unusedSimpArgs false
set_option linter.unusedVariables false
set_option maxRecDepth 20000
set_option maxHeartbeats 4000000
namespace Go.Proofs.YthcfafpjkbbaoaaGreat
open Go Go.RowKit

theorem c_laws_FnCommittedRoot (nb : Option Bool) (bs : List Int) (h : ∀ b, b ∈ bs → 0 ≤ b ∧ b ≤ 255) : Det Tryz.prog 12 [.sl nb (rows encB bs)] (.bool true) := by
  refine fspec_det tab_ok Tryz.call12 Tryz.func12 rfl 55 Tryz.ntmps12 (of_decide_eq_true rfl) fun B => codeK_sound tab_ok _ _ _ ?_
  simp (config := { maxSteps := 4000000 }) only [go_sem, simprocAttr, ↓dnA, Tryz.f12, rows_length, boolRows_length]
  intro hl
  have hc : CodeOk bs := ⟨h, by simp at hl; omega⟩
  refine CallTo.of (c_spec_DrawWorldStore nb bs hc) ?_
  rintro r b ⟨w, rfl, hw⟩
  have hx : WldSz w := WldS32.sz ⟨by omega⟩
  have hI := c_impl_WorldStore none none none none none w hx
  have hS := c_spec_WorldStore none none none none none w hx
  have hW := c_spec_WorldValid none none none none none w hx
  have hsl := worldStore_len w
  have hss := c_laws_sameStore none none (worldStore w) (by omega)
  simp (config := { maxSteps := 4000000 }) only [go_sem, simprocAttr, ↓dnA, Tryz.f12, rows_length, boolRows_length, encW]
  refine CallTo.det hI fun _ => ?_
  simp (config := { maxSteps := 4000000 }) only [go_sem, simprocAttr, ↓dnA, Tryz.f12, rows_length, boolRows_length, encW]
  refine CallTo.det hS fun _ => ?_
  simp (config := { maxSteps := 4000000 }) only [go_sem, simprocAttr, ↓dnA, Tryz.f12, rows_length, boolRows_length, encW]
  refine CallTo.det hss fun _ => ?_
  simp (config := { maxSteps := 4000000 }) only [go_sem, simprocAttr, ↓dnA, Tryz.f12, rows_length, boolRows_length, encW]
  refine CallTo.det hW fun _ => ?_
  cases hv : worldValid w with
  | false =>
    simp (config := { maxSteps := 4000000 }) only [go_sem, simprocAttr, ↓dnA, Tryz.f12, rows_length, boolRows_length, encW, hv]
    refine CallTo.det c_laws_alive fun _ => ?_
    simp (config := { maxSteps := 4000000 }) only [go_sem, simprocAttr, ↓dnA, Tryz.f12, rows_length, boolRows_length, encW, hv]
  | true =>
    have ht := (worldValid_parts hv).1
    have hb := headW_bd hv
    have hH := c_impl_WorldHead none none none none none w hx
    rw [worldHead_yes hv] at hH
    obtain ⟨k, hk⟩ : ∃ k : Nat, headW w = (k : Int) := ⟨(headW w).toNat, by omega⟩
    rw [hk] at hH hb
    have hkl : k < w.tree.blocks.length := by omega
    have hB := c_impl_RightBlocks none none none w.tree hx.tree
    have hrx : rights w.tree = rightsTo w.tree w.tree.blocks.length := by unfold rights; rw [treeValid_true ht]; rfl
    rw [hrx] at hB
    have hrl := rightsTo_len w.tree w.tree.blocks.length
    have hroot := fun h => committed_root hv hk h
    have hR := c_impl_RootOf none (worldStore w) (by omega)
    generalize rightsTo w.tree w.tree.blocks.length = rs at hB hrl hroot
    generalize worldStore w = s at hR hroot hsl
    have hkr : k < rs.length := by omega
    have g1 := boolRows_get rs k hkr
    have g2 : (rows encB1 w.tree.blocks).getD k [] = encB1 (w.tree.blk k) := rows_gd encB1 w.tree.blocks k hkl
    have d1 : decide ((k : Int) ≥ 0) = true := by simp
    have hll := hrl
    simp (config := { maxSteps := 4000000 }) only [go_sem, simprocAttr, ↓dnA, Tryz.f12, rows_length, boolRows_length, encW, hv]
    refine CallTo.det hH fun _ => ?_
    simp (config := { maxSteps := 4000000 }) only [go_sem, simprocAttr, ↓dnA, Tryz.f12, rows_length, boolRows_length, encW, hv]
    refine CallTo.det hB fun _ => ?_
    simp (config := { maxSteps := 4000000 }) only [go_sem, simprocAttr, ↓dnA, Tryz.f12, rows_length, boolRows_length, encW, hv]
    refine semL_draw tab_ok mixed_ rfl (ord := [(0, []), (1, []), (2, []), (3, []), (4, []), (5, []), (6, []), (7, []), (8, []), (9, []), (10, []), (11, []), (12, []), (13, []), (14, []), (15, []), (17, []), (18, []), (19, []), (20, []), (21, []), (22, []), (23, []), (16, [17, 18, 19, 20, 21, 22, 23]), (24, []), (25, []), (26, []), (27, [])]) (by dsimp only; decide +kernel) ?_
    cases hr : rs.getD k false with
    | false =>
      rw [hr] at g1
      simp (config := { maxSteps := 4000000 }) only [go_sem, simprocAttr, ↓dnA, Tryz.f12, rows_length, boolRows_length, encW, hv, d1, hll, nn0, nlt hkl, hkl, nlt hkr, hkr, g1]
    | true =>
      rw [hr] at g1
      have e := hroot hr
      have d2 : (rootOf s == (w.tree.blk k).root) = true := by rw [e]; simp
      simp (config := { maxSteps := 4000000 }) only [go_sem, simprocAttr, ↓dnA, Tryz.f12, rows_length, boolRows_length, encW, hv, d1, hll, nn0, nlt hkl, hkl, nlt hkr, hkr, g1, g2, encB1, encBk]
      refine CallTo.det hR fun _ => ?_
      simp (config := { maxSteps := 4000000 }) only [go_sem, simprocAttr, ↓dnA, Tryz.f12, rows_length, boolRows_length, encW, hv, d1, hll, nn0, nlt hkl, hkl, nlt hkr, hkr, g1, g2, encB1, encBk, d2]

end Go.Proofs.YthcfafpjkbbaoaaGreat

/- The law FnCommittedRoot, and its closed facts. -/
namespace Go.Proofs.YthcfafpjkbbaoaaGreat
open Go Go.ChangeShapes Go.WideShapes Go.ChangeAt Go.RowKit

theorem fnCommittedRoot_named : Tryz.pinned.checked.prog.funcNamed Rows.fnCommittedRootRow.func = some 12 := by kernel_rfl
theorem fnCommittedRoot_inst : Tryz.f12.isInstance Tryz.pinned.checked.prog Rows.fnCommittedRootRow.origin Rows.fnCommittedRootRow.targs := of_decide_eq_true (by kernel_rfl)
theorem fnCommittedRoot_wrap : Tryz.f12.isWrapper Tryz.pinned.checked.prog Rows.fnCommittedRootRow.wrapper Rows.fnCommittedRootRow.mainSum := by
  unfold Func.isWrapper; first | (rw [if_pos (by decide +kernel)]; kernel_rfl) | (rw [if_neg (by decide +kernel)]; exact ⟨rfl, rfl⟩)
set_option maxRecDepth 100000 in
theorem fnCommittedRoot_closed : joinedFacts Tryz.pinned.checked.prog 12 Tryz.f12 Rows.fnCommittedRootSpec Rows.fnCommittedRootRow = true := by kernel_rfl

end Go.Proofs.YthcfafpjkbbaoaaGreat

