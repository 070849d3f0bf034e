/- FnWorldActions (part 1): W143, C30 -/
import Derived.Test.YthcfafpjkbbaoaaGreatRows
import Derived.ProofKit
import Derived.Test.YthcfafpjkbbaoaaGreatI7

set_option linter.unusedSimpArgs false
set_option linter.unusedVariables false

/- FnWorldActions. -/
set_option linter.unusedSimpArgs false
set_option linter.unusedVariables false
set_option maxRecDepth 20000
set_option maxHeartbeats 4000000
namespace Go.Proofs.YthcfafpjkbbaoaaGreat
open Go Go.RowKit

theorem c_spec_DrawWorldActions (nb : Option Bool) (bs : List Int) (h : CodeOk bs) : FSpec Tryz.prog 40 [.sl nb (rows encB bs)] false [] DrawWQ := by
  refine fspec_rel tab_ok Tryz.call40 Tryz.func40 rfl 6 Tryz.ntmps40 (of_decide_eq_true rfl) fun B => codeK_sound tab_ok _ _ _ ?_
  simp (config := { maxSteps := 4000000 }) only [go_sem, simprocAttr, ↓dnA, Tryz.f40, rows_length]
  refine CallTo.of (c_spec_l20Open nb bs h) ?_
  rintro r b rfl
  unfold rd
  simp (config := { maxSteps := 4000000 }) only [go_sem, simprocAttr, ↓dnA, Tryz.f40, rows_length]
  have h0 := code_take h
  generalize bs.take 2000 = bs at h0
  refine CallTo.of (c_spec_l20World nb _ 0 9 h0 (by omega) (by omega)) ?_
  rintro r b ⟨w, q, rfl, rfl, _, _, hw⟩
  simp (config := { maxSteps := 4000000 }) only [go_sem, simprocAttr, ↓dnA, Tryz.f40, rows_length, rd, encW]
  exact .same ⟨w, by simp [encW], hw⟩

theorem c_laws_FnWorldActions (nb : Option Bool) (bs : List Int) (h : ∀ b, b ∈ bs → 0 ≤ b ∧ b ≤ 255) : Det Tryz.prog 9 [.sl nb (rows encB bs)] (.bool true) := by
  refine fspec_det tab_ok Tryz.call9 Tryz.func9 rfl 82 Tryz.ntmps9 (of_decide_eq_true rfl) fun B => codeK_sound tab_ok _ _ _ ?_
  simp (config := { maxSteps := 4000000 }) only [go_sem, simprocAttr, ↓dnA, Tryz.f9, rows_length]
  intro hl
  have hc : CodeOk bs := ⟨h, by simp at hl; omega⟩
  refine CallTo.of (c_spec_DrawWorldActions nb bs hc) ?_
  rintro r b ⟨w, rfl, hw⟩
  have hx : WldSz w := WldS32.sz ⟨by omega⟩
  have hI := c_impl_WorldActions none none none none none w hx
  have hS := c_spec_WorldActions none none none none none w hx
  have hH := c_impl_WorldHead none none none none none w hx
  have hP := c_impl_PathTo none none none w.tree (worldHead w) hx.tree
  have hW := c_spec_WorldValid none none none none none w hx
  have hal := worldActions_len w
  have hav : ∀ a, a ∈ worldActions w → actionValid a = true := fun a ha => by
    cases hv : worldValid w with
    | false => rw [worldActions_no hv] at ha; cases ha
    | true => exact worldActions_ok hv a ha
  have hpl : (pathTo w.tree (worldHead w)).length ≤ 14 := pathTo_len _ _
  have hpb : ∀ x, x ∈ pathTo w.tree (worldHead w) → worldValid w = true ∧ TreeOk w.tree ∧ 0 ≤ x ∧ x < w.tree.blocks.length := fun x hx => by
    cases hv : worldValid w with
    | false =>
      rw [worldHead_no hv] at hx
      unfold pathTo at hx
      rw [if_neg (fun g => absurd g.2.1 (by decide))] at hx
      cases hx
    | true =>
      have hb := headW_bd hv
      have ht := (worldValid_parts hv).1
      rw [worldHead_yes hv, pathTo_in (treeValid_true ht) hb.1 hb.2] at hx
      have := pathL_bd ht hb.2 x hx
      exact ⟨rfl, ht, by omega, by omega⟩
  have hnm : (worldActions w).length = actsNum w.tree (pathTo w.tree (worldHead w)) := by
    cases hv : worldValid w with
    | false =>
      rw [worldActions_no hv, worldHead_no hv]
      unfold pathTo
      rw [if_neg (fun g => absurd g.2.1 (by decide))]
      rfl
    | true =>
      have hb := headW_bd hv
      have ht := (worldValid_parts hv).1
      rw [worldActions_yes hv, worldHead_yes hv, pathTo_in (treeValid_true ht) hb.1 hb.2]
      rfl
  generalize worldActions w = l at hI hS hal hav hnm
  generalize worldHead w = hd at hH hP hpl hpb hnm
  generalize pathTo w.tree hd = p at hP hpl hpb hnm
  have hne : ((l.length : Int) != (l.length : Int)) = false := by simp
  simp (config := { maxSteps := 4000000 }) only [go_sem, simprocAttr, ↓dnA, Tryz.f9, rows_length, encW]
  refine CallTo.det hI fun _ => ?_
  simp (config := { maxSteps := 4000000 }) only [go_sem, simprocAttr, ↓dnA, Tryz.f9, rows_length, encW]
  refine CallTo.det hS fun _ => ?_
  simp (config := { maxSteps := 4000000 }) only [go_sem, simprocAttr, ↓dnA, Tryz.f9, rows_length, encW, hne]
  refine semL_for tab_ok (fun i : Nat => ⟨82, [(3, .loc 3 0), (4, .row 601 l.length), (5, .row 602 l.length), (6, .int .i64 i)],
      [(3, .var (encW none none none none none w)), (601, .row true false 4 (rows encA l)), (602, .row true true 4 (rows encA l))]⟩) (fun i => l.length - i)
    (fun i => i ≤ l.length) 0 [(3, 3), (17000, 601), (19000, 602)] (Weak.of (by rfl) ?_ ?_ (by rfl)) (by omega) ?_
  · simp (config := { maxSteps := 4000000 }) only [go_sem, simprocAttr, ↓dnA, Tryz.f9, rows_length, encW, frW, wk2, wk1, wkL, wkB, hpW, List.mem_cons, Prod.mk.injEq, exists_eq_left, exists_eq_right, exists_eq]
    try rfl
  · simp (config := { maxSteps := 4000000 }) only [go_sem, simprocAttr, ↓dnA, Tryz.f9, rows_length, encW, nc0, frW, wk2, wk1, wkL, wkB, hpW, List.mem_cons, Prod.mk.injEq, exists_eq_left, exists_eq_right, exists_eq]
    try rfl
  · rintro i hi
    by_cases h : i < l.length
    · have hwi : IntKind.i64.wrap ((i : Int) + 1) = ((i + 1 : Nat) : Int) := wsucc h (by omega)
      have hA := c_impl_ActionValid l[i]
      rw [hav _ (List.getElem_mem h)] at hA
      simp (config := { maxSteps := 4000000 }) only [go_sem, simprocAttr, ↓dnA, Tryz.f9, rows_length, encW, nlt h]
      refine semL_draw tab_ok mixed_ rfl (ord := [(0, []), (1, []), (2, []), (3, []), (4, []), (5, []), (6, []), (7, []), (8, []), (9, []), (10, []), (11, []), (12, []), (13, []), (14, []), (15, []), (16, [])]) (by dsimp only; decide +kernel) ?_
      simp (config := { maxSteps := 4000000 }) only [go_sem, simprocAttr, ↓dnA, Tryz.f9, rows_length, encW, nlt h, h, rows_get _ _ _ h, encA, nn0, hwi]
      simp only [eqCellsK, BEq.rfl, Bool.and_true, Bool.not_true, Bool.false_eq_true, false_implies, true_implies, true_and, forall_const]
      simp (config := { maxSteps := 4000000 }) only [go_sem, simprocAttr, ↓dnA, Tryz.f9, rows_length, encW, nlt h, h, rows_get _ _ _ h, encA, nn0, hwi]
      refine CallTo.det hA fun _ => ?_
      simp (config := { maxSteps := 4000000 }) only [go_sem, simprocAttr, ↓dnA, Tryz.f9, rows_length, encW, nlt h, h, rows_get _ _ _ h, encA, nn0, hwi]
      refine ⟨i + 1, [(3, 3), (601, 601), (602, 602)], by omega, by dsimp only; omega, Weak.of (by rfl) ?_ ?_ (by rfl)⟩
      · simp (config := { maxSteps := 4000000 }) only [go_sem, simprocAttr, ↓dnA, Tryz.f9, rows_length, encW, frW, wk2, wk1, wkL, wkB, hpW, List.mem_cons, Prod.mk.injEq, exists_eq_left, exists_eq_right, exists_eq]
        try rfl
      · simp (config := { maxSteps := 4000000 }) only [go_sem, simprocAttr, ↓dnA, Tryz.f9, rows_length, encW, frW, wk2, wk1, wkL, wkB, hpW, List.mem_cons, Prod.mk.injEq, exists_eq_left, exists_eq_right, exists_eq]
        try rfl
    · obtain rfl : i = l.length := by omega
      simp (config := { maxSteps := 4000000 }) only [go_sem, simprocAttr, ↓dnA, Tryz.f9, rows_length, encW, nlf h]
      refine semL_draw tab_ok mixed_ rfl (ord := [(0, []), (1, []), (2, []), (3, [0, 1]), (4, []), (5, [])]) (by dsimp only; decide +kernel) ?_
      simp (config := { maxSteps := 4000000 }) only [go_sem, simprocAttr, ↓dnA, Tryz.f9, rows_length, encW, nlf h]
      refine CallTo.det hH fun _ => ?_
      simp (config := { maxSteps := 4000000 }) only [go_sem, simprocAttr, ↓dnA, Tryz.f9, rows_length, encW, nlf h]
      refine CallTo.det hP fun _ => ?_
      simp (config := { maxSteps := 4000000 }) only [go_sem, simprocAttr, ↓dnA, Tryz.f9, rows_length, encW, nlf h]
      refine semL_for tab_ok (fun i : Nat => ⟨82, [(3, .loc 3 0), (4, .row 601 l.length), (7, .int .i64 (actsNum w.tree (p.take i) : Nat)), (8, .row 603 p.length), (9, .int .i64 i)],
          [(3, .var (encW none none none none none w)), (601, .row true false 4 (rows encA l)), (603, .row true false 1 (rows encI p))]⟩) (fun i => p.length - i)
        (fun i => i ≤ p.length) 0 [(3, 3), (601, 601), (52000, 603)] (Weak.of (by rfl) ?_ ?_ (by rfl)) (by omega) ?_
      · simp (config := { maxSteps := 4000000 }) only [go_sem, simprocAttr, ↓dnA, Tryz.f9, rows_length, encW, frW, wk2, wk1, wkL, wkB, hpW, List.mem_cons, Prod.mk.injEq, exists_eq_left, exists_eq_right, exists_eq]
        try rfl
      · simp (config := { maxSteps := 4000000 }) only [go_sem, simprocAttr, ↓dnA, Tryz.f9, rows_length, encW, nc0, actsNum_zero, frW, wk2, wk1, wkL, wkB, hpW, List.mem_cons, Prod.mk.injEq, exists_eq_left, exists_eq_right, exists_eq]
        try rfl
      · rintro i hi
        by_cases h : i < p.length
        · have hwi : IntKind.i64.wrap ((i : Int) + 1) = ((i + 1 : Nat) : Int) := wsucc h (by omega)
          obtain ⟨hv, ht, hb0, hb1⟩ := hpb _ (List.getElem_mem h)
          rw [hv] at hW
          obtain ⟨k, hk⟩ : ∃ k : Nat, p[i] = (k : Int) := ⟨p[i].toNat, by omega⟩
          have hkl : k < w.tree.blocks.length := by omega
          have g1 : (rows encI p).getD i [] = [.int .i64 (k : Nat)] := by rw [rows_get _ _ _ h, hk]; rfl
          have g2 : (rows encB1 w.tree.blocks).getD k [] = encB1 (w.tree.blk k) := rows_gd encB1 w.tree.blocks k hkl
          have hst := actsNum_take w.tree p i h
          rw [hk, Int.toNat_natCast] at hst
          have hb10 := tb_list (ht.valid k hkl)
          have hsm : actsNum w.tree (p.take i) ≤ 140 := by
            have := actsOf_len ht (p.take i) fun x hx => (hpb x (List.mem_of_mem_take hx)).2.2
            rw [List.length_take] at this
            show (actsOf w.tree (p.take i)).length ≤ 140
            omega
          have hws : IntKind.i64.wrap ((actsNum w.tree (p.take i) : Int) + ((w.tree.blk k).list.length : Int)) = ((actsNum w.tree (p.take (i + 1)) : Nat) : Int) := by rw [wrap_small _ (by omega) (by omega), hst]; omega
          simp (config := { maxSteps := 4000000 }) only [go_sem, simprocAttr, ↓dnA, Tryz.f9, rows_length, encW, nlt h]
          refine CallTo.det hW fun _ => ?_
          simp (config := { maxSteps := 4000000 }) only [go_sem, simprocAttr, ↓dnA, Tryz.f9, rows_length, encW, nlt h]
          refine semL_drawL tab_ok 13 mixed_ rfl (ord := [(0, []), (1, []), (2, []), (3, []), (4, []), (5, []), (6, []), (7, []), (8, []), (9, []), (10, []), (11, []), (12, [])]) (by dsimp only; decide +kernel) ?_
          simp (config := { maxSteps := 4000000 }) only [go_sem, simprocAttr, ↓dnA, Tryz.f9, rows_length, encW, nlt h, h, nn0, g1, g2, nlt hkl, hkl, encB1, encBk, hws, hwi]
          refine ⟨i + 1, [(3, 3), (601, 601), (603, 603)], by omega, by dsimp only; omega, Weak.of (by rfl) ?_ ?_ (by rfl)⟩
          · simp (config := { maxSteps := 4000000 }) only [go_sem, simprocAttr, ↓dnA, Tryz.f9, rows_length, encW, frW, wk2, wk1, wkL, wkB, hpW, List.mem_cons, Prod.mk.injEq, exists_eq_left, exists_eq_right, exists_eq]
            try rfl
          · simp (config := { maxSteps := 4000000 }) only [go_sem, simprocAttr, ↓dnA, Tryz.f9, rows_length, encW, frW, wk2, wk1, wkL, wkB, hpW, List.mem_cons, Prod.mk.injEq, exists_eq_left, exists_eq_right, exists_eq]
            try rfl
        · obtain rfl : i = p.length := by omega
          have deq : ((l.length : Int) == ((actsNum w.tree p : Nat) : Int)) = true := by rw [hnm]; simp
          simp (config := { maxSteps := 4000000 }) only [go_sem, simprocAttr, ↓dnA, Tryz.f9, rows_length, encW, nlf h, List.take_length, deq]
          refine CallTo.det c_laws_alive fun _ => ?_
          simp (config := { maxSteps := 4000000 }) only [go_sem, simprocAttr, ↓dnA, Tryz.f9, rows_length, encW, nlf h, List.take_length, deq]

end Go.Proofs.YthcfafpjkbbaoaaGreat

/- The law FnWorldActions, and its closed facts. -/
namespace Go.Proofs.YthcfafpjkbbaoaaGreat
open Go Go.ChangeShapes Go.WideShapes Go.ChangeAt Go.RowKit

theorem fnWorldActions_named : Tryz.pinned.checked.prog.funcNamed Rows.fnWorldActionsRow.func = some 9 := by kernel_rfl
theorem fnWorldActions_inst : Tryz.f9.isInstance Tryz.pinned.checked.prog Rows.fnWorldActionsRow.origin Rows.fnWorldActionsRow.targs := of_decide_eq_true (by kernel_rfl)
theorem fnWorldActions_wrap : Tryz.f9.isWrapper Tryz.pinned.checked.prog Rows.fnWorldActionsRow.wrapper Rows.fnWorldActionsRow.mainSum := by
  unfold Func.isWrapper; first | (rw [if_pos (by decide +kernel)]; kernel_rfl) | (rw [if_neg (by decide +kernel)]; exact ⟨rfl, rfl⟩)
set_option maxRecDepth 100000 in
theorem fnWorldActions_closed : joinedFacts Tryz.pinned.checked.prog 9 Tryz.f9 Rows.fnWorldActionsSpec Rows.fnWorldActionsRow = true := by kernel_rfl

end Go.Proofs.YthcfafpjkbbaoaaGreat

