/- FnVoteOnce (part 1): W141, C28 -/
import Derived.Test.YthcfafpjkbbaoaaGreatRows
import Derived.ProofKit
import Derived.Test.YthcfafpjkbbaoaaGreatH7

set_option linter.unusedSimpArgs false
set_option linter.unusedVariables false

/- FnVoteOnce. -/
set_option linter.unusedSimpArgs false
set_option linter.unusedVariables false
set_option maxRecDepth 20000
set_option maxHeartbeats 4000000
namespace Go.Proofs.YthcfafpjkbbaoaaGreat
open Go Go.RowKit

theorem worldRun_negV {w : Wld} {sc : List Int} (h : ¬ (worldRun w sc).2 < 0) : worldValid w = true ∧ ScOk sc := by
  by_cases hv : worldValid w = true ∧ ScOk sc
  · exact hv
  · rw [worldRun_no hv] at h; exact absurd (by decide) h

theorem c_laws_FnVoteOnce (nb : Option Bool) (bs : List Int) (h : ∀ b, b ∈ bs → 0 ≤ b ∧ b ≤ 255) : Det Tryz.prog 7 [.sl nb (rows encB bs)] (.bool true) := by
  refine fspec_det tab_ok Tryz.call7 Tryz.func7 rfl 95 Tryz.ntmps7 (of_decide_eq_true rfl) fun B => codeK_sound tab_ok _ _ _ ?_
  simp (config := { maxSteps := 4000000 }) only [go_sem, simprocAttr, ↓dnA, Tryz.f7, rows_length]
  intro hl
  have hc : CodeOk bs := ⟨h, by simp at hl; omega⟩
  refine CallTo.of (c_spec_DrawWorldRun nb bs hc) ?_
  rintro r b ⟨w, sc, rfl, hw, hsl⟩
  have hx : WldSz w := WldS32.sz ⟨by omega⟩
  have hI := c_impl_WorldRun none none none none none none w sc hx (by omega)
  have hS := c_spec_WorldRun none none none none none none w sc hx (by omega)
  have hsz := worldRun_wsz w sc
  have hneg := fun h => worldRun_negV (w := w) (sc := sc) h
  generalize worldRun w sc = p at hI hS hsz hneg
  obtain ⟨x, n⟩ := p
  dsimp only at hI hS hsz hneg
  have hy : WldSz x := WldS32.sz ⟨by omega⟩
  have hqq : (n != n) = false := by simp
  have hsw := c_laws_sameWorld none none none none none none none none none none x hy
  simp (config := { maxSteps := 4000000 }) only [go_sem, simprocAttr, ↓dnA, Tryz.f7, rows_length, encW]
  refine CallTo.det hI fun _ => ?_
  simp (config := { maxSteps := 4000000 }) only [go_sem, simprocAttr, ↓dnA, Tryz.f7, rows_length, encW, encWF]
  refine CallTo.det hS fun _ => ?_
  simp (config := { maxSteps := 4000000 }) only [go_sem, simprocAttr, ↓dnA, Tryz.f7, rows_length, encW, encWF]
  refine CallTo.det hsw fun _ => ?_
  by_cases hn : n < 0
  · simp (config := { maxSteps := 4000000 }) only [go_sem, simprocAttr, ↓dnA, Tryz.f7, rows_length, encW, encWF, hqq, hn]
    refine CallTo.det c_laws_alive fun _ => ?_
    simp (config := { maxSteps := 4000000 }) only [go_sem, simprocAttr, ↓dnA, Tryz.f7, rows_length, encW, encWF, hqq, hn]
  · obtain ⟨hv, hs⟩ := hneg hn
    have ht := (worldValid_parts hv).1
    have hvo := worldOf_valid ht
    have hO := c_impl_WorldOf none none none w.tree (tb_s32 ht)
    have hso := worldOk_s32 hvo
    have hR := c_impl_WorldRun none none none none none none (worldOf w.tree) sc hso.sz (by omega)
    have hsf := runW_safe ht sc
    rw [worldRun_yes hvo hs] at hR
    generalize worldOf w.tree = o at hO hR hsf
    generalize runW o sc = p at hR hsf
    obtain ⟨z, k⟩ := p
    dsimp only at hR hsf
    have hzv := hsf.valid
    have hz := (worldOk_s32 hzv).sz
    obtain ⟨hzt, _, _, hzl, _⟩ := worldValid_parts hzv
    have hzn := hzt.len
    simp (config := { maxSteps := 4000000 }) only [go_sem, simprocAttr, ↓dnA, Tryz.f7, rows_length, encW, encWF, hqq, hn]
    refine CallTo.det hO fun _ => ?_
    simp (config := { maxSteps := 4000000 }) only [go_sem, simprocAttr, ↓dnA, Tryz.f7, rows_length, encW, encWF, hqq, hn]
    refine CallTo.det hR fun _ => ?_
    simp (config := { maxSteps := 4000000 }) only [go_sem, simprocAttr, ↓dnA, Tryz.f7, rows_length, encW, encWF, hqq, hn]
    refine semL_for tab_ok (fun a : Nat => ⟨95, [(9, .loc 9 0), (11, .int .i64 a)], [(9, .var [.row 51000 z.tree.base.length, .row 51001 z.tree.blocks.length, .row 51002 z.tree.before.length, .row 51003 z.voters.length, .row 51004 z.votes.length]),
             (51000, .row true false 2 (rows encE z.tree.base)), (51001, .row true false 6 (rows encB1 z.tree.blocks)), (51002, .row true false 1 (rows encI z.tree.before)), (51003, .row true false 2 (rows encV z.voters)), (51004, .row true false 1 (rows encI z.votes))]⟩) (fun a => z.votes.length - a)
      (fun a => a ≤ z.votes.length) 0 [(9, 9), (51000, 51000), (51001, 51001), (51002, 51002), (51003, 51003), (51004, 51004)] (Weak.of (by rfl) ?_ ?_ (by rfl)) (by omega) ?_
    · simp (config := { maxSteps := 4000000 }) only [go_sem, simprocAttr, ↓dnA, Tryz.f7, rows_length, encW, encWF, frW, wk2, wk1, wkL, wkB, hpW, List.mem_cons, Prod.mk.injEq, exists_eq_left, exists_eq_right, exists_eq]
      try rfl
    · simp (config := { maxSteps := 4000000 }) only [go_sem, simprocAttr, ↓dnA, Tryz.f7, rows_length, encW, encWF, nc0, frW, wk2, wk1, wkL, wkB, hpW, List.mem_cons, Prod.mk.injEq, exists_eq_left, exists_eq_right, exists_eq]
      try rfl
    · rintro a ha
      by_cases hal : a < z.votes.length
      · have hwa : IntKind.i64.wrap ((a : Int) + 1) = ((a + 1 : Nat) : Int) := wsucc hal (by omega)
        have hab : a < z.tree.blocks.length := by omega
        simp (config := { maxSteps := 4000000 }) only [go_sem, simprocAttr, ↓dnA, Tryz.f7, rows_length, nlt hal]
        refine semL_for tab_ok (fun b : Nat => ⟨95, [(9, .loc 9 0), (11, .int .i64 a), (12, .int .i64 b)], [(9, .var [.row 51000 z.tree.base.length, .row 51001 z.tree.blocks.length, .row 51002 z.tree.before.length, .row 51003 z.voters.length, .row 51004 z.votes.length]),
             (51000, .row true false 2 (rows encE z.tree.base)), (51001, .row true false 6 (rows encB1 z.tree.blocks)), (51002, .row true false 1 (rows encI z.tree.before)), (51003, .row true false 2 (rows encV z.voters)), (51004, .row true false 1 (rows encI z.votes))]⟩) (fun b => a - b)
          (fun b => b ≤ a) 0 [(9, 9), (51000, 51000), (51001, 51001), (51002, 51002), (51003, 51003), (51004, 51004)] (Weak.of (by rfl) ?_ ?_ (by rfl)) (by omega) ?_
        · simp (config := { maxSteps := 4000000 }) only [go_sem, simprocAttr, ↓dnA, Tryz.f7, rows_length, encW, encWF, frW, wk2, wk1, wkL, wkB, hpW, List.mem_cons, Prod.mk.injEq, exists_eq_left, exists_eq_right, exists_eq]
          try rfl
        · simp (config := { maxSteps := 4000000 }) only [go_sem, simprocAttr, ↓dnA, Tryz.f7, rows_length, encW, encWF, nc0, frW, wk2, wk1, wkL, wkB, hpW, List.mem_cons, Prod.mk.injEq, exists_eq_left, exists_eq_right, exists_eq]
          try rfl
        · rintro b hb
          by_cases hbl : b < a
          · have hwb : IntKind.i64.wrap ((b : Int) + 1) = ((b + 1 : Nat) : Int) := wsucc hbl (by omega)
            have hbz : b < z.tree.blocks.length := by omega
            have hbv : b < z.votes.length := by omega
            have g3 : (rows encB1 z.tree.blocks).getD a [] = encB1 (z.tree.blk a) := rows_gd encB1 z.tree.blocks a hab
            have g4 : (rows encB1 z.tree.blocks).getD b [] = encB1 (z.tree.blk b) := rows_gd encB1 z.tree.blocks b hbz
            have g1 : (rows encI z.votes).getD a [] = [.int .i64 (vt z a)] := by rw [rows_get _ _ _ hal]; unfold vt; rw [List.getD_eq_getElem?_getD, List.getElem?_eq_getElem hal]; rfl
            have g2 : (rows encI z.votes).getD b [] = [.int .i64 (vt z b)] := by rw [rows_get _ _ _ hbv]; unfold vt; rw [List.getD_eq_getElem?_getD, List.getElem?_eq_getElem hbv]; rfl
            obtain ⟨z3, e3⟩ : ∃ z1, ((z.tree.blk a).view == (z.tree.blk b).view) = z1 := ⟨_, rfl⟩
            have ho := fun e => vote_once hsf hab hbz (by omega) e
            simp (config := { maxSteps := 4000000 }) only [go_sem, simprocAttr, ↓dnA, Tryz.f7, rows_length, nlt hbl]
            refine semL_draw tab_ok mixed_ rfl (ord := [(0, []), (1, []), (2, []), (3, []), (4, []), (5, []), (6, []), (7, []), (8, []), (9, []), (10, []), (11, []), (12, []), (13, []), (14, []), (15, []), (16, []), (17, []), (18, []), (19, []), (20, []), (21, []), (22, []), (23, []), (24, []), (25, []), (26, []), (27, []), (28, []), (29, [])]) (by dsimp only; decide +kernel) ?_
            cases z3 with
            | false =>
              simp (config := { maxSteps := 4000000 }) only [go_sem, simprocAttr, ↓dnA, Tryz.f7, rows_length, nlt hab, hab, nlt hbl, nlt hbz, hbz, nn0, g3, g4, encB1, encBk, e3, hwb]
              refine ⟨b + 1, [(9, 9), (51000, 51000), (51001, 51001), (51002, 51002), (51003, 51003), (51004, 51004)], by omega, by dsimp only; omega, Weak.of (by rfl) ?_ ?_ (by rfl)⟩
              · simp (config := { maxSteps := 4000000 }) only [go_sem, simprocAttr, ↓dnA, Tryz.f7, rows_length, encW, encWF, frW, wk2, wk1, wkL, wkB, hpW, List.mem_cons, Prod.mk.injEq, exists_eq_left, exists_eq_right, exists_eq]
                try rfl
              · simp (config := { maxSteps := 4000000 }) only [go_sem, simprocAttr, ↓dnA, Tryz.f7, rows_length, encW, encWF, nc0, frW, wk2, wk1, wkL, wkB, hpW, List.mem_cons, Prod.mk.injEq, exists_eq_left, exists_eq_right, exists_eq]
                try rfl
            | true =>
              have hz := ho (beq_iff_eq.1 e3)
              simp (config := { maxSteps := 4000000 }) only [go_sem, simprocAttr, ↓dnA, Tryz.f7, rows_length, nlt hab, hab, nlt hbl, nlt hbz, hbz, nlt hal, hal, nlt hbv, hbv, nn0, g1, g2, g3, g4, encB1, encBk, e3, ↓intK_and, hz, hwb]
              refine ⟨b + 1, [(9, 9), (51000, 51000), (51001, 51001), (51002, 51002), (51003, 51003), (51004, 51004)], by omega, by dsimp only; omega, Weak.of (by rfl) ?_ ?_ (by rfl)⟩
              · simp (config := { maxSteps := 4000000 }) only [go_sem, simprocAttr, ↓dnA, Tryz.f7, rows_length, encW, encWF, frW, wk2, wk1, wkL, wkB, hpW, List.mem_cons, Prod.mk.injEq, exists_eq_left, exists_eq_right, exists_eq]
                try rfl
              · simp (config := { maxSteps := 4000000 }) only [go_sem, simprocAttr, ↓dnA, Tryz.f7, rows_length, encW, encWF, nc0, frW, wk2, wk1, wkL, wkB, hpW, List.mem_cons, Prod.mk.injEq, exists_eq_left, exists_eq_right, exists_eq]
                try rfl
          · obtain rfl : b = a := by omega
            simp (config := { maxSteps := 4000000 }) only [go_sem, simprocAttr, ↓dnA, Tryz.f7, rows_length, nlf hbl, hwa]
            refine ⟨b + 1, [(9, 9), (51000, 51000), (51001, 51001), (51002, 51002), (51003, 51003), (51004, 51004)], by omega, by dsimp only; omega, Weak.of (by rfl) ?_ ?_ (by rfl)⟩
            · simp (config := { maxSteps := 4000000 }) only [go_sem, simprocAttr, ↓dnA, Tryz.f7, rows_length, encW, encWF, frW, wk2, wk1, wkL, wkB, hpW, List.mem_cons, Prod.mk.injEq, exists_eq_left, exists_eq_right, exists_eq]
              try rfl
            · simp (config := { maxSteps := 4000000 }) only [go_sem, simprocAttr, ↓dnA, Tryz.f7, rows_length, encW, encWF, nc0, frW, wk2, wk1, wkL, wkB, hpW, List.mem_cons, Prod.mk.injEq, exists_eq_left, exists_eq_right, exists_eq]
              try rfl
      · obtain rfl : a = z.votes.length := by omega
        simp (config := { maxSteps := 4000000 }) only [go_sem, simprocAttr, ↓dnA, Tryz.f7, rows_length, nlf hal]

end Go.Proofs.YthcfafpjkbbaoaaGreat

/- The law FnVoteOnce, and its closed facts. -/
namespace Go.Proofs.YthcfafpjkbbaoaaGreat
open Go Go.ChangeShapes Go.WideShapes Go.ChangeAt Go.RowKit

theorem fnVoteOnce_named : Tryz.pinned.checked.prog.funcNamed Rows.fnVoteOnceRow.func = some 7 := by kernel_rfl
theorem fnVoteOnce_inst : Tryz.f7.isInstance Tryz.pinned.checked.prog Rows.fnVoteOnceRow.origin Rows.fnVoteOnceRow.targs := of_decide_eq_true (by kernel_rfl)
theorem fnVoteOnce_wrap : Tryz.f7.isWrapper Tryz.pinned.checked.prog Rows.fnVoteOnceRow.wrapper Rows.fnVoteOnceRow.mainSum := by
  unfold Func.isWrapper; first | (rw [if_pos (by decide +kernel)]; kernel_rfl) | (rw [if_neg (by decide +kernel)]; exact ⟨rfl, rfl⟩)
set_option maxRecDepth 100000 in
theorem fnVoteOnce_closed : joinedFacts Tryz.pinned.checked.prog 7 Tryz.f7 Rows.fnVoteOnceSpec Rows.fnVoteOnceRow = true := by kernel_rfl

end Go.Proofs.YthcfafpjkbbaoaaGreat

