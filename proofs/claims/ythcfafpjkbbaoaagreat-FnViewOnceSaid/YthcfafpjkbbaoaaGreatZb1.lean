/- FnViewOnce (part 1): W142, C29 -/
import Derived.Test.YthcfafpjkbbaoaaGreatRows
import Derived.ProofKit
import Derived.Test.YthcfafpjkbbaoaaGreatH7

set_option linter.unusedSimpArgs false
set_option linter.unusedVariables false

/- FnVoteOnce, FnViewOnce. -/
set_option linter.unusedSimpArgs false
set_option linter.unusedVariables false
set_option maxRecDepth 20000
set_option maxHeartbeats 4000000
namespace Go.Proofs.YthcfafpjkbbaoaaGreat
open Go Go.RowKit

theorem worldRun_neg {w : Wld} {sc : List Int} (h : ¬ (worldRun w sc).2 < 0) : worldValid w = true ∧ ScOk sc := by
  by_cases hv : worldValid w = true ∧ ScOk sc
  · exact hv
  · rw [worldRun_no hv] at h; exact absurd (by decide) h

theorem c_laws_FnViewOnce (nb : Option Bool) (bs : List Int) (h : ∀ b, b ∈ bs → 0 ≤ b ∧ b ≤ 255) : Det Tryz.prog 8 [.sl nb (rows encB bs)] (.bool true) := by
  refine fspec_det tab_ok Tryz.call8 Tryz.func8 rfl 103 Tryz.ntmps8 (of_decide_eq_true rfl) fun B => codeK_sound tab_ok _ _ _ ?_
  simp (config := { maxSteps := 4000000 }) only [go_sem, simprocAttr, ↓dnA, Tryz.f8, rows_length, boolRows_length]
  intro hl
  have hc : CodeOk bs := ⟨h, by simp at hl; omega⟩
  refine CallTo.of (c_spec_DrawWorldRun nb bs hc) ?_
  rintro r b ⟨w, sc, rfl, hw, hsl⟩
  have hx : WldSz w := WldS32.sz ⟨by omega⟩
  have hI := c_impl_WorldRun none none none none none none w sc hx (by omega)
  have hS := c_spec_WorldRun none none none none none none w sc hx (by omega)
  have hsz := worldRun_wsz w sc
  have hneg := fun h => worldRun_neg (w := w) (sc := sc) h
  generalize worldRun w sc = p at hI hS hsz hneg
  obtain ⟨x, n⟩ := p
  dsimp only at hI hS hsz hneg
  have hy : WldSz x := WldS32.sz ⟨by omega⟩
  have hqq : (n != n) = false := by simp
  have hsw := c_laws_sameWorld none none none none none none none none none none x hy
  simp (config := { maxSteps := 4000000 }) only [go_sem, simprocAttr, ↓dnA, Tryz.f8, rows_length, boolRows_length, encW]
  refine CallTo.det hI fun _ => ?_
  simp (config := { maxSteps := 4000000 }) only [go_sem, simprocAttr, ↓dnA, Tryz.f8, rows_length, boolRows_length, encW, encWF]
  refine CallTo.det hS fun _ => ?_
  simp (config := { maxSteps := 4000000 }) only [go_sem, simprocAttr, ↓dnA, Tryz.f8, rows_length, boolRows_length, encW, encWF]
  refine CallTo.det hsw fun _ => ?_
  by_cases hn : n < 0
  · simp (config := { maxSteps := 4000000 }) only [go_sem, simprocAttr, ↓dnA, Tryz.f8, rows_length, boolRows_length, encW, encWF, hqq, hn]
    refine CallTo.det c_laws_alive fun _ => ?_
    simp (config := { maxSteps := 4000000 }) only [go_sem, simprocAttr, ↓dnA, Tryz.f8, rows_length, boolRows_length, encW, encWF, hqq, hn]
  · obtain ⟨hv, hs⟩ := hneg hn
    have ht := (worldValid_parts hv).1
    have hvo := worldOf_valid ht
    have hO := c_impl_WorldOf none none none w.tree (tb_s32 ht)
    have hso := worldOk_s32 hvo
    have hR := c_impl_WorldRun none none none none none none (worldOf w.tree) sc hso.sz (by omega)
    have hsf := runW_safe ht sc
    rw [worldRun_yes hvo hs] at hR
    generalize worldOf w.tree = o at hO hR hsf
    generalize runW o sc = p at hR hsf
    obtain ⟨z, k⟩ := p
    dsimp only at hR hsf
    have hzv := hsf.valid
    have hz := (worldOk_s32 hzv).sz
    obtain ⟨hzt, _, _, hzl, _⟩ := worldValid_parts hzv
    have hzn := hzt.len
    have hC := c_impl_WorldCerts none none none none none z hz
    have hD := c_impl_CertifiedBlocks none none none none z.tree (worldCerts z) hz.tree
    obtain ⟨c1, c2⟩ := certsTo_30 hzv
    rw [worldCerts_yes hzv] at hC hD
    rw [certified_yes c1 c2] at hD
    have hml := certL_len z.tree (certsTo z z.votes.length)
    have honce := fun (i j : Nat) (hi : i < z.tree.blocks.length) (hj : j < i) e => marks_once hsf hi hj e
    generalize certL z.tree (certsTo z z.votes.length) = ms at hD hml honce
    generalize certsTo z z.votes.length = cs at hC hD
    have deq : ((z.tree.blocks.length : Int) == (z.votes.length : Int)) = true := by simp [hzl]
    simp (config := { maxSteps := 4000000 }) only [go_sem, simprocAttr, ↓dnA, Tryz.f8, rows_length, boolRows_length, encW, encWF, hqq, hn]
    refine CallTo.det hO fun _ => ?_
    simp (config := { maxSteps := 4000000 }) only [go_sem, simprocAttr, ↓dnA, Tryz.f8, rows_length, boolRows_length, encW, encWF, hqq, hn]
    refine CallTo.det hR fun _ => ?_
    simp (config := { maxSteps := 4000000 }) only [go_sem, simprocAttr, ↓dnA, Tryz.f8, rows_length, boolRows_length, encW, encWF, hqq, hn]
    refine semL_draw tab_ok mixed_ rfl (ord := [(0, []), (1, []), (2, []), (3, [0, 1]), (4, []), (5, [])]) (by dsimp only; decide +kernel) ?_
    simp (config := { maxSteps := 4000000 }) only [go_sem, simprocAttr, ↓dnA, Tryz.f8, rows_length, boolRows_length, encW, encWF, hqq, hn]
    refine CallTo.det hC fun _ => ?_
    simp (config := { maxSteps := 4000000 }) only [go_sem, simprocAttr, ↓dnA, Tryz.f8, rows_length, boolRows_length, encW, encWF, hqq, hn]
    refine CallTo.det hD fun _ => ?_
    simp (config := { maxSteps := 4000000 }) only [go_sem, simprocAttr, ↓dnA, Tryz.f8, rows_length, boolRows_length, encW, encWF, hqq, hn]
    refine semL_for tab_ok (fun a : Nat => ⟨103, [(9, .loc 9 0), (11, .row 602 z.tree.blocks.length), (12, .int .i64 a)],
        [(9, .var [.row 52000 z.tree.base.length, .row 52001 z.tree.blocks.length, .row 52002 z.tree.before.length, .row 52003 z.voters.length, .row 52004 z.votes.length]),
         (52000, .row true false 2 (rows encE z.tree.base)), (52001, .row true false 6 (rows encB1 z.tree.blocks)), (52002, .row true false 1 (rows encI z.tree.before)), (52003, .row true false 2 (rows encV z.voters)), (52004, .row true false 1 (rows encI z.votes)),
         (602, .row true false 1 (boolRows ms))]⟩) (fun a => z.tree.blocks.length - a)
      (fun a => a ≤ z.tree.blocks.length) 0 [(9, 9), (52000, 52000), (52001, 52001), (52002, 52002), (52003, 52003), (52004, 52004), (59000, 602)] (Weak.of (by rfl) ?_ ?_ (by rfl)) (by omega) ?_
    · simp (config := { maxSteps := 4000000 }) only [go_sem, simprocAttr, ↓dnA, Tryz.f8, rows_length, boolRows_length, encW, encWF, frW, wk2, wk1, wkL, wkB, hpW, List.mem_cons, Prod.mk.injEq, exists_eq_left, exists_eq_right, exists_eq]
      try rfl
    · simp (config := { maxSteps := 4000000 }) only [go_sem, simprocAttr, ↓dnA, Tryz.f8, rows_length, boolRows_length, encW, encWF, hml, frW, wk2, wk1, wkL, wkB, hpW, List.mem_cons, Prod.mk.injEq, exists_eq_left, exists_eq_right, exists_eq]
      try rfl
    · rintro a ha
      by_cases hal : a < z.tree.blocks.length
      · have hwa : IntKind.i64.wrap ((a : Int) + 1) = ((a + 1 : Nat) : Int) := wsucc hal (by omega)
        simp (config := { maxSteps := 4000000 }) only [go_sem, simprocAttr, ↓dnA, Tryz.f8, rows_length, boolRows_length, nlt hal]
        refine semL_for tab_ok (fun b : Nat => ⟨103, [(9, .loc 9 0), (11, .row 602 z.tree.blocks.length), (12, .int .i64 a), (13, .int .i64 b)],
            [(9, .var [.row 52000 z.tree.base.length, .row 52001 z.tree.blocks.length, .row 52002 z.tree.before.length, .row 52003 z.voters.length, .row 52004 z.votes.length]),
             (52000, .row true false 2 (rows encE z.tree.base)), (52001, .row true false 6 (rows encB1 z.tree.blocks)), (52002, .row true false 1 (rows encI z.tree.before)), (52003, .row true false 2 (rows encV z.voters)), (52004, .row true false 1 (rows encI z.votes)),
             (602, .row true false 1 (boolRows ms))]⟩) (fun b => a - b)
          (fun b => b ≤ a) 0 [(9, 9), (52000, 52000), (52001, 52001), (52002, 52002), (52003, 52003), (52004, 52004), (602, 602)] (Weak.of (by rfl) ?_ ?_ (by rfl)) (by omega) ?_
        · simp (config := { maxSteps := 4000000 }) only [go_sem, simprocAttr, ↓dnA, Tryz.f8, rows_length, boolRows_length, encW, encWF, frW, wk2, wk1, wkL, wkB, hpW, List.mem_cons, Prod.mk.injEq, exists_eq_left, exists_eq_right, exists_eq]
          try rfl
        · simp (config := { maxSteps := 4000000 }) only [go_sem, simprocAttr, ↓dnA, Tryz.f8, rows_length, boolRows_length, encW, encWF, nc0, frW, wk2, wk1, wkL, wkB, hpW, List.mem_cons, Prod.mk.injEq, exists_eq_left, exists_eq_right, exists_eq]
          try rfl
        · rintro b hb
          by_cases hbl : b < a
          · have hwb : IntKind.i64.wrap ((b : Int) + 1) = ((b + 1 : Nat) : Int) := wsucc hbl (by omega)
            have hbz : b < z.tree.blocks.length := by omega
            have g1 := boolRows_get ms a (by omega)
            have g2 := boolRows_get ms b (by omega)
            have g3 : (rows encB1 z.tree.blocks).getD a [] = encB1 (z.tree.blk a) := rows_gd encB1 z.tree.blocks a hal
            have g4 : (rows encB1 z.tree.blocks).getD b [] = encB1 (z.tree.blk b) := rows_gd encB1 z.tree.blocks b hbz
            have ho := honce a b hal hbl
            obtain ⟨z1, e1⟩ : ∃ z1, ms.getD a false = z1 := ⟨_, rfl⟩
            obtain ⟨z2, e2⟩ : ∃ z1, ms.getD b false = z1 := ⟨_, rfl⟩
            obtain ⟨z3, e3⟩ : ∃ z1, ((z.tree.blk a).view == (z.tree.blk b).view) = z1 := ⟨_, rfl⟩
            rw [e1, e2] at ho
            rw [e1] at g1
            rw [e2] at g2
            simp (config := { maxSteps := 4000000 }) only [go_sem, simprocAttr, ↓dnA, Tryz.f8, rows_length, boolRows_length, nlt hbl]
            refine semL_draw tab_ok mixed_ rfl (ord := [(0, []), (1, []), (2, []), (3, []), (4, []), (5, []), (6, []), (7, []), (8, []), (9, []), (10, []), (11, []), (12, []), (13, []), (14, []), (15, []), (16, []), (17, []), (18, []), (19, []), (20, []), (21, []), (22, []), (23, []), (24, []), (25, []), (26, [])]) (by dsimp only; decide +kernel) ?_
            have hz3 : z1 = true → z2 = true → z3 = false := fun h1 h2 => by
              cases z3 with
              | false => rfl
              | true => exact (ho (beq_iff_eq.1 e3) h1 h2).elim
            cases z1 with
            | false =>
              simp (config := { maxSteps := 4000000 }) only [go_sem, simprocAttr, ↓dnA, Tryz.f8, rows_length, boolRows_length, nlt hal, hal, nlt hbl, nlt hbz, hbz, nn0, hml, g1, g2, g3, g4, hwb]
              refine ⟨b + 1, [(9, 9), (52000, 52000), (52001, 52001), (52002, 52002), (52003, 52003), (52004, 52004), (602, 602)], by omega, by dsimp only; omega, Weak.of (by rfl) ?_ ?_ (by rfl)⟩
              · simp (config := { maxSteps := 4000000 }) only [go_sem, simprocAttr, ↓dnA, Tryz.f8, rows_length, boolRows_length, encW, frW, wk2, wk1, wkL, wkB, hpW, List.mem_cons, Prod.mk.injEq, exists_eq_left, exists_eq_right, exists_eq]
                try rfl
              · simp (config := { maxSteps := 4000000 }) only [go_sem, simprocAttr, ↓dnA, Tryz.f8, rows_length, boolRows_length, encW, frW, wk2, wk1, wkL, wkB, hpW, List.mem_cons, Prod.mk.injEq, exists_eq_left, exists_eq_right, exists_eq]
                try rfl
            | true =>
              cases z2 with
              | false =>
                simp (config := { maxSteps := 4000000 }) only [go_sem, simprocAttr, ↓dnA, Tryz.f8, rows_length, boolRows_length, nlt hal, hal, nlt hbl, nlt hbz, hbz, nn0, hml, g1, g2, g3, g4, hwb]
                refine ⟨b + 1, [(9, 9), (52000, 52000), (52001, 52001), (52002, 52002), (52003, 52003), (52004, 52004), (602, 602)], by omega, by dsimp only; omega, Weak.of (by rfl) ?_ ?_ (by rfl)⟩
                · simp (config := { maxSteps := 4000000 }) only [go_sem, simprocAttr, ↓dnA, Tryz.f8, rows_length, boolRows_length, encW, frW, wk2, wk1, wkL, wkB, hpW, List.mem_cons, Prod.mk.injEq, exists_eq_left, exists_eq_right, exists_eq]
                  try rfl
                · simp (config := { maxSteps := 4000000 }) only [go_sem, simprocAttr, ↓dnA, Tryz.f8, rows_length, boolRows_length, encW, frW, wk2, wk1, wkL, wkB, hpW, List.mem_cons, Prod.mk.injEq, exists_eq_left, exists_eq_right, exists_eq]
                  try rfl
              | true =>
                have hz := hz3 rfl rfl
                subst hz
                simp (config := { maxSteps := 4000000 }) only [go_sem, simprocAttr, ↓dnA, Tryz.f8, rows_length, boolRows_length, nlt hal, hal, nlt hbl, nlt hbz, hbz, nn0, hml, g1, g2, g3, g4, encB1, encBk, e3, hwb]
                refine ⟨b + 1, [(9, 9), (52000, 52000), (52001, 52001), (52002, 52002), (52003, 52003), (52004, 52004), (602, 602)], by omega, by dsimp only; omega, Weak.of (by rfl) ?_ ?_ (by rfl)⟩
                · simp (config := { maxSteps := 4000000 }) only [go_sem, simprocAttr, ↓dnA, Tryz.f8, rows_length, boolRows_length, encW, frW, wk2, wk1, wkL, wkB, hpW, List.mem_cons, Prod.mk.injEq, exists_eq_left, exists_eq_right, exists_eq]
                  try rfl
                · simp (config := { maxSteps := 4000000 }) only [go_sem, simprocAttr, ↓dnA, Tryz.f8, rows_length, boolRows_length, encW, frW, wk2, wk1, wkL, wkB, hpW, List.mem_cons, Prod.mk.injEq, exists_eq_left, exists_eq_right, exists_eq]
                  try rfl
          · obtain rfl : b = a := by omega
            simp (config := { maxSteps := 4000000 }) only [go_sem, simprocAttr, ↓dnA, Tryz.f8, rows_length, boolRows_length, nlf hbl, hwa]
            refine ⟨b + 1, [(9, 9), (52000, 52000), (52001, 52001), (52002, 52002), (52003, 52003), (52004, 52004), (602, 602)], by omega, by dsimp only; omega, Weak.of (by rfl) ?_ ?_ (by rfl)⟩
            · simp (config := { maxSteps := 4000000 }) only [go_sem, simprocAttr, ↓dnA, Tryz.f8, rows_length, boolRows_length, encW, frW, wk2, wk1, wkL, wkB, hpW, List.mem_cons, Prod.mk.injEq, exists_eq_left, exists_eq_right, exists_eq]
              try rfl
            · simp (config := { maxSteps := 4000000 }) only [go_sem, simprocAttr, ↓dnA, Tryz.f8, rows_length, boolRows_length, encW, frW, wk2, wk1, wkL, wkB, hpW, List.mem_cons, Prod.mk.injEq, exists_eq_left, exists_eq_right, exists_eq]
              try rfl
      · obtain rfl : a = z.tree.blocks.length := by omega
        simp (config := { maxSteps := 4000000 }) only [go_sem, simprocAttr, ↓dnA, Tryz.f8, rows_length, boolRows_length, nlf hal, deq]

end Go.Proofs.YthcfafpjkbbaoaaGreat

/- The law FnViewOnce, and its closed facts. -/
namespace Go.Proofs.YthcfafpjkbbaoaaGreat
open Go Go.ChangeShapes Go.WideShapes Go.ChangeAt Go.RowKit

theorem fnViewOnce_named : Tryz.pinned.checked.prog.funcNamed Rows.fnViewOnceRow.func = some 8 := by kernel_rfl
theorem fnViewOnce_inst : Tryz.f8.isInstance Tryz.pinned.checked.prog Rows.fnViewOnceRow.origin Rows.fnViewOnceRow.targs := of_decide_eq_true (by kernel_rfl)
theorem fnViewOnce_wrap : Tryz.f8.isWrapper Tryz.pinned.checked.prog Rows.fnViewOnceRow.wrapper Rows.fnViewOnceRow.mainSum := by
  unfold Func.isWrapper; first | (rw [if_pos (by decide +kernel)]; kernel_rfl) | (rw [if_neg (by decide +kernel)]; exact ⟨rfl, rfl⟩)
set_option maxRecDepth 100000 in
theorem fnViewOnce_closed : joinedFacts Tryz.pinned.checked.prog 8 Tryz.f8 Rows.fnViewOnceSpec Rows.fnViewOnceRow = true := by kernel_rfl

end Go.Proofs.YthcfafpjkbbaoaaGreat

