/- FnCommitHeads (part 1): W137, C25 -/
import Derived.Test.YthcfafpjkbbaoaaGreatRows
import Derived.ProofKit
import Derived.Test.YthcfafpjkbbaoaaGreatK7

set_option linter.unusedSimpArgs false
set_option linter.unusedVariables false

/- FnCommitHeads. -/
set_option linter.unusedSimpArgs false
set_option linter.unusedVariables false
set_option maxRecDepth 20000
set_option maxHeartbeats 4000000
namespace Go.Proofs.YthcfafpjkbbaoaaGreat
open Go Go.RowKit

theorem c_spec_DrawCommitHeads (nb : Option Bool) (bs : List Int) (h : CodeOk bs) : FSpec Tryz.prog 14 [.sl nb (rows encB bs)] false [] DrawCsQ := by
  refine fspec_rel tab_ok Tryz.call14 Tryz.func14 rfl 8 Tryz.ntmps14 (of_decide_eq_true rfl) fun B => codeK_sound tab_ok _ _ _ ?_
  simp (config := { maxSteps := 4000000 }) only [go_sem, simprocAttr, ↓dnA, Tryz.f14, rows_length, boolRows_length]
  refine CallTo.of (c_spec_DrawCertifiedBlocks nb bs h) ?_
  rintro r b ⟨t, cs, rfl, h1, h2, h3, h4⟩
  simp (config := { maxSteps := 4000000 }) only [go_sem, simprocAttr, ↓dnA, Tryz.f14, rows_length, boolRows_length, encT]
  exact .same ⟨t, cs, by simp [encT], h1, h2, h3, h4⟩

theorem c_laws_FnCommitHeads (nb : Option Bool) (bs : List Int) (h : ∀ b, b ∈ bs → 0 ≤ b ∧ b ≤ 255) : Det Tryz.prog 3 [.sl nb (rows encB bs)] (.bool true) := by
  refine fspec_det tab_ok Tryz.call3 Tryz.func3 rfl 147 Tryz.ntmps3 (of_decide_eq_true rfl) fun B => codeK_sound tab_ok _ _ _ ?_
  simp (config := { maxSteps := 4000000 }) only [go_sem, simprocAttr, ↓dnA, Tryz.f3, rows_length, boolRows_length]
  intro hl
  have hc : CodeOk bs := ⟨h, by simp at hl; omega⟩
  refine CallTo.of (c_spec_DrawCommitHeads nb bs hc) ?_
  rintro r b ⟨t, cs, rfl, hts, hl1, hl2, hcs⟩
  have hx : TreeSz t := tsz_sz (m := 200) hts (by decide)
  have hI := c_impl_CommitHeads none none none none t cs hx
  have hS := c_spec_CommitHeads none none none none t cs hx
  have hC := c_impl_CertifiedBlocks none none none none t cs hx
  by_cases hv : treeValid t = true ∧ cs.length ≤ 30
  · rw [commitHeads_yes hv] at hI hS
    rw [certified_yes hv.1 hv.2] at hC
    have ht := treeOk_of hv.1
    have hlb := headsL_bd t (certL t cs)
    have hll : (headsL t (certL t cs)).length ≤ t.blocks.length := by unfold headsL; exact fltF_len _ _ _
    have hce := certL_len t cs
    have hasc := fun (i j : Nat) (hij : i < j) (hj : j < (headsL t (certL t cs)).length) => headsL_asc t (certL t cs) hij hj
    have hbe := fun (x : Int) (hx : x ∈ headsL t (certL t cs)) => head_behind ht hx
    generalize headsL t (certL t cs) = l at hI hS hlb hll hasc hbe
    generalize certL t cs = ce at hC hce hbe
    have hsi := c_laws_sameInts none (some true) l (by omega)
    have dle : decide ((l.length : Int) ≤ (t.blocks.length : Int)) = true := by simp; omega
    simp (config := { maxSteps := 4000000 }) only [go_sem, simprocAttr, ↓dnA, Tryz.f3, rows_length, boolRows_length, encT]
    refine CallTo.det hI fun _ => ?_
    simp (config := { maxSteps := 4000000 }) only [go_sem, simprocAttr, ↓dnA, Tryz.f3, rows_length, boolRows_length, encT]
    refine CallTo.det hS fun _ => ?_
    simp (config := { maxSteps := 4000000 }) only [go_sem, simprocAttr, ↓dnA, Tryz.f3, rows_length, boolRows_length, encT]
    refine CallTo.det hsi fun _ => ?_
    simp (config := { maxSteps := 4000000 }) only [go_sem, simprocAttr, ↓dnA, Tryz.f3, rows_length, boolRows_length, encT]
    refine CallTo.det hC fun _ => ?_
    simp (config := { maxSteps := 4000000 }) only [go_sem, simprocAttr, ↓dnA, Tryz.f3, rows_length, boolRows_length, encT]
    refine semL_for tab_ok (fun k : Nat => ⟨147, [(3, .loc 3 0), (5, .row 601 l.length), (6, .row 602 t.blocks.length), (7, .int .i64 k)],
      [(3, .var (encT none none none t)), (601, .row true false 1 (rows encI l)), (602, .row true false 1 (boolRows ce))]⟩) (fun k => l.length - k)
      (fun k => k ≤ l.length) 0 [(3, 3), (22000, 601), (31000, 602)] (Weak.of (by rfl) ?_ ?_ (by rfl)) (by omega) ?_
    · simp (config := { maxSteps := 4000000 }) only [go_sem, simprocAttr, ↓dnA, Tryz.f3, rows_length, boolRows_length, encT, nc0, frW, wk2, wk1, wkL, wkB, hpW, List.mem_cons, Prod.mk.injEq, exists_eq_left, exists_eq_right, exists_eq]
      try rfl
    · simp (config := { maxSteps := 4000000 }) only [go_sem, simprocAttr, ↓dnA, Tryz.f3, rows_length, boolRows_length, encT, nc0, hce, frW, wk2, wk1, wkL, wkB, hpW, List.mem_cons, Prod.mk.injEq, exists_eq_left, exists_eq_right, exists_eq]
      try rfl
    · rintro k hki
      by_cases hk : k < l.length
      · have hwk : IntKind.i64.wrap ((k : Int) + 1) = ((k + 1 : Nat) : Int) := wsucc hk (by omega)
        obtain ⟨b, d0, hb, hbl, hd01, hd0, hbd⟩ := hbe _ (List.getElem_mem hk)
        have hlk : (rows encI l).getD k [] = [.int .i64 (b : Nat)] := by rw [rows_get _ _ _ hk, hb]; rfl
        simp (config := { maxSteps := 4000000 }) only [go_sem, simprocAttr, ↓dnA, Tryz.f3, rows_length, boolRows_length, encT, nlt hk]
        refine semL_for tab_ok (fun p : Nat × Bool => ⟨147, [(3, .loc 3 0), (5, .row 601 l.length), (6, .row 602 t.blocks.length), (7, .int .i64 k), (8, .bool p.2), (9, .int .i64 p.1)],
          [(3, .var (encT none none none t)), (601, .row true false 1 (rows encI l)), (602, .row true false 1 (boolRows ce))]⟩) (fun p => t.blocks.length - p.1)
          (fun p => 1 ≤ p.1 ∧ p.1 ≤ t.blocks.length ∧ (p.2 = true ∨ ∀ e, 1 ≤ e → e < p.1 → behindB t ce b e = false)) (1, false) [(3, 3), (601, 601), (602, 602)] (Weak.of (by rfl) ?_ ?_ (by rfl)) ⟨by decide, hl1, .inr fun e h1 h2 => by dsimp only at h2; omega⟩ ?_
        · simp (config := { maxSteps := 4000000 }) only [go_sem, simprocAttr, ↓dnA, Tryz.f3, rows_length, boolRows_length, encT, frW, wk2, wk1, wkL, wkB, hpW, List.mem_cons, Prod.mk.injEq, exists_eq_left, exists_eq_right, exists_eq]
          try rfl
        · simp (config := { maxSteps := 4000000 }) only [go_sem, simprocAttr, ↓dnA, Tryz.f3, rows_length, boolRows_length, encT, frW, wk2, wk1, wkL, wkB, hpW, List.mem_cons, Prod.mk.injEq, exists_eq_left, exists_eq_right, exists_eq]
          try rfl
        · rintro ⟨d, f⟩ ⟨hd1, hdi, hf⟩
          dsimp only at hd1 hdi hf
          by_cases hd : d < t.blocks.length
          · have hwd : IntKind.i64.wrap ((d : Int) + 1) = ((d + 1 : Nat) : Int) := wsucc hd (by omega)
            have hdb : d < t.before.length := by rw [ht.bef]; exact hd
            have hlk2 := ht.link d (by omega) hd
            obtain ⟨c, hc0⟩ : ∃ c : Nat, t.bef d = (c : Int) := ⟨(t.bef d).toNat, by have := hlk2.lo; omega⟩
            have hcl : c < t.blocks.length := by have := hlk2.hi; omega
            have hcb : c < t.before.length := by rw [ht.bef]; exact hcl
            have g1 : (rows encI t.before).getD d [] = [.int .i64 (c : Nat)] := by rw [rows_get _ _ d hdb, t.bef_get d hdb, hc0]; rfl
            have g2 : (rows encI t.before).getD c [] = [.int .i64 (t.bef c)] := by rw [rows_get _ _ c hcb, t.bef_get c hcb]; rfl
            have hdc : d < ce.length := by omega
            have hcc : c < ce.length := by omega
            have hbc : b < ce.length := by omega
            have gd := boolRows_get ce d hdc
            have gc := boolRows_get ce c hcc
            have gb := boolRows_get ce b hbc
            have hkc : (rows encB1 t.blocks).getD c [] = encB1 (t.blk c) := rows_gd encB1 t.blocks c hcl
            have hkb : (rows encB1 t.blocks).getD b [] = encB1 (t.blk b) := rows_gd encB1 t.blocks b hbl
            have hkd : (rows encB1 t.blocks).getD d [] = encB1 (t.blk d) := rows_gd encB1 t.blocks d hd
            have hvw := view_bd (ht.valid b hbl)
            have w1 : IntKind.i64.wrap ((t.blk b).view + 1) = (t.blk b).view + 1 := wrap_small _ (by omega) (by omega)
            have w2 : IntKind.i64.wrap ((t.blk b).view + 2) = (t.blk b).view + 2 := wrap_small _ (by omega) (by omega)
            have hbh : behindB t ce b d = (decide ((c : Int) > 0) && (t.bef c == (b : Int)) && (ce.getD d false && (ce.getD c false && (ce.getD b false && (((t.blk c).view == (t.blk b).view + 1) && ((t.blk d).view == (t.blk b).view + 2)))))) := by
              unfold behindB
              rw [hc0, Int.toNat_natCast]
            have next : ∀ z, behindB t ce b d = z → (f || z) = true ∨ ∀ e, 1 ≤ e → e < d + 1 → behindB t ce b e = false := fun z hz => by
              rcases hf with hf | hf
              · exact .inl (by rw [hf]; rfl)
              · cases z with
                | true => exact .inl (by simp)
                | false =>
                  refine .inr fun e h1 h2 => ?_
                  rcases Nat.lt_or_ge e d with h3 | h3
                  · exact hf e h1 h3
                  · obtain rfl : e = d := by omega
                    exact hz
            obtain ⟨z1, dc⟩ : ∃ z, decide ((c : Int) > 0) = z := ⟨_, rfl⟩
            obtain ⟨z2, e2⟩ : ∃ z, (t.bef c == (b : Int)) = z := ⟨_, rfl⟩
            obtain ⟨z3, e3⟩ : ∃ z, ce.getD d false = z := ⟨_, rfl⟩
            obtain ⟨z4, e4⟩ : ∃ z, ce.getD c false = z := ⟨_, rfl⟩
            obtain ⟨z5, e5⟩ : ∃ z, ce.getD b false = z := ⟨_, rfl⟩
            obtain ⟨z6, e6⟩ : ∃ z, ((t.blk c).view == (t.blk b).view + 1) = z := ⟨_, rfl⟩
            obtain ⟨z7, e7⟩ : ∃ z, ((t.blk d).view == (t.blk b).view + 2) = z := ⟨_, rfl⟩
            rw [dc, e2, e3, e4, e5, e6, e7] at hbh
            rw [e3] at gd
            rw [e4] at gc
            rw [e5] at gb
            simp (config := { maxSteps := 4000000 }) only [go_sem, simprocAttr, ↓dnA, Tryz.f3, rows_length, boolRows_length, encT, nlt hk, hk, nlt hd, hd, nn0, nlt hdb, hdb, g1]
            simp only [List.append]
            refine semL_draw tab_ok mixed_ rfl (ord := [(0, []), (1, []), (2, []), (3, []), (4, []), (5, []), (6, []), (7, []), (8, []), (9, []), (10, []), (11, []), (12, []), (13, []), (14, []), (15, []), (16, []), (17, []), (18, []), (19, []), (20, []), (21, []), (22, []), (23, []), (24, []), (25, []), (26, []), (27, []), (28, []), (29, []), (30, []), (31, []), (32, []), (33, []), (34, []), (35, []), (36, []), (37, []), (38, []), (39, []), (40, []), (41, []), (42, []), (43, []), (44, []), (45, []), (46, []), (47, []), (48, []), (49, []), (50, []), (51, []), (52, []), (53, []), (54, []), (55, []), (56, []), (57, []), (58, []), (59, []), (60, []), (61, []), (62, []), (63, []), (64, []), (65, []), (66, []), (67, []), (68, []), (69, []), (70, []), (71, []), (72, [])]) (by dsimp only; decide +kernel) ?_
            cases z1 with
            | false =>
              simp (config := { maxSteps := 4000000 }) only [go_sem, simprocAttr, ↓dnA, Tryz.f3, rows_length, boolRows_length, encT, nlt hk, hk, nlt hd, hd, nn0, nlt hdb, hdb, g1, dc, hce, hwd]
              refine ⟨(d + 1, f), [(3, 3), (601, 601), (602, 602)], ⟨by dsimp only; omega, by dsimp only; omega, by have := next false (by rw [hbh]; simp); rw [Bool.or_false] at this; exact this⟩, by dsimp only; omega, Weak.of (by rfl) ?_ ?_ (by rfl)⟩
              · simp (config := { maxSteps := 4000000 }) only [go_sem, simprocAttr, ↓dnA, Tryz.f3, rows_length, boolRows_length, encT, frW, wk2, wk1, wkL, wkB, hpW, List.mem_cons, Prod.mk.injEq, exists_eq_left, exists_eq_right, exists_eq]
                try rfl
              · simp (config := { maxSteps := 4000000 }) only [go_sem, simprocAttr, ↓dnA, Tryz.f3, rows_length, boolRows_length, encT, frW, wk2, wk1, wkL, wkB, hpW, List.mem_cons, Prod.mk.injEq, exists_eq_left, exists_eq_right, exists_eq]
                try rfl
            | true =>
            cases z2 with
            | false =>
              simp (config := { maxSteps := 4000000 }) only [go_sem, simprocAttr, ↓dnA, Tryz.f3, rows_length, boolRows_length, encT, nlt hk, hk, nlt hd, hd, nn0, nlt hdb, hdb, g1, dc, nlt hcb, hcb, g2, hlk, e2, hce, hwd]
              refine ⟨(d + 1, f), [(3, 3), (601, 601), (602, 602)], ⟨by dsimp only; omega, by dsimp only; omega, by have := next false (by rw [hbh]; simp); rw [Bool.or_false] at this; exact this⟩, by dsimp only; omega, Weak.of (by rfl) ?_ ?_ (by rfl)⟩
              · simp (config := { maxSteps := 4000000 }) only [go_sem, simprocAttr, ↓dnA, Tryz.f3, rows_length, boolRows_length, encT, frW, wk2, wk1, wkL, wkB, hpW, List.mem_cons, Prod.mk.injEq, exists_eq_left, exists_eq_right, exists_eq]
                try rfl
              · simp (config := { maxSteps := 4000000 }) only [go_sem, simprocAttr, ↓dnA, Tryz.f3, rows_length, boolRows_length, encT, frW, wk2, wk1, wkL, wkB, hpW, List.mem_cons, Prod.mk.injEq, exists_eq_left, exists_eq_right, exists_eq]
                try rfl
            | true =>
            cases z3 with
            | false =>
              simp (config := { maxSteps := 4000000 }) only [go_sem, simprocAttr, ↓dnA, Tryz.f3, rows_length, boolRows_length, encT, nlt hk, hk, nlt hd, hd, nn0, nlt hdb, hdb, g1, dc, nlt hcb, hcb, g2, hlk, e2, nlt hdc, hdc, gd, hce, hwd]
              refine ⟨(d + 1, f), [(3, 3), (601, 601), (602, 602)], ⟨by dsimp only; omega, by dsimp only; omega, by have := next false (by rw [hbh]; simp); rw [Bool.or_false] at this; exact this⟩, by dsimp only; omega, Weak.of (by rfl) ?_ ?_ (by rfl)⟩
              · simp (config := { maxSteps := 4000000 }) only [go_sem, simprocAttr, ↓dnA, Tryz.f3, rows_length, boolRows_length, encT, frW, wk2, wk1, wkL, wkB, hpW, List.mem_cons, Prod.mk.injEq, exists_eq_left, exists_eq_right, exists_eq]
                try rfl
              · simp (config := { maxSteps := 4000000 }) only [go_sem, simprocAttr, ↓dnA, Tryz.f3, rows_length, boolRows_length, encT, frW, wk2, wk1, wkL, wkB, hpW, List.mem_cons, Prod.mk.injEq, exists_eq_left, exists_eq_right, exists_eq]
                try rfl
            | true =>
            cases z4 with
            | false =>
              simp (config := { maxSteps := 4000000 }) only [go_sem, simprocAttr, ↓dnA, Tryz.f3, rows_length, boolRows_length, encT, nlt hk, hk, nlt hd, hd, nn0, nlt hdb, hdb, g1, dc, nlt hcb, hcb, g2, hlk, e2, nlt hdc, hdc, gd, nlt hcl, hcl, nlt hcc, hcc, gc, hce, hwd]
              refine ⟨(d + 1, f), [(3, 3), (601, 601), (602, 602)], ⟨by dsimp only; omega, by dsimp only; omega, by have := next false (by rw [hbh]; simp); rw [Bool.or_false] at this; exact this⟩, by dsimp only; omega, Weak.of (by rfl) ?_ ?_ (by rfl)⟩
              · simp (config := { maxSteps := 4000000 }) only [go_sem, simprocAttr, ↓dnA, Tryz.f3, rows_length, boolRows_length, encT, frW, wk2, wk1, wkL, wkB, hpW, List.mem_cons, Prod.mk.injEq, exists_eq_left, exists_eq_right, exists_eq]
                try rfl
              · simp (config := { maxSteps := 4000000 }) only [go_sem, simprocAttr, ↓dnA, Tryz.f3, rows_length, boolRows_length, encT, frW, wk2, wk1, wkL, wkB, hpW, List.mem_cons, Prod.mk.injEq, exists_eq_left, exists_eq_right, exists_eq]
                try rfl
            | true =>
            cases z5 with
            | false =>
              simp (config := { maxSteps := 4000000 }) only [go_sem, simprocAttr, ↓dnA, Tryz.f3, rows_length, boolRows_length, encT, nlt hk, hk, nlt hd, hd, nn0, nlt hdb, hdb, g1, dc, nlt hcb, hcb, g2, hlk, e2, nlt hdc, hdc, gd, nlt hcl, hcl, nlt hcc, hcc, gc, nlt hbl, hbl, nlt hbc, hbc, gb, hce, hwd]
              refine ⟨(d + 1, f), [(3, 3), (601, 601), (602, 602)], ⟨by dsimp only; omega, by dsimp only; omega, by have := next false (by rw [hbh]; simp); rw [Bool.or_false] at this; exact this⟩, by dsimp only; omega, Weak.of (by rfl) ?_ ?_ (by rfl)⟩
              · simp (config := { maxSteps := 4000000 }) only [go_sem, simprocAttr, ↓dnA, Tryz.f3, rows_length, boolRows_length, encT, frW, wk2, wk1, wkL, wkB, hpW, List.mem_cons, Prod.mk.injEq, exists_eq_left, exists_eq_right, exists_eq]
                try rfl
              · simp (config := { maxSteps := 4000000 }) only [go_sem, simprocAttr, ↓dnA, Tryz.f3, rows_length, boolRows_length, encT, frW, wk2, wk1, wkL, wkB, hpW, List.mem_cons, Prod.mk.injEq, exists_eq_left, exists_eq_right, exists_eq]
                try rfl
            | true =>
            cases z6 with
            | false =>
              simp (config := { maxSteps := 4000000 }) only [go_sem, simprocAttr, ↓dnA, Tryz.f3, rows_length, boolRows_length, encT, nlt hk, hk, nlt hd, hd, nn0, nlt hdb, hdb, g1, dc, nlt hcb, hcb, g2, hlk, e2, nlt hdc, hdc, gd, nlt hcl, hcl, nlt hcc, hcc, gc, nlt hbl, hbl, nlt hbc, hbc, gb, hkc, hkb, encB1, encBk, w1, e6, hce, hwd]
              refine ⟨(d + 1, f), [(3, 3), (601, 601), (602, 602)], ⟨by dsimp only; omega, by dsimp only; omega, by have := next false (by rw [hbh]; simp); rw [Bool.or_false] at this; exact this⟩, by dsimp only; omega, Weak.of (by rfl) ?_ ?_ (by rfl)⟩
              · simp (config := { maxSteps := 4000000 }) only [go_sem, simprocAttr, ↓dnA, Tryz.f3, rows_length, boolRows_length, encT, frW, wk2, wk1, wkL, wkB, hpW, List.mem_cons, Prod.mk.injEq, exists_eq_left, exists_eq_right, exists_eq]
                try rfl
              · simp (config := { maxSteps := 4000000 }) only [go_sem, simprocAttr, ↓dnA, Tryz.f3, rows_length, boolRows_length, encT, frW, wk2, wk1, wkL, wkB, hpW, List.mem_cons, Prod.mk.injEq, exists_eq_left, exists_eq_right, exists_eq]
                try rfl
            | true =>
            cases z7 with
            | false =>
              simp (config := { maxSteps := 4000000 }) only [go_sem, simprocAttr, ↓dnA, Tryz.f3, rows_length, boolRows_length, encT, nlt hk, hk, nlt hd, hd, nn0, nlt hdb, hdb, g1, dc, nlt hcb, hcb, g2, hlk, e2, nlt hdc, hdc, gd, nlt hcl, hcl, nlt hcc, hcc, gc, nlt hbl, hbl, nlt hbc, hbc, gb, hkc, hkb, encB1, encBk, w1, e6, hkd, w2, e7, hce, hwd]
              refine ⟨(d + 1, f), [(3, 3), (601, 601), (602, 602)], ⟨by dsimp only; omega, by dsimp only; omega, by have := next false (by rw [hbh]; simp); rw [Bool.or_false] at this; exact this⟩, by dsimp only; omega, Weak.of (by rfl) ?_ ?_ (by rfl)⟩
              · simp (config := { maxSteps := 4000000 }) only [go_sem, simprocAttr, ↓dnA, Tryz.f3, rows_length, boolRows_length, encT, frW, wk2, wk1, wkL, wkB, hpW, List.mem_cons, Prod.mk.injEq, exists_eq_left, exists_eq_right, exists_eq]
                try rfl
              · simp (config := { maxSteps := 4000000 }) only [go_sem, simprocAttr, ↓dnA, Tryz.f3, rows_length, boolRows_length, encT, frW, wk2, wk1, wkL, wkB, hpW, List.mem_cons, Prod.mk.injEq, exists_eq_left, exists_eq_right, exists_eq]
                try rfl
            | true =>
              simp (config := { maxSteps := 4000000 }) only [go_sem, simprocAttr, ↓dnA, Tryz.f3, rows_length, boolRows_length, encT, nlt hk, hk, nlt hd, hd, nn0, nlt hdb, hdb, g1, dc, nlt hcb, hcb, g2, hlk, e2, nlt hdc, hdc, gd, nlt hcl, hcl, nlt hcc, hcc, gc, nlt hbl, hbl, nlt hbc, hbc, gb, hkc, hkb, encB1, encBk, w1, e6, hkd, w2, e7, hce, hwd]
              refine ⟨(d + 1, true), [(3, 3), (601, 601), (602, 602)], ⟨by dsimp only; omega, by dsimp only; omega, .inl rfl⟩, by dsimp only; omega, Weak.of (by rfl) ?_ ?_ (by rfl)⟩
              · simp (config := { maxSteps := 4000000 }) only [go_sem, simprocAttr, ↓dnA, Tryz.f3, rows_length, boolRows_length, encT, frW, wk2, wk1, wkL, wkB, hpW, List.mem_cons, Prod.mk.injEq, exists_eq_left, exists_eq_right, exists_eq]
                try rfl
              · simp (config := { maxSteps := 4000000 }) only [go_sem, simprocAttr, ↓dnA, Tryz.f3, rows_length, boolRows_length, encT, frW, wk2, wk1, wkL, wkB, hpW, List.mem_cons, Prod.mk.injEq, exists_eq_left, exists_eq_right, exists_eq]
                try rfl
          · obtain rfl : d = t.blocks.length := by omega
            have hft : f = true := by
              rcases hf with hf | hf
              · exact hf
              · have := hf d0 hd01 hd0; rw [hbd] at this; cases this
            subst hft
            by_cases hk0 : k = 0
            · have dk : decide ((k : Int) > 0) = false := by simp; omega
              simp (config := { maxSteps := 4000000 }) only [go_sem, simprocAttr, ↓dnA, Tryz.f3, rows_length, boolRows_length, encT, nlf hd, hce]
              refine semL_draw tab_ok mixed_ rfl (ord := [(0, []), (1, []), (2, []), (3, []), (4, []), (5, []), (6, []), (7, []), (8, []), (9, []), (10, []), (11, []), (12, []), (13, []), (14, []), (15, []), (16, []), (17, [])]) (by dsimp only; decide +kernel) ?_
              simp (config := { maxSteps := 4000000 }) only [go_sem, simprocAttr, ↓dnA, Tryz.f3, rows_length, boolRows_length, encT, dk, hwk]
              refine ⟨k + 1, [(3, 3), (601, 601), (602, 602)], by omega, by dsimp only; omega, Weak.of (by rfl) ?_ ?_ (by rfl)⟩
              · simp (config := { maxSteps := 4000000 }) only [go_sem, simprocAttr, ↓dnA, Tryz.f3, rows_length, boolRows_length, encT, frW, wk2, wk1, wkL, wkB, hpW, List.mem_cons, Prod.mk.injEq, exists_eq_left, exists_eq_right, exists_eq]
                try rfl
              · simp (config := { maxSteps := 4000000 }) only [go_sem, simprocAttr, ↓dnA, Tryz.f3, rows_length, boolRows_length, encT, frW, wk2, wk1, wkL, wkB, hpW, List.mem_cons, Prod.mk.injEq, exists_eq_left, exists_eq_right, exists_eq]
                try rfl
            · have dk : decide ((k : Int) > 0) = true := by simp; omega
              obtain ⟨j, rfl⟩ : ∃ j, k = j + 1 := ⟨k - 1, by omega⟩
              have hj : j < l.length := by omega
              have wj : IntKind.i64.wrap (((j + 1 : Nat) : Int) - 1) = (j : Int) := by rw [wrap_small _ (by omega) (by omega)]; omega
              have hgj : (rows encI l).getD j [] = [.int .i64 (l.getD j 0)] := by rw [rows_get _ _ _ hj, List.getD_eq_getElem?_getD, List.getElem?_eq_getElem hj]; rfl
              have hlt := hasc j (j + 1) (by omega) hk
              have hlb2 : l.getD (j + 1) 0 = (b : Int) := by rw [List.getD_eq_getElem?_getD, List.getElem?_eq_getElem hk, ← hb]; rfl
              rw [hlb2] at hlt
              have dge : decide (l.getD j 0 ≥ (b : Int)) = false := decide_eq_false (by omega)
              simp (config := { maxSteps := 4000000 }) only [go_sem, simprocAttr, ↓dnA, Tryz.f3, rows_length, boolRows_length, encT, nlf hd, hce]
              refine semL_draw tab_ok mixed_ rfl (ord := [(0, []), (1, []), (2, []), (3, []), (4, []), (5, []), (6, []), (7, []), (8, []), (9, []), (10, []), (11, []), (12, []), (13, []), (14, []), (15, []), (16, []), (17, [])]) (by dsimp only; decide +kernel) ?_
              simp (config := { maxSteps := 4000000 }) only [go_sem, simprocAttr, ↓dnA, Tryz.f3, rows_length, boolRows_length, encT, dk, hwk, wj, nlt hj, hj, nlt hk, hk, nn0, hgj, hlk, dge]
              refine ⟨j + 1 + 1, [(3, 3), (601, 601), (602, 602)], by omega, by dsimp only; omega, Weak.of (by rfl) ?_ ?_ (by rfl)⟩
              · simp (config := { maxSteps := 4000000 }) only [go_sem, simprocAttr, ↓dnA, Tryz.f3, rows_length, boolRows_length, encT, frW, wk2, wk1, wkL, wkB, hpW, List.mem_cons, Prod.mk.injEq, exists_eq_left, exists_eq_right, exists_eq]
                try rfl
              · simp (config := { maxSteps := 4000000 }) only [go_sem, simprocAttr, ↓dnA, Tryz.f3, rows_length, boolRows_length, encT, frW, wk2, wk1, wkL, wkB, hpW, List.mem_cons, Prod.mk.injEq, exists_eq_left, exists_eq_right, exists_eq]
                try rfl
      · obtain rfl : k = l.length := by omega
        simp (config := { maxSteps := 4000000 }) only [go_sem, simprocAttr, ↓dnA, Tryz.f3, rows_length, boolRows_length, encT, nlf hk, hce, dle]
        refine CallTo.det c_laws_alive fun _ => ?_
        simp (config := { maxSteps := 4000000 }) only [go_sem, simprocAttr, ↓dnA, Tryz.f3, rows_length, boolRows_length, encT, nlf hk, hce, dle]
  · have e1 : commitHeads t cs = [] := by unfold commitHeads; rw [certified_no hv, if_pos rfl]
    rw [e1] at hI hS
    rw [certified_no hv] at hC
    have hsi := c_laws_sameInts none (some true) [] (by simp)
    have z1 : decide ((0 : Int) ≤ 0) = true := by decide
    simp (config := { maxSteps := 4000000 }) only [go_sem, simprocAttr, ↓dnA, Tryz.f3, rows_length, boolRows_length, encT]
    refine CallTo.det hI fun _ => ?_
    simp (config := { maxSteps := 4000000 }) only [go_sem, simprocAttr, ↓dnA, Tryz.f3, rows_length, boolRows_length, encT]
    refine CallTo.det hS fun _ => ?_
    simp (config := { maxSteps := 4000000 }) only [go_sem, simprocAttr, ↓dnA, Tryz.f3, rows_length, boolRows_length, encT]
    refine CallTo.det hsi fun _ => ?_
    simp (config := { maxSteps := 4000000 }) only [go_sem, simprocAttr, ↓dnA, Tryz.f3, rows_length, boolRows_length, encT]
    refine CallTo.det hC fun _ => ?_
    simp (config := { maxSteps := 4000000 }) only [go_sem, simprocAttr, ↓dnA, Tryz.f3, rows_length, boolRows_length, encT]
    refine semL_for tab_ok (fun k : Nat => ⟨147, [(5, .row 601 0), (6, .row 602 0), (7, .int .i64 0)],
      [(601, .row true false 1 (rows encI [])), (602, .row true false 1 (boolRows []))]⟩) (fun k => k)
      (fun k => True) 0 [(22000, 601), (31000, 602)] (Weak.of (by rfl) ?_ ?_ (by rfl)) trivial ?_
    · simp (config := { maxSteps := 4000000 }) only [go_sem, simprocAttr, ↓dnA, Tryz.f3, rows_length, boolRows_length, encT, nc0, frW, wk2, wk1, wkL, wkB, hpW, List.mem_cons, Prod.mk.injEq, exists_eq_left, exists_eq_right, exists_eq]
      try rfl
    · simp (config := { maxSteps := 4000000 }) only [go_sem, simprocAttr, ↓dnA, Tryz.f3, rows_length, boolRows_length, encT, nc0, List.length_nil, frW, wk2, wk1, wkL, wkB, hpW, List.mem_cons, Prod.mk.injEq, exists_eq_left, exists_eq_right, exists_eq]
      try rfl
    · rintro k -
      simp (config := { maxSteps := 4000000 }) only [go_sem, simprocAttr, ↓dnA, Tryz.f3, rows_length, boolRows_length, encT, List.length_nil, nc0, z1]
      refine CallTo.det c_laws_alive fun _ => ?_
      simp (config := { maxSteps := 4000000 }) only [go_sem, simprocAttr, ↓dnA, Tryz.f3, rows_length, boolRows_length, encT, List.length_nil, nc0, z1]

end Go.Proofs.YthcfafpjkbbaoaaGreat

/- The law FnCommitHeads, and its closed facts. -/
namespace Go.Proofs.YthcfafpjkbbaoaaGreat
open Go Go.ChangeShapes Go.WideShapes Go.ChangeAt Go.RowKit

theorem fnCommitHeads_named : Tryz.pinned.checked.prog.funcNamed Rows.fnCommitHeadsRow.func = some 3 := by kernel_rfl
theorem fnCommitHeads_inst : Tryz.f3.isInstance Tryz.pinned.checked.prog Rows.fnCommitHeadsRow.origin Rows.fnCommitHeadsRow.targs := of_decide_eq_true (by kernel_rfl)
theorem fnCommitHeads_wrap : Tryz.f3.isWrapper Tryz.pinned.checked.prog Rows.fnCommitHeadsRow.wrapper Rows.fnCommitHeadsRow.mainSum := by
  unfold Func.isWrapper; first | (rw [if_pos (by decide +kernel)]; kernel_rfl) | (rw [if_neg (by decide +kernel)]; exact ⟨rfl, rfl⟩)
set_option maxRecDepth 100000 in
theorem fnCommitHeads_closed : joinedFacts Tryz.pinned.checked.prog 3 Tryz.f3 Rows.fnCommitHeadsSpec Rows.fnCommitHeadsRow = true := by kernel_rfl

end Go.Proofs.YthcfafpjkbbaoaaGreat

