/- FnNextBlock (part 1): W64, W104, W107, W109, W108, W114, C15 -/
import Derived.Test.YtmibclbinebnjaaRows
import Derived.ProofKit
import Derived.Test.YtmibclbinebnjaaR2

set_option linter.unusedSimpArgs false
set_option linter.unusedVariables false

/- Contracts: FnBlockChain. -/
set_option linter.unusedSimpArgs false
set_option linter.unusedVariables false
set_option maxRecDepth 20000
set_option maxHeartbeats 4000000
namespace Go.Proofs.Ytmibclbinebnjaa
open Go Go.RowKit

/-- The state may be seen as another one at the beginning of a piece of code. -/
theorem c_laws_sameStore (n1 n2 : Option Bool) (xs : List Entry) (hx : xs.length < 2 ^ 62) : Det Try.prog 13 [.sl n1 (rows encE xs), .sl n2 (rows encE xs)] (.bool true) := by
  refine fspec_det tab_ok Try.call13 Try.func13 rfl 26 Try.ntmps13 (of_decide_eq_true rfl) fun B => codeK_sound tab_ok _ _ _ ?_
  have hne : ((xs.length : Int) != (xs.length : Int)) = false := by simp
  simp (config := { maxSteps := 4000000 }) only [go_sem, simprocAttr, ↓dnA, Try.f13, rows_length, hne]
  refine semL_for tab_ok (fun i : Nat => ⟨26, [(0, .sl n1 (rows encE xs)), (1, .sl n2 (rows encE xs)), (5, .int .i64 i)], []⟩) (fun i => xs.length - i)
    (fun i => i ≤ xs.length) 0 [] (Weak.of (by rfl) ?_ ?_ (by rfl)) (by omega) ?_
  · trivial
  · simp (config := { maxSteps := 4000000 }) only [go_sem, simprocAttr, ↓dnA, Try.f13, rows_length, frW, wk2, wk1, wkL, wkB, hpW, List.mem_cons, Prod.mk.injEq, exists_eq_left, exists_eq_right, exists_eq]
    try rfl
  · rintro i hi
    by_cases h : i < xs.length
    · have hw : IntKind.i64.wrap ((i : Int) + 1) = ((i + 1 : Nat) : Int) := wsucc h (by omega)
      simp (config := { maxSteps := 4000000 }) only [go_sem, simprocAttr, ↓dnA, Try.f13, rows_length, nlt h, h, rows_get _ _ _ h, encE, nn0, hw]
      refine semL_draw tab_ok mixed_ rfl (ord := [(0, []), (1, []), (2, []), (3, []), (4, []), (5, []), (6, []), (7, []), (8, [])]) (by dsimp only; decide +kernel) ?_
      simp (config := { maxSteps := 4000000 }) only [go_sem, simprocAttr, ↓dnA, Try.f13, rows_length, nlt h, h, rows_get _ _ _ h, encE, nn0, hw]
      simp only [eqCellsK, BEq.rfl, Bool.and_true, Bool.not_true, Bool.false_eq_true, false_implies, true_implies, true_and, forall_const]
      refine ⟨i + 1, [], by omega, by dsimp only; omega, Weak.of (by rfl) ?_ ?_ (by rfl)⟩
      · trivial
      · simp (config := { maxSteps := 4000000 }) only [go_sem, simprocAttr, ↓dnA, Try.f13, rows_length, frW, wk2, wk1, wkL, wkB, hpW, List.mem_cons, Prod.mk.injEq, exists_eq_left, exists_eq_right, exists_eq]
    · have hi' : i = xs.length := by omega
      subst hi'
      simp (config := { maxSteps := 4000000 }) only [go_sem, simprocAttr, ↓dnA, Try.f13, rows_length, nlf h]

theorem c_laws_FnBlockChain (nb : Option Bool) (bs : List Int) (h : ∀ b, b ∈ bs → 0 ≤ b ∧ b ≤ 255) : Det Try.prog 3 [.sl nb (rows encB bs)] (.bool true) := by
  refine fspec_det tab_ok Try.call3 Try.func3 rfl 76 Try.ntmps3 (of_decide_eq_true rfl) fun B => codeK_sound tab_ok _ _ _ ?_
  simp (config := { maxSteps := 4000000 }) only [go_sem, simprocAttr, ↓dnA, Try.f3, rows_length]
  intro hl
  have hc : CodeOk bs := ⟨h, by simp at hl; omega⟩
  refine CallTo.of (c_spec_DrawRunSerial nb bs hc) ?_
  rintro r b ⟨s, l, rfl, hs, hll⟩
  have hI := c_impl_RunSerial (some true) (some true) s l (by omega) (by omega)
  have hS := c_spec_RunSerial (some true) (some true) s l (by omega) (by omega)
  have hrl : (runSerial s l).1.length ≤ 32 := by
    by_cases hv : (storeValid s && actionsValid l) = true
    · rw [Bool.and_eq_true] at hv
      exact store_len (runSerial_ok hv.1 hv.2).1
    · unfold runSerial
      rw [if_neg hv]; simp
  generalize hp : runSerial s l = p at hI hS hrl
  obtain ⟨s', es⟩ := p
  dsimp only at hI hS hrl
  simp (config := { maxSteps := 4000000 }) only [go_sem, simprocAttr, ↓dnA, Try.f3, rows_length]
  refine CallTo.det hI fun _ => ?_
  simp (config := { maxSteps := 4000000 }) only [go_sem, simprocAttr, ↓dnA, Try.f3, rows_length]
  refine CallTo.det hS fun _ => ?_
  simp (config := { maxSteps := 4000000 }) only [go_sem, simprocAttr, ↓dnA, Try.f3, rows_length]
  refine CallTo.det (c_laws_sameStore _ _ s' (by omega)) fun _ => ?_
  simp (config := { maxSteps := 4000000 }) only [go_sem, simprocAttr, ↓dnA, Try.f3, rows_length]
  refine CallTo.det (c_spec_StoreValid _ s (by omega)) fun _ => ?_
  simp (config := { maxSteps := 4000000 }) only [go_sem, simprocAttr, ↓dnA, Try.f3, rows_length]
  refine ⟨fun g1 => ?_, fun g1 => ?_⟩
  · have h1 : storeValid s = true := by simpa using g1
    refine CallTo.det (c_spec_ActionsValid _ l (by omega)) fun _ => ?_
    simp (config := { maxSteps := 4000000 }) only [go_sem, simprocAttr, ↓dnA, Try.f3, rows_length, h1]
    refine ⟨fun g2 => ?_, fun g2 => ?_⟩
    · have h2 : actionsValid l = false := by simpa using g2
      refine CallTo.det c_laws_alive fun _ => ?_
      simp (config := { maxSteps := 4000000 }) only [go_sem, simprocAttr, ↓dnA, Try.f3, rows_length, h1, h2]
    · have h2 : actionsValid l = true := by simpa using g2
      refine CallTo.det (c_impl_TreeOf (some true) s (by omega)) fun _ => ?_
      simp (config := { maxSteps := 4000000 }) only [go_sem, simprocAttr, ↓dnA, Try.f3, rows_length, encTF]
      have h0 := chain_treeOf l h1
      refine semL_ghost ((Ghost.weak (t := ⟨76, [(4, .row 19100 l.length), (5, .row 25000 s'.length), (9, .loc 9 0), (10, .int .i64 0)],
          [(9, .var [.row 48000 (treeOf s).base.length, .row 48001 (treeOf s).blocks.length, .row 48002 (treeOf s).before.length]), (48000, .row true false 2 (rows encE (treeOf s).base)), (48001, .row true false 6 (rows encB1 (treeOf s).blocks)), (48002, .row true false 1 (rows encI (treeOf s).before)),
            (25000, .row true false 2 (rows encE s')), (19100, .fro 4 (rows encA l))]⟩) (ρ := [(9, 9), (48000, 48000), (48001, 48001), (48002, 48002), (25000, 25000), (19100, 19100)]) (Weak.of (by rfl) ?_ ?_ (by rfl))).trans (Ghost.pure 4 19100 l.length 4 rfl rfl ?_)) ?_
      · simp (config := { maxSteps := 4000000 }) only [go_sem, simprocAttr, ↓dnA, Try.f3, rows_length, frW, wk2, wk1, wkL, wkB, hpW, List.mem_cons, Prod.mk.injEq, exists_eq_left, exists_eq_right, exists_eq]
      · simp (config := { maxSteps := 4000000 }) only [go_sem, simprocAttr, ↓dnA, Try.f3, rows_length, frW, wk2, wk1, wkL, wkB, hpW, List.mem_cons, Prod.mk.injEq, exists_eq_left, exists_eq_right, exists_eq]
      · rw [rows_length]
      refine semL_for tab_ok (fun p : Nat × Tree => ⟨76, [(4, .sl none (rows encA l)), (5, .row 25000 s'.length), (9, .loc 9 0), (10, .int .i64 p.1)],
          [(9, .var [.row 600 p.2.base.length, .row 601 p.2.blocks.length, .row 602 p.2.before.length]), (600, .row true false 2 (rows encE p.2.base)), (601, .row true false 6 (rows encB1 p.2.blocks)), (602, .row true false 1 (rows encI p.2.before)),
            (25000, .row true false 2 (rows encE s'))]⟩) (fun p => l.length - p.1)
        (fun p => p.1 ≤ l.length ∧ Chain s l p.2 p.1) (0, treeOf s) [(9, 9), (48000, 600), (48001, 601), (48002, 602), (25000, 25000)] (Weak.of (by rfl) ?_ ?_ (by rfl)) ⟨by dsimp only; omega, h0⟩ ?_
      · simp (config := { maxSteps := 4000000 }) only [go_sem, simprocAttr, ↓dnA, Try.f3, rows_length, frW, wk2, wk1, wkL, wkB, hpW, List.mem_cons, Prod.mk.injEq, exists_eq_left, exists_eq_right, exists_eq]
      · simp (config := { maxSteps := 4000000 }) only [go_sem, simprocAttr, ↓dnA, Try.f3, rows_length, frW, wk2, wk1, wkL, wkB, hpW, List.mem_cons, Prod.mk.injEq, exists_eq_left, exists_eq_right, exists_eq]
      · rintro ⟨i, t⟩ ⟨hi, hc⟩
        dsimp only at hi hc
        have h32 := treeOk_s32 hc.ok
        by_cases hlt : i < l.length
        · have hw : IntKind.i64.wrap ((i : Int) + 1) = ((i + 1 : Nat) : Int) := wsucc hlt (by omega)
          simp (config := { maxSteps := 4000000 }) only [go_sem, simprocAttr, ↓dnA, Try.f3, rows_length, nlt hlt, hlt, hw, nn0]
          refine semL_draw tab_ok mixed_ rfl (ord := [(0, []), (1, []), (2, []), (3, []), (4, []), (5, []), (6, []), (7, []), (8, []), (9, []), (10, []), (11, []), (12, []), (13, [0, 1, 2, 3, 4, 5, 6, 7, 8, 10, 11, 12]), (14, [12]), (15, [])]) (by dsimp only; decide +kernel) ?_
          have hcut : List.drop i (List.take (i + 1) (rows encA l)) = rows encA ((l.drop i).take 1) := by
            unfold rows
            rw [← List.map_take, ← List.map_drop, List.drop_take, show i + 1 - i = 1 by omega]
          have hl0 : ((rows encA l).getD 0 []).length = 4 := by
            rcases sz0_rows encA 4 (fun _ => rfl) l with e | e
            · omega
            · exact e
          have hG := c_impl_GrowTree none none none none t (i : Int) ((i + 1 : Nat) : Int) ((l.drop i).take 1) h32 (by rw [List.length_take]; omega)
          have hg := fun h => chain_grow hc (v := ((i + 1 : Nat) : Int)) h
          generalize growTree t (i : Int) ((i + 1 : Nat) : Int) ((l.drop i).take 1) = q at hG hg
          obtain ⟨t', ok⟩ := q
          dsimp only at hG hg
          simp (config := { maxSteps := 4000000 }) only [go_sem, simprocAttr, ↓dnA, Try.f3, rows_length, nlt hlt, hlt, hw, nn0, hcut]
          refine ⟨by omega, fun _ _ => hl0, ?_⟩
          refine CallTo.det hG fun _ => ?_
          simp (config := { maxSteps := 4000000 }) only [go_sem, simprocAttr, ↓dnA, Try.f3, rows_length, nlt hlt, hlt, hw, nn0, hcut, encTF, hl0]
          refine ⟨by omega, fun g => ?_⟩
          have hok : ok = true := by simpa using g
          refine ⟨(i + 1, t'), [(9, 9), (65000, 600), (65001, 601), (65002, 602), (25000, 25000)], ⟨by dsimp only; omega, hg hok⟩, by dsimp only; omega, Weak.of (by rfl) ?_ ?_ (by rfl)⟩
          · simp (config := { maxSteps := 4000000 }) only [go_sem, simprocAttr, ↓dnA, Try.f3, rows_length, frW, wk2, wk1, wkL, wkB, hpW, List.mem_cons, Prod.mk.injEq, exists_eq_left, exists_eq_right, exists_eq]
          · simp (config := { maxSteps := 4000000 }) only [go_sem, simprocAttr, ↓dnA, Try.f3, rows_length, frW, wk2, wk1, wkL, wkB, hpW, List.mem_cons, Prod.mk.injEq, exists_eq_left, exists_eq_right, exists_eq]
        · have hi' : i = l.length := by omega
          subst hi'
          have hst := chain_store hc h1 h2
          rw [hp] at hst
          have hSO := c_impl_StoreOf none none none t (l.length : Int) h32.sz
          rw [hst] at hSO
          simp (config := { maxSteps := 4000000 }) only [go_sem, simprocAttr, ↓dnA, Try.f3, rows_length, nlf hlt]
          refine CallTo.det hSO fun _ => ?_
          simp (config := { maxSteps := 4000000 }) only [go_sem, simprocAttr, ↓dnA, Try.f3, rows_length, nlf hlt]
          refine CallTo.det (c_laws_sameStore _ _ s' (by omega)) fun _ => ?_
          simp (config := { maxSteps := 4000000 }) only [go_sem, simprocAttr, ↓dnA, Try.f3, rows_length, nlf hlt]
  · have h1 : storeValid s = false := by simpa using g1
    refine CallTo.det c_laws_alive fun _ => ?_
    simp (config := { maxSteps := 4000000 }) only [go_sem, simprocAttr, ↓dnA, Try.f3, rows_length, h1]

end Go.Proofs.Ytmibclbinebnjaa

/- Contracts: what the laws call the same; FindBlock, BlockRight. -/
set_option linter.unusedSimpArgs false
set_option linter.unusedVariables false
set_option maxRecDepth 20000
set_option maxHeartbeats 4000000
namespace Go.Proofs.Ytmibclbinebnjaa
open Go Go.RowKit

theorem c_laws_sameInts (n1 n2 : Option Bool) (xs : List Int) (hx : xs.length < 2 ^ 62) : Det Try.prog 96 [.sl n1 (rows encI xs), .sl n2 (rows encI xs)] (.bool true) := by
  refine fspec_det tab_ok Try.call96 Try.func96 rfl 26 Try.ntmps96 (of_decide_eq_true rfl) fun B => codeK_sound tab_ok _ _ _ ?_
  have hne : ((xs.length : Int) != (xs.length : Int)) = false := by simp
  simp (config := { maxSteps := 4000000 }) only [go_sem, simprocAttr, ↓dnA, Try.f96, rows_length, hne]
  refine semL_for tab_ok (fun i : Nat => ⟨26, [(0, .sl n1 (rows encI xs)), (1, .sl n2 (rows encI xs)), (5, .int .i64 i)], []⟩) (fun i => xs.length - i)
    (fun i => i ≤ xs.length) 0 [] (Weak.of (by rfl) ?_ ?_ (by rfl)) (by omega) ?_
  · trivial
  · simp (config := { maxSteps := 4000000 }) only [go_sem, simprocAttr, ↓dnA, Try.f96, rows_length, frW, wk2, wk1, wkL, wkB, hpW, List.mem_cons, Prod.mk.injEq, exists_eq_left, exists_eq_right, exists_eq]
    try rfl
  · rintro i hi
    by_cases h : i < xs.length
    · have hw : IntKind.i64.wrap ((i : Int) + 1) = ((i + 1 : Nat) : Int) := wsucc h (by omega)
      have hxx : (xs[i] != xs[i]) = false := by simp
      simp (config := { maxSteps := 4000000 }) only [go_sem, simprocAttr, ↓dnA, Try.f96, rows_length, nlt h, h, rows_get _ _ _ h, encI, nn0, hw, hxx]
      refine semL_draw tab_ok mixed_ rfl (ord := [(0, []), (1, []), (2, []), (3, []), (4, []), (5, []), (6, []), (7, []), (8, [])]) (by dsimp only; decide +kernel) ?_
      simp (config := { maxSteps := 4000000 }) only [go_sem, simprocAttr, ↓dnA, Try.f96, rows_length, nlt h, h, rows_get _ _ _ h, encI, nn0, hw, hxx]
      refine ⟨i + 1, [], by omega, by dsimp only; omega, Weak.of (by rfl) ?_ ?_ (by rfl)⟩
      · trivial
      · simp (config := { maxSteps := 4000000 }) only [go_sem, simprocAttr, ↓dnA, Try.f96, rows_length, frW, wk2, wk1, wkL, wkB, hpW, List.mem_cons, Prod.mk.injEq, exists_eq_left, exists_eq_right, exists_eq]
    · have hi' : i = xs.length := by omega
      subst hi'
      simp (config := { maxSteps := 4000000 }) only [go_sem, simprocAttr, ↓dnA, Try.f96, rows_length, nlf h]

theorem c_laws_sameBlock (n1 n2 : Option Bool) (b : Block) (hx : b.list.length < 2 ^ 62) : Det Try.prog 30 [.agg (encBk n1 b), .agg (encBk n2 b)] (.bool true) := by
  refine fspec_det tab_ok Try.call30 Try.func30 rfl 66 Try.ntmps30 (of_decide_eq_true rfl) fun B => codeK_sound tab_ok _ _ _ ?_
  obtain ⟨be, he, vi, xs, ro, ef⟩ := b
  dsimp only at hx
  have hne : ((xs.length : Int) != (xs.length : Int)) = false := by simp
  have h1 : (be != be) = false := by simp
  have h2 : (he != he) = false := by simp
  have h3 : (vi != vi) = false := by simp
  have h4 : (ro != ro) = false := by simp
  have h5 : (ef != ef) = false := by simp
  simp (config := { maxSteps := 4000000 }) only [go_sem, simprocAttr, ↓dnA, Try.f30, rows_length, hne, encBk, h1, h2, h3, h4, h5]
  refine semL_for tab_ok (fun i : Nat => ⟨66, [(2, .loc 2 0), (3, .loc 3 0), (5, .int .i64 i)], [(2, .var (encBk n1 ⟨be, he, vi, xs, ro, ef⟩)), (3, .var (encBk n2 ⟨be, he, vi, xs, ro, ef⟩))]⟩) (fun i => xs.length - i)
    (fun i => i ≤ xs.length) 0 [(2, 2), (3, 3)] (Weak.of (by rfl) ?_ ?_ (by rfl)) (by omega) ?_
  · simp (config := { maxSteps := 4000000 }) only [go_sem, simprocAttr, ↓dnA, Try.f30, rows_length, encBk, frW, wk2, wk1, wkL, wkB, hpW, List.mem_cons, Prod.mk.injEq, exists_eq_left, exists_eq_right, exists_eq]
    try rfl
  · simp (config := { maxSteps := 4000000 }) only [go_sem, simprocAttr, ↓dnA, Try.f30, rows_length, encBk, frW, wk2, wk1, wkL, wkB, hpW, List.mem_cons, Prod.mk.injEq, exists_eq_left, exists_eq_right, exists_eq]
    try rfl
  · rintro i hi
    by_cases h : i < xs.length
    · have hw : IntKind.i64.wrap ((i : Int) + 1) = ((i + 1 : Nat) : Int) := wsucc h (by omega)
      simp (config := { maxSteps := 4000000 }) only [go_sem, simprocAttr, ↓dnA, Try.f30, rows_length, encBk, nlt h, h, rows_get _ _ _ h, encA, nn0, hw]
      refine semL_draw tab_ok mixed_ rfl (ord := [(0, []), (1, []), (2, []), (3, []), (4, []), (5, []), (6, []), (7, []), (8, []), (9, []), (10, [])]) (by dsimp only; decide +kernel) ?_
      simp (config := { maxSteps := 4000000 }) only [go_sem, simprocAttr, ↓dnA, Try.f30, rows_length, encBk, nlt h, h, rows_get _ _ _ h, encA, nn0, hw]
      simp only [eqCellsK, BEq.rfl, Bool.and_true, Bool.not_true, Bool.false_eq_true, false_implies, true_implies, true_and, forall_const]
      refine ⟨i + 1, [(2, 2), (3, 3)], by omega, by dsimp only; omega, Weak.of (by rfl) ?_ ?_ (by rfl)⟩
      · simp (config := { maxSteps := 4000000 }) only [go_sem, simprocAttr, ↓dnA, Try.f30, rows_length, encBk, frW, wk2, wk1, wkL, wkB, hpW, List.mem_cons, Prod.mk.injEq, exists_eq_left, exists_eq_right, exists_eq]
        try rfl
      · simp (config := { maxSteps := 4000000 }) only [go_sem, simprocAttr, ↓dnA, Try.f30, rows_length, encBk, frW, wk2, wk1, wkL, wkB, hpW, List.mem_cons, Prod.mk.injEq, exists_eq_left, exists_eq_right, exists_eq]
        try rfl
    · have hi' : i = xs.length := by omega
      subst hi'
      simp (config := { maxSteps := 4000000 }) only [go_sem, simprocAttr, ↓dnA, Try.f30, rows_length, encBk, nlf h]

theorem c_laws_sameTree (n1 n2 n3 m1 m2 m3 : Option Bool) (t : Tree) (hx : TreeSz t) : Det Try.prog 37 [.agg (encT n1 n2 n3 t), .agg (encT m1 m2 m3 t)] (.bool true) := by
  refine fspec_det tab_ok Try.call37 Try.func37 rfl 48 Try.ntmps37 (of_decide_eq_true rfl) fun B => codeK_sound tab_ok _ _ _ ?_
  have hx1 := hx.base
  have hx2 := hx.blocks
  have hx3 := hx.before
  have hne : ((t.blocks.length : Int) != (t.blocks.length : Int)) = false := by simp
  simp (config := { maxSteps := 4000000 }) only [go_sem, simprocAttr, ↓dnA, Try.f37, rows_length, encT]
  refine CallTo.det (c_laws_sameStore n1 m1 t.base hx1) fun _ => ?_
  simp (config := { maxSteps := 4000000 }) only [go_sem, simprocAttr, ↓dnA, Try.f37, rows_length, encT]
  refine CallTo.det (c_laws_sameInts n3 m3 t.before hx3) fun _ => ?_
  simp (config := { maxSteps := 4000000 }) only [go_sem, simprocAttr, ↓dnA, Try.f37, rows_length, encT, hne]
  refine semL_for tab_ok (fun i : Nat => ⟨48, [(2, .loc 2 0), (3, .loc 3 0), (5, .int .i64 i)], [(2, .var (encT n1 n2 n3 t)), (3, .var (encT m1 m2 m3 t))]⟩) (fun i => t.blocks.length - i)
    (fun i => i ≤ t.blocks.length) 0 [(2, 2), (3, 3)] (Weak.of (by rfl) ?_ ?_ (by rfl)) (by omega) ?_
  · simp (config := { maxSteps := 4000000 }) only [go_sem, simprocAttr, ↓dnA, Try.f37, rows_length, encT, frW, wk2, wk1, wkL, wkB, hpW, List.mem_cons, Prod.mk.injEq, exists_eq_left, exists_eq_right, exists_eq]
    try rfl
  · simp (config := { maxSteps := 4000000 }) only [go_sem, simprocAttr, ↓dnA, Try.f37, rows_length, encT, frW, wk2, wk1, wkL, wkB, hpW, List.mem_cons, Prod.mk.injEq, exists_eq_left, exists_eq_right, exists_eq]
    try rfl
  · rintro i hi
    by_cases h : i < t.blocks.length
    · have hw : IntKind.i64.wrap ((i : Int) + 1) = ((i + 1 : Nat) : Int) := wsucc h (by omega)
      simp (config := { maxSteps := 4000000 }) only [go_sem, simprocAttr, ↓dnA, Try.f37, rows_length, encT, nlt h, h, rows_get _ _ _ h, encB1, encBk, nn0, hw]
      refine semL_draw tab_ok mixed_ rfl (ord := [(0, []), (1, []), (2, []), (3, []), (4, []), (5, []), (6, []), (7, []), (8, []), (9, []), (10, []), (11, [])]) (by dsimp only; decide +kernel) ?_
      simp (config := { maxSteps := 4000000 }) only [go_sem, simprocAttr, ↓dnA, Try.f37, rows_length, encT, nlt h, h, rows_get _ _ _ h, encB1, encBk, nn0, hw]
      refine CallTo.det (c_laws_sameBlock none none t.blocks[i] (hx.list _ (List.getElem_mem h))) fun _ => ?_
      simp (config := { maxSteps := 4000000 }) only [go_sem, simprocAttr, ↓dnA, Try.f37, rows_length, encT, nlt h, h, rows_get _ _ _ h, encB1, encBk, nn0, hw]
      refine ⟨i + 1, [(2, 2), (3, 3)], by omega, by dsimp only; omega, Weak.of (by rfl) ?_ ?_ (by rfl)⟩
      · simp (config := { maxSteps := 4000000 }) only [go_sem, simprocAttr, ↓dnA, Try.f37, rows_length, encT, frW, wk2, wk1, wkL, wkB, hpW, List.mem_cons, Prod.mk.injEq, exists_eq_left, exists_eq_right, exists_eq]
        try rfl
      · simp (config := { maxSteps := 4000000 }) only [go_sem, simprocAttr, ↓dnA, Try.f37, rows_length, encT, frW, wk2, wk1, wkL, wkB, hpW, List.mem_cons, Prod.mk.injEq, exists_eq_left, exists_eq_right, exists_eq]
        try rfl
    · have hi' : i = t.blocks.length := by omega
      subst hi'
      simp (config := { maxSteps := 4000000 }) only [go_sem, simprocAttr, ↓dnA, Try.f37, rows_length, encT, nlf h]

noncomputable def findBlock (t : Tree) (sum : Int) : Int := if treeValid t = true then (if sum < 0 then -1 else findB t.blocks sum) else -1
theorem c_impl_FindBlock (n1 n2 n3 : Option Bool) (t : Tree) (sum : Int) (hx : TreeSz t) : Det Try.prog 39 [.agg (encT n1 n2 n3 t), .int .i64 sum] (.int .i64 (findBlock t sum)) := by
  refine fspec_det tab_ok Try.call39 Try.func39 rfl 15 Try.ntmps39 (of_decide_eq_true rfl) fun B => codeK_sound tab_ok _ _ _ ?_
  unfold findBlock
  simp (config := { maxSteps := 4000000 }) only [go_sem, simprocAttr, ↓dnA, Try.f39, rows_length, encT]
  refine CallTo.det (c_impl_BlockTreeValid n1 n2 n3 t hx) fun _ => ?_
  cases h0 : treeValid t with
  | false => simp (config := { maxSteps := 4000000 }) only [go_sem, simprocAttr, ↓dnA, Try.f39, rows_length, encT, h0]
  | true =>
    by_cases hs : sum < 0
    · simp (config := { maxSteps := 4000000 }) only [go_sem, simprocAttr, ↓dnA, Try.f39, rows_length, encT, h0, decide_eq_true hs, if_pos hs]
    · simp (config := { maxSteps := 4000000 }) only [go_sem, simprocAttr, ↓dnA, Try.f39, rows_length, encT, h0, decide_eq_false hs, if_neg hs]
      refine CallTo.det (c_impl_find n1 n2 n3 t sum hx) fun _ => ?_
      simp (config := { maxSteps := 4000000 }) only [go_sem, simprocAttr, ↓dnA, Try.f39, rows_length, encT, h0, decide_eq_false hs, if_neg hs]

theorem c_impl_BlockRight (n n1 : Option Bool) (b : Block) (s : List Entry) (hb : b.list.length < 2 ^ 32) (hs : s.length < 2 ^ 32) :
    Det Try.prog 32 [.agg (encBk n b), .sl n1 (rows encE s)] (.bool (blockRight b s)) := by
  refine fspec_det tab_ok Try.call32 Try.func32 rfl 34 Try.ntmps32 (of_decide_eq_true rfl) fun B => codeK_sound tab_ok _ _ _ ?_
  unfold blockRight
  simp (config := { maxSteps := 4000000 }) only [go_sem, simprocAttr, ↓dnA, Try.f32, rows_length, encBk]
  refine CallTo.det (c_impl_BlockValid n b (by omega)) fun _ => ?_
  cases h1 : blockValid b with
  | false => simp (config := { maxSteps := 4000000 }) only [go_sem, simprocAttr, ↓dnA, Try.f32, rows_length, encBk, h1]
  | true =>
    obtain ⟨b1, b2, b3⟩ := blockValid_bd h1
    have h5 : actionsValid b.list = true := by
      unfold blockValid at h1
      simp only [Bool.and_eq_true] at h1
      exact h1.2
    simp (config := { maxSteps := 4000000 }) only [go_sem, simprocAttr, ↓dnA, Try.f32, rows_length, encBk, h1]
    refine CallTo.det (c_impl_StoreValid n1 s (by omega)) fun _ => ?_
    cases h3 : storeValid s with
    | false => simp (config := { maxSteps := 4000000 }) only [go_sem, simprocAttr, ↓dnA, Try.f32, rows_length, encBk, h1, h3]
    | true =>
      obtain ⟨r1, r2, r3⟩ := runSerial_ok h3 h5
      obtain ⟨_, h10⟩ := actionsValid_ok h5
      have r4 := store_len r1
      simp (config := { maxSteps := 4000000 }) only [go_sem, simprocAttr, ↓dnA, Try.f32, rows_length, encBk, h1, h3]
      refine CallTo.det (c_impl_RunSerial n1 n s b.list hs hb) fun _ => ?_
      generalize runSerial s b.list = p at r1 r2 r3 r4
      obtain ⟨s', es⟩ := p
      dsimp only at r1 r2 r3 r4 ⊢
      obtain ⟨z6, h6⟩ : ∃ z, (b.root == rootOf s') = z := ⟨_, rfl⟩
      obtain ⟨z7, h7⟩ : ∃ z, (b.effects == effectsSum es) = z := ⟨_, rfl⟩
      simp (config := { maxSteps := 4000000 }) only [go_sem, simprocAttr, ↓dnA, Try.f32, rows_length, encBk, h1, h3]
      refine semL_draw tab_ok mixed_ rfl (ord := [(0, []), (1, []), (2, []), (3, [0, 1]), (4, []), (5, []), (6, []), (7, []), (8, []), (9, [6, 7]), (10, []), (11, []), (12, [])]) (by dsimp only; decide +kernel) ?_
      simp (config := { maxSteps := 4000000 }) only [go_sem, simprocAttr, ↓dnA, Try.f32, rows_length, encBk, h1, h3]
      refine CallTo.det (c_impl_RootOf none s' (by omega)) fun _ => ?_
      cases z6 with
      | false => simp (config := { maxSteps := 4000000 }) only [go_sem, simprocAttr, ↓dnA, Try.f32, rows_length, encBk, h1, h3, h6]
      | true =>
        simp (config := { maxSteps := 4000000 }) only [go_sem, simprocAttr, ↓dnA, Try.f32, rows_length, encBk, h1, h3, h6]
        refine CallTo.det (c_impl_EffectsSum none es (by omega) r3) fun _ => ?_
        simp (config := { maxSteps := 4000000 }) only [go_sem, simprocAttr, ↓dnA, Try.f32, rows_length, encBk, h1, h3, h6, h7]

end Go.Proofs.Ytmibclbinebnjaa

/- Contracts: drawn trees. -/
set_option linter.unusedSimpArgs false
set_option linter.unusedVariables false
set_option maxRecDepth 20000
set_option maxHeartbeats 4000000
namespace Go.Proofs.Ytmibclbinebnjaa
open Go Go.RowKit

theorem putBlock_le {t : Tree} (ht : TreeOk t) (b : Block) : t.blocks.length ≤ (putBlock t b).1.blocks.length := by
  unfold putBlock
  rw [if_pos (treeValid_true ht)]
  split
  · show _ ≤ (putT t b).blocks.length
    simp [putT]
  · exact Nat.le_refl _
theorem growTree_le {t : Tree} (ht : TreeOk t) (n v : Int) (l : List Action) : t.blocks.length ≤ (growTree t n v l).1.blocks.length := by
  unfold growTree
  rw [if_pos (treeValid_true ht)]
  split
  · split
    · exact putBlock_le ht _
    · exact Nat.le_refl _
  · exact Nat.le_refl _

theorem storeOf_le (t : Tree) (n : Int) : (storeOf t n).length ≤ 32 := by
  unfold storeOf
  split
  · rename_i h
    rw [Bool.and_eq_true] at h
    have hn := inB_iff.1 h.2
    exact store_len (storeL_valid (afterV_ok (treeOk_of h.1) (n := n) (by omega)))
  · simp

theorem lsum_set : ∀ (bs : List Block) (k : Nat) (b : Block) (h : k < bs.length), b.list.length = (bs[k]'h).list.length → lsum (bs.set k b) = lsum bs
  | c :: r, 0, b, h, e => by
    show b.list.length + lsum r = c.list.length + lsum r
    rw [e]; rfl
  | c :: r, k + 1, b, h, e => by
    show c.list.length + lsum (r.set k b) = c.list.length + lsum r
    rw [lsum_set r k b (by simpa using h) (by simpa using e)]

def encTM (t : Tree) : List AV := [.osl false 2 (rows encE t.base), .sl none (rows encB1 t.blocks), .osl false 1 (rows encI t.before)]
def TreeQ (nb : Option Bool) (bs : List Int) (p : Int) (r : AV) (b : List AV) : Prop := ∃ (t : Tree) (q : Int), r = .agg (encTM t) ∧ b = rd nb bs q ∧ p ≤ q ∧ q ≤ p + 5000 ∧ tsz t ≤ 300 ∧ 1 ≤ t.blocks.length ∧ t.blocks.length ≤ 14

theorem c_spec_l20Tree (nb : Option Bool) (bs : List Int) (p n : Int) (h : RdOk bs p) (hp : p ≤ 999980000) (hn : 0 ≤ n ∧ n ≤ 1000000) : FSpec Try.prog 91 [.loc 0 0, .int .i64 n] true (rd nb bs p) (TreeQ nb bs p) := by
  refine fspec_rel tab_ok Try.call91 Try.func91 rfl 137 Try.ntmps91 (of_decide_eq_true rfl) fun B => codeK_sound tab_ok _ _ _ ?_
  unfold rd
  simp (config := { maxSteps := 4000000 }) only [go_sem, simprocAttr, ↓dnA, Try.f91, rows_length]
  refine CallTo.of (c_spec_l20Store0 nb bs p h (by omega)) ?_
  rintro r b ⟨s, p1, rfl, rfl, hp1, hp2, hsv⟩
  unfold rd
  simp (config := { maxSteps := 4000000 }) only [go_sem, simprocAttr, ↓dnA, Try.f91, rows_length]
  refine CallTo.det (c_spec_TreeOf _ s hsv) fun _ => ?_
  have ht0 := treeOf_ok hsv
  generalize treeOf s = t0 at ht0
  have hr1 := h.step (q := p1) (by omega) (by omega)
  simp (config := { maxSteps := 4000000 }) only [go_sem, simprocAttr, ↓dnA, Try.f91, rows_length, encTF]
  refine CallTo.of (c_spec_pick nb bs p1 8 hr1) ?_
  rintro r b ⟨x, rfl, rfl, hx⟩
  unfold rd
  simp (config := { maxSteps := 4000000 }) only [go_sem, simprocAttr, ↓dnA, Try.f91, rows_length, encTF]
  obtain ⟨c0, rfl⟩ : ∃ c0 : Nat, x = (c0 : Int) := ⟨x.toNat, by omega⟩
  refine semL_ghostX ?_
  refine semL_for tab_ok (fun s : Tree × Nat × Int × Bool => ⟨137, [(0, .loc 900 0), (1, .int .i64 n), (4, .loc 4 0), (5, .loc 5 0), (6, .int .i64 s.2.1)],
      [(900, .var (rd nb bs s.2.2.1)), (4, .var [.sl (some false) [], .sl (some false) [], .sl (some false) []]), (5, .var [.row 601 s.1.base.length, .row 602 s.1.blocks.length, .row 603 s.1.before.length]),
        (601, .row true false 2 (rows encE s.1.base)), (602, .row s.2.2.2 false 6 (rows encB1 s.1.blocks)), (603, .row true false 1 (rows encI s.1.before))]⟩) (fun s => s.2.1)
    (fun s => TreeOk s.1 ∧ p1 + 1 ≤ s.2.2.1 ∧ s.2.2.1 + 500 * s.2.1 ≤ p1 + 3501) (t0, c0, p1 + 1, true) [(900, 900), (4, 4), (5, 5), (15000, 601), (15001, 602), (15002, 603)] (Weak.of (by rfl) ?_ ?_ (by rfl)) ⟨ht0, by dsimp only; omega, by dsimp only; omega⟩ ?_
  · simp (config := { maxSteps := 4000000 }) only [go_sem, simprocAttr, ↓dnA, Try.f91, rows_length, rd, encTF, frW, wk2, wk1, wkL, wkB, hpW, List.mem_cons, Prod.mk.injEq, exists_eq_left, exists_eq_right, exists_eq]
    try rfl
  · simp (config := { maxSteps := 4000000 }) only [go_sem, simprocAttr, ↓dnA, Try.f91, rows_length, rd, frW, wk2, wk1, wkL, wkB, hpW, List.mem_cons, Prod.mk.injEq, exists_eq_left, exists_eq_right, exists_eq]
    try rfl
  · rintro ⟨t, c, q, o⟩ ⟨ht, i2, i3⟩
    dsimp only at ht i2 i3 ⊢
    have hq := h.step (q := q) (by omega) (by omega)
    have hlen := ht.len
    have hbf := ht.bef
    by_cases hc : 0 < c
    · have hd : decide ((c : Int) > 0) = true := by simp; omega
      have hwc : IntKind.i64.wrap ((c : Int) - 1) = ((c - 1 : Nat) : Int) := by rw [wrap_small _ (by omega) (by omega)]; omega
      have hwl : IntKind.i64.wrap ((t.blocks.length : Int) - 1) = ((t.blocks.length - 1 : Nat) : Int) := by rw [wrap_small _ (by omega) (by omega)]; omega
      simp (config := { maxSteps := 4000000 }) only [go_sem, simprocAttr, ↓dnA, Try.f91, rows_length, encTF, rd, hd, hwl]
      refine semL_ghost (t := ⟨137, [(0, .loc 900 0), (1, .int .i64 n), (4, .loc 4 0), (5, .loc 5 0), (6, .int .i64 c)],
        [(900, .var (rd nb bs q)), (4, .var [.sl (some false) [], .sl (some false) [], .sl (some false) []]), (5, .var [.row 601 t.base.length, .row 602 t.blocks.length, .row 603 t.before.length]),
        (601, .row true false 2 (rows encE t.base)), (602, .row false false 6 (rows encB1 t.blocks)), (603, .row true false 1 (rows encI t.before))]⟩) ?_ ?_
      · cases o with
        | false =>
          refine Ghost.weak (ρ := [(900, 900), (4, 4), (5, 5), (601, 601), (602, 602), (603, 603)]) (Weak.of (by rfl) ?_ ?_ (by rfl))
          · simp (config := { maxSteps := 4000000 }) only [go_sem, simprocAttr, ↓dnA, Try.f91, rows_length, rd, encTF, frW, wk2, wk1, wkL, wkB, hpW, List.mem_cons, Prod.mk.injEq, exists_eq_left, exists_eq_right, exists_eq]
            try rfl
          · simp (config := { maxSteps := 4000000 }) only [go_sem, simprocAttr, ↓dnA, Try.f91, rows_length, rd, frW, wk2, wk1, wkL, wkB, hpW, List.mem_cons, Prod.mk.injEq, exists_eq_left, exists_eq_right, exists_eq]
            try rfl
        | true =>
          refine (Ghost.disown 602 (nn := false) (sz := 6) (es := rows encB1 t.blocks) (by rfl)).trans (Ghost.weak (ρ := [(900, 900), (4, 4), (5, 5), (601, 601), (602, 602), (603, 603)]) (Weak.of (by rfl) ?_ ?_ (by rfl)))
          · simp (config := { maxSteps := 4000000 }) only [go_sem, simprocAttr, ↓dnA, Try.f91, rows_length, rd, encTF, frW, wk2, wk1, wkL, wkB, hpW, List.mem_cons, Prod.mk.injEq, exists_eq_left, exists_eq_right, exists_eq]
            try rfl
          · simp (config := { maxSteps := 4000000 }) only [go_sem, simprocAttr, ↓dnA, Try.f91, rows_length, rd, frW, wk2, wk1, wkL, wkB, hpW, List.mem_cons, Prod.mk.injEq, exists_eq_left, exists_eq_right, exists_eq]
            try rfl
      refine semL_mid (fun a : Nat × Int => ⟨137, [(0, .loc 900 0), (1, .int .i64 n), (4, .loc 4 0), (5, .loc 5 0), (6, .int .i64 c), (7, .int .i64 (a.1 : Nat))],
        [(900, .var (rd nb bs a.2)), (4, .var [.sl (some false) [], .sl (some false) [], .sl (some false) []]), (5, .var [.row 601 t.base.length, .row 602 t.blocks.length, .row 603 t.before.length]),
        (601, .row true false 2 (rows encE t.base)), (602, .row false false 6 (rows encB1 t.blocks)), (603, .row true false 1 (rows encI t.before))]⟩) (fun a => a.1 < t.blocks.length ∧ q ≤ a.2 ∧ a.2 ≤ q + 2) ?_ ?_
      · refine semL_two' tab_ok 9 11 mixed_ rfl (by decide) (ord1 := [(0, []), (1, []), (2, []), (3, []), (4, []), (5, []), (6, []), (7, []), (10, []), (8, [0, 1, 2, 3, 10]), (9, [10]), (11, []), (12, []), (13, []), (14, []), (15, [])]) (ord2 := [(0, []), (1, []), (2, []), (3, []), (4, []), (5, []), (6, []), (7, []), (10, []), (8, [0, 1, 2, 3, 10]), (11, [0, 1, 2, 3]), (12, []), (9, [12]), (13, []), (14, []), (15, [])]) (by dsimp only; decide +kernel) (by dsimp only; decide +kernel) ?_
        refine ⟨?_, ?_⟩
        all_goals
          simp (config := { maxSteps := 4000000 }) only [go_sem, simprocAttr, ↓dnA, Try.f91, rows_length, encTF, rd, hd, hwl]
          refine CallTo.of (c_spec_pick nb bs q (t.blocks.length : Int) hq) ?_
          rintro r b ⟨m, rfl, rfl, hm⟩
          have hq1 := h.step (q := q + 1) (by omega) (by omega)
          obtain ⟨m, rfl⟩ : ∃ k : Nat, m = (k : Int) := ⟨m.toNat, by omega⟩
          simp (config := { maxSteps := 4000000 }) only [go_sem, simprocAttr, ↓dnA, Try.f91, rows_length, encTF, rd, hd, hwl]
          refine CallTo.of (c_spec_pick nb bs (q + 1) 4 hq1) ?_
          rintro r b ⟨x, rfl, rfl, hx⟩
          have hx3 : x.tdiv 3 = 0 ∨ x.tdiv 3 = 1 := by rw [Int.tdiv_eq_ediv_of_nonneg hx.1]; omega
          rcases hx3 with e | e
          · simp (config := { maxSteps := 4000000 }) only [go_sem, simprocAttr, ↓dnA, Try.f91, rows_length, encTF, rd, hd, hwl, e, wr0, wr1, tn0, tn1]
            refine ⟨(t.blocks.length - 1, q + 1 + 1), [(900, 900), (4, 4), (5, 5), (601, 601), (602, 602), (603, 603)], ⟨by dsimp only; omega, by dsimp only; omega, by dsimp only; omega⟩, Weak.of (by rfl) ?_ ?_ (by rfl)⟩
            · simp (config := { maxSteps := 4000000 }) only [go_sem, simprocAttr, ↓dnA, Try.f91, rows_length, rd, encTF, frW, wk2, wk1, wkL, wkB, hpW, List.mem_cons, Prod.mk.injEq, exists_eq_left, exists_eq_right, exists_eq]
              try rfl
            · simp (config := { maxSteps := 4000000 }) only [go_sem, simprocAttr, ↓dnA, Try.f91, rows_length, rd, frW, wk2, wk1, wkL, wkB, hpW, List.mem_cons, Prod.mk.injEq, exists_eq_left, exists_eq_right, exists_eq]
              try rfl
          · simp (config := { maxSteps := 4000000 }) only [go_sem, simprocAttr, ↓dnA, Try.f91, rows_length, encTF, rd, hd, hwl, e, wr0, wr1, tn0, tn1]
            refine ⟨(m, q + 1 + 1), [(900, 900), (4, 4), (5, 5), (601, 601), (602, 602), (603, 603)], ⟨by dsimp only; omega, by dsimp only; omega, by dsimp only; omega⟩, Weak.of (by rfl) ?_ ?_ (by rfl)⟩
            · simp (config := { maxSteps := 4000000 }) only [go_sem, simprocAttr, ↓dnA, Try.f91, rows_length, rd, encTF, frW, wk2, wk1, wkL, wkB, hpW, List.mem_cons, Prod.mk.injEq, exists_eq_left, exists_eq_right, exists_eq]
              try rfl
            · simp (config := { maxSteps := 4000000 }) only [go_sem, simprocAttr, ↓dnA, Try.f91, rows_length, rd, frW, wk2, wk1, wkL, wkB, hpW, List.mem_cons, Prod.mk.injEq, exists_eq_left, exists_eq_right, exists_eq]
              try rfl
      rintro ⟨k, q2⟩ ⟨hk, hq2, hq2'⟩
      dsimp only at hk hq2 hq2' ⊢
      have hbk : (rows encB1 t.blocks).getD k [] = encB1 (t.blk k) := rows_gd encB1 t.blocks k hk
      have hr2 := h.step (q := q2) (by omega) (by omega)
      simp (config := { maxSteps := 4000000 }) only [go_sem, simprocAttr, ↓dnA, Try.f91, rows_length, encTF, rd, hd, hwl]
      refine semL_mid (fun a : Int × Int => ⟨137, [(0, .loc 900 0), (1, .int .i64 n), (4, .loc 4 0), (5, .loc 5 0), (6, .int .i64 c), (7, .int .i64 k), (8, .int .i64 a.1)],
        [(900, .var (rd nb bs a.2)), (4, .var [.sl (some false) [], .sl (some false) [], .sl (some false) []]), (5, .var [.row 601 t.base.length, .row 602 t.blocks.length, .row 603 t.before.length]),
        (601, .row true false 2 (rows encE t.base)), (602, .row false false 6 (rows encB1 t.blocks)), (603, .row true false 1 (rows encI t.before))]⟩) (fun a => q2 ≤ a.2 ∧ a.2 ≤ q2 + 1) ?_ ?_
      · refine semL_two' tab_ok 6 8 mixed_ rfl (by decide) (ord1 := [(0, []), (1, []), (2, []), (3, []), (4, []), (5, []), (7, []), (6, [0, 1, 2, 3, 4, 5, 7]), (8, [0, 1, 2, 3, 4, 5]), (9, []), (10, []), (11, []), (12, [])]) (ord2 := [(0, []), (1, []), (2, []), (3, []), (4, []), (5, []), (7, []), (8, [0, 1, 2, 3, 4, 5]), (6, [0, 1, 2, 3, 4, 5]), (9, []), (10, []), (11, []), (12, [])]) (by dsimp only; decide +kernel) (by dsimp only; decide +kernel) ?_
        refine ⟨?_, ?_⟩
        all_goals
          simp (config := { maxSteps := 4000000 }) only [go_sem, simprocAttr, ↓dnA, Try.f91, rows_length, encTF, rd, hd, hwl, nlt hk, hk, nn0, hbk, encB1, encBk]
          refine CallTo.of (c_spec_pick nb bs q2 4 hr2) ?_
          rintro r b ⟨x, rfl, rfl, hx⟩
          have hx4 : x = 0 ∨ x = 1 ∨ x = 2 ∨ x = 3 := by omega
          rcases hx4 with rfl | rfl | rfl | rfl
          · simp (config := { maxSteps := 4000000 }) only [go_sem, simprocAttr, ↓dnA, Try.f91, rows_length, encTF, rd, hd, hwl, nlt hk, hk, nn0, hbk, encB1, encBk, tn0, tn1, tn2, tn3]
            refine ⟨(IntKind.i64.wrap ((t.blk k).view + 1), q2 + 1), [(900, 900), (4, 4), (5, 5), (601, 601), (602, 602), (603, 603)], ⟨by dsimp only; omega, by dsimp only; omega⟩, Weak.of (by rfl) ?_ ?_ (by rfl)⟩
            · simp (config := { maxSteps := 4000000 }) only [go_sem, simprocAttr, ↓dnA, Try.f91, rows_length, rd, encTF, frW, wk2, wk1, wkL, wkB, hpW, List.mem_cons, Prod.mk.injEq, exists_eq_left, exists_eq_right, exists_eq]
              try rfl
            · simp (config := { maxSteps := 4000000 }) only [go_sem, simprocAttr, ↓dnA, Try.f91, rows_length, rd, frW, wk2, wk1, wkL, wkB, hpW, List.mem_cons, Prod.mk.injEq, exists_eq_left, exists_eq_right, exists_eq]
              try rfl
          · simp (config := { maxSteps := 4000000 }) only [go_sem, simprocAttr, ↓dnA, Try.f91, rows_length, encTF, rd, hd, hwl, nlt hk, hk, nn0, hbk, encB1, encBk, tn0, tn1, tn2, tn3]
            refine ⟨(IntKind.i64.wrap ((t.blk k).view + 1), q2 + 1), [(900, 900), (4, 4), (5, 5), (601, 601), (602, 602), (603, 603)], ⟨by dsimp only; omega, by dsimp only; omega⟩, Weak.of (by rfl) ?_ ?_ (by rfl)⟩
            · simp (config := { maxSteps := 4000000 }) only [go_sem, simprocAttr, ↓dnA, Try.f91, rows_length, rd, encTF, frW, wk2, wk1, wkL, wkB, hpW, List.mem_cons, Prod.mk.injEq, exists_eq_left, exists_eq_right, exists_eq]
              try rfl
            · simp (config := { maxSteps := 4000000 }) only [go_sem, simprocAttr, ↓dnA, Try.f91, rows_length, rd, frW, wk2, wk1, wkL, wkB, hpW, List.mem_cons, Prod.mk.injEq, exists_eq_left, exists_eq_right, exists_eq]
              try rfl
          · simp (config := { maxSteps := 4000000 }) only [go_sem, simprocAttr, ↓dnA, Try.f91, rows_length, encTF, rd, hd, hwl, nlt hk, hk, nn0, hbk, encB1, encBk, tn0, tn1, tn2, tn3]
            refine ⟨(IntKind.i64.wrap ((t.blk k).view + 1), q2 + 1), [(900, 900), (4, 4), (5, 5), (601, 601), (602, 602), (603, 603)], ⟨by dsimp only; omega, by dsimp only; omega⟩, Weak.of (by rfl) ?_ ?_ (by rfl)⟩
            · simp (config := { maxSteps := 4000000 }) only [go_sem, simprocAttr, ↓dnA, Try.f91, rows_length, rd, encTF, frW, wk2, wk1, wkL, wkB, hpW, List.mem_cons, Prod.mk.injEq, exists_eq_left, exists_eq_right, exists_eq]
              try rfl
            · simp (config := { maxSteps := 4000000 }) only [go_sem, simprocAttr, ↓dnA, Try.f91, rows_length, rd, frW, wk2, wk1, wkL, wkB, hpW, List.mem_cons, Prod.mk.injEq, exists_eq_left, exists_eq_right, exists_eq]
              try rfl
          · simp (config := { maxSteps := 4000000 }) only [go_sem, simprocAttr, ↓dnA, Try.f91, rows_length, encTF, rd, hd, hwl, nlt hk, hk, nn0, hbk, encB1, encBk, tn0, tn1, tn2, tn3]
            refine ⟨(IntKind.i64.wrap ((t.blk k).view + 2), q2 + 1), [(900, 900), (4, 4), (5, 5), (601, 601), (602, 602), (603, 603)], ⟨by dsimp only; omega, by dsimp only; omega⟩, Weak.of (by rfl) ?_ ?_ (by rfl)⟩
            · simp (config := { maxSteps := 4000000 }) only [go_sem, simprocAttr, ↓dnA, Try.f91, rows_length, rd, encTF, frW, wk2, wk1, wkL, wkB, hpW, List.mem_cons, Prod.mk.injEq, exists_eq_left, exists_eq_right, exists_eq]
              try rfl
            · simp (config := { maxSteps := 4000000 }) only [go_sem, simprocAttr, ↓dnA, Try.f91, rows_length, rd, frW, wk2, wk1, wkL, wkB, hpW, List.mem_cons, Prod.mk.injEq, exists_eq_left, exists_eq_right, exists_eq]
              try rfl
      rintro ⟨v, q3⟩ ⟨hq3, hq3'⟩
      dsimp only at hq3 hq3' ⊢
      have hr3 := h.step (q := q3) (by omega) (by omega)
      simp (config := { maxSteps := 4000000 }) only [go_sem, simprocAttr, ↓dnA, Try.f91, rows_length, encTF, rd, hd, hwl]
      refine semL_draw tab_ok mixed_ rfl (ord := [(0, []), (1, []), (2, []), (3, []), (4, [0, 1, 2]), (5, []), (6, []), (7, []), (8, []), (9, [8])]) (by dsimp only; decide +kernel) ?_
      simp (config := { maxSteps := 4000000 }) only [go_sem, simprocAttr, ↓dnA, Try.f91, rows_length, encTF, rd, hd, hwl]
      refine CallTo.of (c_spec_l20Actions nb bs q3 0 hr3 (by omega) (by omega)) ?_
      rintro r b ⟨l, q4, rfl, rfl, hq4, hq4', hll⟩
      have hr4 := h.step (q := q4) (by omega) (by omega)
      have hgo := growTree_ok ht (k : Int) v l
      have hgl := growTree_le ht (k : Int) v l
      have hG := c_spec_GrowTree none none none (some true) t (k : Int) v l (treeOk_s32 ht) (by omega)
      generalize growTree t (k : Int) v l = g at hgo hG hgl
      obtain ⟨g, ok⟩ := g
      dsimp only at hgo hG hgl
      simp (config := { maxSteps := 4000000 }) only [go_sem, simprocAttr, ↓dnA, Try.f91, rows_length, encTF, rd, hd, hwl]
      refine CallTo.det hG fun _ => ?_
      simp (config := { maxSteps := 4000000 }) only [go_sem, simprocAttr, ↓dnA, Try.f91, rows_length, encTF, rd, hd, hwl]
      refine CallTo.of (c_spec_odd nb bs q4 9 hr4 (by omega)) ?_
      rintro r b ⟨gg, q5, rfl, rfl, hq5, hq5'⟩
      have hr5 := h.step (q := q5) (by omega) (by omega)
      cases gg with
      | false =>
        simp (config := { maxSteps := 4000000 }) only [go_sem, simprocAttr, ↓dnA, Try.f91, rows_length, encTF, rd, hd, hwl, hwc]
        refine ⟨(g, c - 1, q5, true), [(900, 900), (4, 4), (5, 5), (55000, 601), (55001, 602), (55002, 603)], ⟨hgo, by dsimp only; omega, by dsimp only; omega⟩, by dsimp only; omega, Weak.of (by rfl) ?_ ?_ (by rfl)⟩
        · simp (config := { maxSteps := 4000000 }) only [go_sem, simprocAttr, ↓dnA, Try.f91, rows_length, rd, encTF, frW, wk2, wk1, wkL, wkB, hpW, List.mem_cons, Prod.mk.injEq, exists_eq_left, exists_eq_right, exists_eq]
          try rfl
        · simp (config := { maxSteps := 4000000 }) only [go_sem, simprocAttr, ↓dnA, Try.f91, rows_length, rd, frW, wk2, wk1, wkL, wkB, hpW, List.mem_cons, Prod.mk.injEq, exists_eq_left, exists_eq_right, exists_eq]
          try rfl
      | true =>
        by_cases hg1 : 1 < g.blocks.length
        · have hdl : decide ((g.blocks.length : Int) > 1) = true := by simp; omega
          have hkg : k < g.blocks.length := by omega
          have hbg : (rows encB1 g.blocks).getD k [] = encB1 (g.blk k) := rows_gd encB1 g.blocks k hkg
          have hsl := storeOf_le g (k : Int)
          have hll2 := (blk_acts hgo hkg).2.1
          have hS := c_spec_StoreOf none none none g (k : Int) (treeOk_s32 hgo)
          generalize storeOf g (k : Int) = so at hsl hS
          simp (config := { maxSteps := 4000000 }) only [go_sem, simprocAttr, ↓dnA, Try.f91, rows_length, encTF, rd, hd, hwl, hdl]
          refine semL_ghost (Ghost.disown 55001 (nn := false) (sz := 6) (es := rows encB1 g.blocks) (by rfl)) ?_
          refine semL_draw tab_ok mixed_ rfl (ord := [(0, []), (1, []), (2, []), (3, []), (4, []), (5, []), (6, []), (8, []), (9, []), (7, [0, 1, 2, 3, 4, 8, 9]), (10, [0, 1, 2, 3, 4, 8]), (11, []), (12, []), (13, []), (14, []), (15, [0, 1, 2, 3, 4, 5, 6, 8, 9, 12, 13, 14]), (16, [14]), (17, [])]) (by dsimp only; decide +kernel) ?_
          simp (config := { maxSteps := 4000000 }) only [go_sem, simprocAttr, ↓dnA, Try.f91, rows_length, encTF, rd, hd, hwl, hdl, nlt hkg, hkg, nn0, hbg, encB1, encBk]
          refine CallTo.det hS fun _ => ?_
          simp (config := { maxSteps := 4000000 }) only [go_sem, simprocAttr, ↓dnA, Try.f91, rows_length, encTF, rd, hd, hwl, hdl, nlt hkg, hkg, nn0, hbg, encB1, encBk]
          refine CallTo.of (c_spec_l20Actions nb bs q5 0 hr5 (by omega) (by omega)) ?_
          rintro r b ⟨l2, q6, rfl, rfl, hq6, hq6', hl2⟩
          have hr6 := h.step (q := q6) (by omega) (by omega)
          have hN := c_spec_NextBlock none none (some true) (g.blk k) so v l2 (by omega) (by omega) (by omega)
          have hNl := nextBlock_len (g.blk k) so v l2
          generalize nextBlock (g.blk k) so v l2 = x at hN hNl
          obtain ⟨x, ok2⟩ := x
          dsimp only at hN hNl
          simp (config := { maxSteps := 4000000 }) only [go_sem, simprocAttr, ↓dnA, Try.f91, rows_length, encTF, rd, hd, hwl, hdl, nlt hkg, hkg, nn0, hbg, encB1, encBk]
          refine CallTo.det hN fun _ => ?_
          cases ok2 with
          | false =>
            simp (config := { maxSteps := 4000000 }) only [go_sem, simprocAttr, ↓dnA, Try.f91, rows_length, encTF, rd, hd, hwl, hdl, nlt hkg, hkg, nn0, hbg, encB1, encBk, encBkF, hwc]
            refine ⟨(g, c - 1, q6, false), [(900, 900), (4, 4), (5, 5), (55000, 601), (55001, 602), (55002, 603)], ⟨hgo, by dsimp only; omega, by dsimp only; omega⟩, by dsimp only; omega, Weak.of (by rfl) ?_ ?_ (by rfl)⟩
            · simp (config := { maxSteps := 4000000 }) only [go_sem, simprocAttr, ↓dnA, Try.f91, rows_length, rd, encTF, frW, wk2, wk1, wkL, wkB, hpW, List.mem_cons, Prod.mk.injEq, exists_eq_left, exists_eq_right, exists_eq]
              try rfl
            · simp (config := { maxSteps := 4000000 }) only [go_sem, simprocAttr, ↓dnA, Try.f91, rows_length, rd, frW, wk2, wk1, wkL, wkB, hpW, List.mem_cons, Prod.mk.injEq, exists_eq_left, exists_eq_right, exists_eq]
              try rfl
          | true =>
            simp (config := { maxSteps := 4000000 }) only [go_sem, simprocAttr, ↓dnA, Try.f91, rows_length, encTF, rd, hd, hwl, hdl, nlt hkg, hkg, nn0, hbg, encB1, encBk, encBkF]
            refine CallTo.of (c_spec_pick nb bs q6 256 hr6) ?_
            rintro r b ⟨z, rfl, rfl, hz⟩
            have hpo := putBlock_ok hgo ⟨x.before, x.height, x.view, x.list, z, x.effects⟩
            have hP := c_spec_PutBlock none none none none g ⟨x.before, x.height, x.view, x.list, z, x.effects⟩ (treeOk_s32 hgo) (by dsimp only; omega)
            generalize putBlock g ⟨x.before, x.height, x.view, x.list, z, x.effects⟩ = y at hP hpo
            obtain ⟨y, ok3⟩ := y
            dsimp only at hP hpo
            simp (config := { maxSteps := 4000000 }) only [go_sem, simprocAttr, ↓dnA, Try.f91, rows_length, encTF, rd, hd, hwl, hdl, nlt hkg, hkg, nn0, hbg, encB1, encBk, encBkF]
            refine CallTo.det hP fun _ => ?_
            simp (config := { maxSteps := 4000000 }) only [go_sem, simprocAttr, ↓dnA, Try.f91, rows_length, encTF, rd, hd, hwl, hdl, nlt hkg, hkg, nn0, hbg, encB1, encBk, encBkF, hwc]
            refine ⟨(y, c - 1, q6 + 1, true), [(900, 900), (4, 4), (5, 5), (88000, 601), (88001, 602), (88002, 603)], ⟨hpo, by dsimp only; omega, by dsimp only; omega⟩, by dsimp only; omega, Weak.of (by rfl) ?_ ?_ (by rfl)⟩
            · simp (config := { maxSteps := 4000000 }) only [go_sem, simprocAttr, ↓dnA, Try.f91, rows_length, rd, encTF, frW, wk2, wk1, wkL, wkB, hpW, List.mem_cons, Prod.mk.injEq, exists_eq_left, exists_eq_right, exists_eq]
              try rfl
            · simp (config := { maxSteps := 4000000 }) only [go_sem, simprocAttr, ↓dnA, Try.f91, rows_length, rd, frW, wk2, wk1, wkL, wkB, hpW, List.mem_cons, Prod.mk.injEq, exists_eq_left, exists_eq_right, exists_eq]
              try rfl
        · have hdl : decide ((g.blocks.length : Int) > 1) = false := by simp; omega
          simp (config := { maxSteps := 4000000 }) only [go_sem, simprocAttr, ↓dnA, Try.f91, rows_length, encTF, rd, hd, hwl, hdl, hwc]
          refine ⟨(g, c - 1, q5, true), [(900, 900), (4, 4), (5, 5), (55000, 601), (55001, 602), (55002, 603)], ⟨hgo, by dsimp only; omega, by dsimp only; omega⟩, by dsimp only; omega, Weak.of (by rfl) ?_ ?_ (by rfl)⟩
          · simp (config := { maxSteps := 4000000 }) only [go_sem, simprocAttr, ↓dnA, Try.f91, rows_length, rd, encTF, frW, wk2, wk1, wkL, wkB, hpW, List.mem_cons, Prod.mk.injEq, exists_eq_left, exists_eq_right, exists_eq]
            try rfl
          · simp (config := { maxSteps := 4000000 }) only [go_sem, simprocAttr, ↓dnA, Try.f91, rows_length, rd, frW, wk2, wk1, wkL, wkB, hpW, List.mem_cons, Prod.mk.injEq, exists_eq_left, exists_eq_right, exists_eq]
            try rfl
    · obtain rfl : c = 0 := by omega
      have hts := treeOk_small ht
      simp (config := { maxSteps := 4000000 }) only [go_sem, simprocAttr, ↓dnA, Try.f91, rows_length, encTF, rd]
      refine GhostK.go (⟨137, [(0, .loc 900 0), (1, .int .i64 n), (4, .loc 4 0), (5, .loc 5 0)],
        [(900, .var (rd nb bs q)), (4, .var [.sl (some false) [], .sl (some false) [], .sl (some false) []]), (5, .var [.row 601 t.base.length, .row 602 t.blocks.length, .row 603 t.before.length]),
        (601, .row true false 2 (rows encE t.base)), (602, .row false false 6 (rows encB1 t.blocks)), (603, .row true false 1 (rows encI t.before))]⟩) ?_ ?_
      · cases o with
        | false =>
          refine Ghost.weak (ρ := [(900, 900), (4, 4), (5, 5), (601, 601), (602, 602), (603, 603)]) (Weak.of (by rfl) ?_ ?_ (by rfl))
          · simp (config := { maxSteps := 4000000 }) only [go_sem, simprocAttr, ↓dnA, Try.f91, rows_length, rd, encTF, frW, wk2, wk1, wkL, wkB, hpW, List.mem_cons, Prod.mk.injEq, exists_eq_left, exists_eq_right, exists_eq]
            try rfl
          · simp (config := { maxSteps := 4000000 }) only [go_sem, simprocAttr, ↓dnA, Try.f91, rows_length, rd, frW, wk2, wk1, wkL, wkB, hpW, List.mem_cons, Prod.mk.injEq, exists_eq_left, exists_eq_right, exists_eq]
            try rfl
        | true =>
          refine (Ghost.disown 602 (nn := false) (sz := 6) (es := rows encB1 t.blocks) (by rfl)).trans (Ghost.weak (ρ := [(900, 900), (4, 4), (5, 5), (601, 601), (602, 602), (603, 603)]) (Weak.of (by rfl) ?_ ?_ (by rfl)))
          · simp (config := { maxSteps := 4000000 }) only [go_sem, simprocAttr, ↓dnA, Try.f91, rows_length, rd, encTF, frW, wk2, wk1, wkL, wkB, hpW, List.mem_cons, Prod.mk.injEq, exists_eq_left, exists_eq_right, exists_eq]
            try rfl
          · simp (config := { maxSteps := 4000000 }) only [go_sem, simprocAttr, ↓dnA, Try.f91, rows_length, rd, frW, wk2, wk1, wkL, wkB, hpW, List.mem_cons, Prod.mk.injEq, exists_eq_left, exists_eq_right, exists_eq]
            try rfl
      simp (config := { maxSteps := 4000000 }) only [go_sem, simprocAttr, ↓dnA, Try.f91, rows_length, encTF, rd]
      refine CallTo.of (c_spec_odd nb bs q n hq hn) ?_
      rintro r b ⟨gg, q1, rfl, rfl, hq1, hq1'⟩
      have hr1 := h.step (q := q1) (by omega) (by omega)
      cases gg with
      | false =>
        simp (config := { maxSteps := 4000000 }) only [go_sem, simprocAttr, ↓dnA, Try.f91, rows_length, encTF, rd]
        exact .same ⟨t, q1, by simp [encTM, nnOf], rfl, by omega, by omega, by omega, by omega, by omega⟩
      | true =>
        simp (config := { maxSteps := 4000000 }) only [go_sem, simprocAttr, ↓dnA, Try.f91, rows_length, encTF, rd]
        refine CallTo.of (c_spec_pick nb bs q1 (t.blocks.length : Int) hr1) ?_
        rintro r b ⟨m, rfl, rfl, hm⟩
        have hr2 := h.step (q := q1 + 1) (by omega) (by omega)
        obtain ⟨k, rfl⟩ : ∃ k : Nat, m = (k : Int) := ⟨m.toNat, by omega⟩
        have hk : k < t.blocks.length := by omega
        have hkb : k < t.before.length := by omega
        have hbk : (rows encB1 t.blocks).getD k [] = encB1 (t.blk k) := rows_gd encB1 t.blocks k hk
        simp (config := { maxSteps := 4000000 }) only [go_sem, simprocAttr, ↓dnA, Try.f91, rows_length, encTF, rd]
        refine CallTo.of (c_spec_pick nb bs (q1 + 1) 4 hr2) ?_
        rintro r b ⟨z, rfl, rfl, hz⟩
        have hr3 := h.step (q := q1 + 1 + 1) (by omega) (by omega)
        have hz4 : z = 0 ∨ z = 1 ∨ z = 2 ∨ z = 3 := by omega
        rcases hz4 with rfl | rfl | rfl | rfl
        · simp (config := { maxSteps := 4000000 }) only [go_sem, simprocAttr, ↓dnA, Try.f91, rows_length, encTF, rd]
          refine semL_draw tab_ok mixed_ rfl (ord := [(0, []), (1, []), (2, []), (3, []), (4, []), (5, []), (6, []), (7, []), (8, []), (9, []), (10, []), (11, []), (12, [])]) (by dsimp only; decide +kernel) ?_
          obtain ⟨w, hw⟩ : ∃ w, IntKind.i64.wrap ((t.blk k).height + 1) = w := ⟨_, rfl⟩
          have hrs : (rows encB1 t.blocks).set k [AV.int IntKind.i64 (t.blk k).before, AV.int IntKind.i64 w, AV.int IntKind.i64 (t.blk k).view, AV.sl none (rows encA (t.blk k).list), AV.int IntKind.i64 (t.blk k).root, AV.int IntKind.i64 (t.blk k).effects] = rows encB1 (t.blocks.set k ⟨(t.blk k).before, w, (t.blk k).view, (t.blk k).list, (t.blk k).root, (t.blk k).effects⟩) := rows_set encB1 t.blocks k ⟨(t.blk k).before, w, (t.blk k).view, (t.blk k).list, (t.blk k).root, (t.blk k).effects⟩
          have hls := lsum_set t.blocks k ⟨(t.blk k).before, w, (t.blk k).view, (t.blk k).list, (t.blk k).root, (t.blk k).effects⟩ hk (by rw [t.blk_get k hk])
          simp (config := { maxSteps := 4000000 }) only [go_sem, simprocAttr, ↓dnA, Try.f91, rows_length, encTF, rd, nlt hk, hk, nn0, hbk, encB1, encBk, hw, spliceL, List.length_set, hrs]
          exact .same ⟨⟨t.base, t.blocks.set k ⟨(t.blk k).before, w, (t.blk k).view, (t.blk k).list, (t.blk k).root, (t.blk k).effects⟩, t.before⟩, q1 + 1 + 1, by simp [encTM, nnOf], rfl, by omega, by omega, by unfold tsz at hts ⊢; simp; omega, by simp; omega, by simp; omega⟩
        · simp (config := { maxSteps := 4000000 }) only [go_sem, simprocAttr, ↓dnA, Try.f91, rows_length, encTF, rd]
          refine semL_draw tab_ok mixed_ rfl (ord := [(0, []), (1, []), (2, []), (3, []), (4, [0, 1, 2]), (5, []), (6, []), (7, [])]) (by dsimp only; decide +kernel) ?_
          simp (config := { maxSteps := 4000000 }) only [go_sem, simprocAttr, ↓dnA, Try.f91, rows_length, encTF, rd]
          refine CallTo.of (c_spec_pick nb bs (q1 + 1 + 1) 5 hr3) ?_
          rintro r b ⟨y, rfl, rfl, hy⟩
          obtain ⟨w, hw⟩ : ∃ w, IntKind.i64.wrap (y - 1) = w := ⟨_, rfl⟩
          have hrs : (rows encI t.before).set k [.int .i64 w] = rows encI (t.before.set k w) := by rw [← rows_set]; rfl
          simp (config := { maxSteps := 4000000 }) only [go_sem, simprocAttr, ↓dnA, Try.f91, rows_length, encTF, rd, nlt hkb, hkb, nn0, rows_get _ _ _ hkb, encI, hw, spliceL, List.length_set, hrs]
          exact .same ⟨⟨t.base, t.blocks, t.before.set k w⟩, q1 + 1 + 1 + 1, by simp [encTM, nnOf], rfl, by omega, by omega, by unfold tsz at hts ⊢; simp; omega, by dsimp only; omega, by dsimp only; omega⟩
        · have htk : (rows encI t.before).take t.before.length = rows encI t.before := by rw [List.take_of_length_le]; rw [rows_length]; omega
          have hl : rows encI t.before ++ [[.int .i64 0]] = rows encI (t.before ++ [0]) := by rw [← rows_snoc]; rfl
          simp (config := { maxSteps := 4000000 }) only [go_sem, simprocAttr, ↓dnA, Try.f91, rows_length, encTF, rd, htk, hl]
          repeat refine And.intro (by first | omega | (simp; done) | (simp; omega) | assumption) ?_
          exact ⟨.agg (encTM ⟨t.base, t.blocks, t.before ++ [0]⟩), _, by simp [rwR, rwP, rwL, rwC, encTM, nnOf], rwL_refl _, ⟨_, q1 + 1 + 1, rfl, rfl, by omega, by omega, by unfold tsz at hts ⊢; simp; omega, by dsimp only; omega, by dsimp only; omega⟩⟩
        · have hsl := store_len ht.store
          have htk : (rows encE t.base).take t.base.length = rows encE t.base := by rw [List.take_of_length_le]; rw [rows_length]; omega
          have hl : rows encE t.base ++ [[.int .i64 32, .int .i64 1]] = rows encE (t.base ++ [⟨32, 1⟩]) := by rw [← rows_snoc]; rfl
          simp (config := { maxSteps := 4000000 }) only [go_sem, simprocAttr, ↓dnA, Try.f91, rows_length, encTF, rd, htk, hl]
          repeat refine And.intro (by first | omega | (simp; done) | (simp; omega) | assumption) ?_
          exact ⟨.agg (encTM ⟨t.base ++ [⟨32, 1⟩], t.blocks, t.before⟩), _, by simp [rwR, rwP, rwL, rwC, encTM, nnOf], rwL_refl _, ⟨_, q1 + 1 + 1, rfl, rfl, by omega, by omega, by unfold tsz at hts ⊢; simp; omega, by dsimp only; omega, by dsimp only; omega⟩⟩

end Go.Proofs.Ytmibclbinebnjaa

/- Contracts: drawn trees with blocks; FnPutBlock. -/
set_option linter.unusedSimpArgs false
set_option linter.unusedVariables false
set_option maxRecDepth 20000
set_option maxHeartbeats 4000000
namespace Go.Proofs.Ytmibclbinebnjaa
open Go Go.RowKit

def MidG {ι : Type} (st : ι → AState) (I : ι → Prop) (s : AState) : Prop := ∃ i, I i ∧ Ghost s (st i)
theorem semL_midG {P : Program} {B : Base} {c : Code} {s : AState} {Kx : Exit → AState → Prop} {ι : Type} (st : ι → AState) (I : ι → Prop) (h : @SemL P B c s ⟨fun e s' => e = .normal ∧ MidG st I s'⟩) (h2 : ∀ i, I i → Kx .normal (st i)) : @SemL P B c s ⟨Kx⟩ := by
  intro X a w hB hR
  refine wp_mono (h X a w hB hR) ?_
  rintro e a' w' ⟨X', s', h1, h2', rfl, i, hi, hw⟩
  obtain ⟨X2, h3, h4⟩ := hw X' a' w' h2'
  exact ⟨X2, st i, h3.trans h1, h4, h2 i hi⟩

def PutQ (r : AV) (b : List AV) : Prop := ∃ (t : Tree) (x : Block), r = .tup [.agg (encTM t), .agg (encBk none x)] ∧ tsz t ≤ 300 ∧ x.list.length ≤ 300 ∧ 1 ≤ t.blocks.length

theorem c_spec_DrawPutBlock (nb : Option Bool) (bs : List Int) (h : CodeOk bs) : FSpec Try.prog 34 [.sl nb (rows encB bs)] false [] PutQ := by
  refine fspec_rel tab_ok Try.call34 Try.func34 rfl 67 Try.ntmps34 (of_decide_eq_true rfl) fun B => codeK_sound tab_ok _ _ _ ?_
  simp (config := { maxSteps := 4000000 }) only [go_sem, simprocAttr, ↓dnA, Try.f34, rows_length]
  refine CallTo.of (c_spec_l20Open nb bs h) ?_
  rintro r b rfl
  unfold rd
  simp (config := { maxSteps := 4000000 }) only [go_sem, simprocAttr, ↓dnA, Try.f34, rows_length]
  have h0 := code_take h
  generalize bs.take 2000 = bs at h0
  refine CallTo.of (c_spec_l20Tree nb _ 0 12 h0 (by omega) (by omega)) ?_
  rintro r b ⟨t, q, rfl, rfl, hq1, hq2, hts, hl1, hl2⟩
  have hq := h0.step (q := q) (by omega) (by omega)
  simp (config := { maxSteps := 4000000 }) only [go_sem, simprocAttr, ↓dnA, Try.f34, rows_length, rd, encTM]
  refine CallTo.of (c_spec_pick nb bs q (t.blocks.length : Int) hq) ?_
  rintro r b ⟨m, rfl, rfl, hm⟩
  have hr1 := h0.step (q := q + 1) (by omega) (by omega)
  obtain ⟨k, rfl⟩ : ∃ k : Nat, m = (k : Int) := ⟨m.toNat, by omega⟩
  have hk : k < t.blocks.length := by omega
  have hbk : (rows encB1 t.blocks).getD k [] = encB1 (t.blk k) := rows_gd encB1 t.blocks k hk
  have hx : TreeS32 t := ⟨by omega⟩
  have hkl : (t.blk k).list.length ≤ 300 := by
    have := lsum_mem t.blocks (t.blk k) (by rw [← t.blk_get k hk]; exact List.getElem_mem hk)
    unfold tsz at hts; omega
  have hsl := storeOf_le t (k : Int)
  have hS := c_spec_StoreOf none none none t (k : Int) hx
  generalize storeOf t (k : Int) = so at hsl hS
  simp (config := { maxSteps := 4000000 }) only [go_sem, simprocAttr, ↓dnA, Try.f34, rows_length, rd, encTM]
  refine semL_midG (fun a : Block × Int => ⟨67, [(2, .loc 2 0), (3, .loc 3 0), (4, .loc 11000 0), (5, .loc 5 0), (6, .int .i64 (k : Nat)), (7, .loc 7 0)],
      [(2, .var [.sl (some false) [], .sl (some false) [], .sl (some false) []]), (3, .var [.int .i64 0, .int .i64 0, .int .i64 0, .sl (some false) [], .int .i64 0, .int .i64 0]), (11000, .var (rd nb bs a.2)),
        (5, .var [.row 13000 t.base.length, .sl none (rows encB1 t.blocks), .row 13002 t.before.length]), (13000, .row true false 2 (rows encE t.base)), (13002, .row true false 1 (rows encI t.before)),
        (7, .var [.int .i64 a.1.before, .int .i64 a.1.height, .int .i64 a.1.view, .row 604 a.1.list.length, .int .i64 a.1.root, .int .i64 a.1.effects]), (604, .row false false 4 (rows encA a.1.list))]⟩) (fun a => a.1.list.length ≤ 300 ∧ q ≤ a.2 ∧ a.2 ≤ q + 1000) ?_ ?_
  · refine semL_draw tab_ok mixed_ rfl (ord := [(0, []), (1, []), (2, []), (3, []), (4, []), (5, []), (6, []), (8, []), (9, []), (10, []), (11, []), (12, []), (13, []), (14, []), (15, []), (18, []), (7, [0, 1, 2, 3, 4, 8, 9, 10, 11, 12, 13, 14, 15, 18]), (16, [0, 1, 2, 3, 4, 8, 9, 10, 11, 12, 13, 14, 18]), (17, []), (19, [0, 1, 2, 3, 4, 8, 9, 10, 11, 12, 13, 14, 17]), (20, []), (21, []), (22, []), (23, []), (24, [0, 1, 2, 3, 4, 5, 6, 8, 9, 10, 11, 12, 13, 14, 15, 18, 17, 21, 22, 23]), (25, [23]), (26, [])]) (by dsimp only; decide +kernel) ?_
    simp (config := { maxSteps := 4000000 }) only [go_sem, simprocAttr, ↓dnA, Try.f34, rows_length, rd, encTM, nlt hk, hk, nn0, hbk, encB1, encBk]
    refine CallTo.det hS fun _ => ?_
    simp (config := { maxSteps := 4000000 }) only [go_sem, simprocAttr, ↓dnA, Try.f34, rows_length, rd, encTM, nlt hk, hk, nn0, hbk, encB1, encBk]
    refine CallTo.of (c_spec_pick nb bs (q + 1) 2 hr1) ?_
    rintro r b ⟨y, rfl, rfl, hy⟩
    have hr2 := h0.step (q := q + 1 + 1) (by omega) (by omega)
    simp (config := { maxSteps := 4000000 }) only [go_sem, simprocAttr, ↓dnA, Try.f34, rows_length, rd, encTM, nlt hk, hk, nn0, hbk, encB1, encBk]
    refine CallTo.of (c_spec_l20Actions nb bs (q + 1 + 1) 0 hr2 (by omega) (by omega)) ?_
    rintro r b ⟨l, q4, rfl, rfl, hq4, hq4', hll⟩
    have hN := c_spec_NextBlock none none (some true) (t.blk k) so (IntKind.i64.wrap (IntKind.i64.wrap ((t.blk k).view + 1) + y)) l (by omega) (by omega) (by omega)
    have hNl := nextBlock_len (t.blk k) so (IntKind.i64.wrap (IntKind.i64.wrap ((t.blk k).view + 1) + y)) l
    generalize nextBlock (t.blk k) so (IntKind.i64.wrap (IntKind.i64.wrap ((t.blk k).view + 1) + y)) l = x at hN hNl
    obtain ⟨x, ok⟩ := x
    dsimp only at hN hNl
    simp (config := { maxSteps := 4000000 }) only [go_sem, simprocAttr, ↓dnA, Try.f34, rows_length, rd, encTM, nlt hk, hk, nn0, hbk, encB1, encBk]
    refine CallTo.det hN fun _ => ?_
    simp (config := { maxSteps := 4000000 }) only [go_sem, simprocAttr, ↓dnA, Try.f34, rows_length, rd, encTM, nlt hk, hk, nn0, hbk, encB1, encBk, encBkF]
    refine ⟨(x, q4), ⟨by dsimp only; omega, by dsimp only; omega, by dsimp only; omega⟩, (Ghost.disown 40003 (nn := false) (sz := 4) (es := rows encA x.list) (by rfl)).trans (Ghost.weak (ρ := [(2, 2), (3, 3), (11000, 11000), (5, 5), (13000, 13000), (13002, 13002), (7, 7), (40003, 604)]) (Weak.of (by rfl) ?_ ?_ (by rfl)))⟩
    · simp (config := { maxSteps := 4000000 }) only [go_sem, simprocAttr, ↓dnA, Try.f34, rows_length, rd, encTM, encBkF, frW, wk2, wk1, wkL, wkB, hpW, List.mem_cons, Prod.mk.injEq, exists_eq_left, exists_eq_right, exists_eq]
      try rfl
    · simp (config := { maxSteps := 4000000 }) only [go_sem, simprocAttr, ↓dnA, Try.f34, rows_length, rd, frW, wk2, wk1, wkL, wkB, hpW, List.mem_cons, Prod.mk.injEq, exists_eq_left, exists_eq_right, exists_eq]
      try rfl
  rintro ⟨x, q5⟩ ⟨hxl, hq5, hq5'⟩
  dsimp only at hxl hq5 hq5' ⊢
  have hr5 := h0.step (q := q5) (by omega) (by omega)
  simp (config := { maxSteps := 4000000 }) only [go_sem, simprocAttr, ↓dnA, Try.f34, rows_length, rd, encTM]
  refine CallTo.of (c_spec_odd nb bs q5 3 hr5 (by omega)) ?_
  rintro r b ⟨gg, q6, rfl, rfl, hq6, hq6'⟩
  have hr6 := h0.step (q := q6) (by omega) (by omega)
  cases gg with
  | false =>
    simp (config := { maxSteps := 4000000 }) only [go_sem, simprocAttr, ↓dnA, Try.f34, rows_length, rd, encTM]
    refine semL_draw tab_ok mixed_ rfl (ord := [(0, []), (1, []), (2, [1]), (3, [])]) (by dsimp only; decide +kernel) ?_
    simp (config := { maxSteps := 4000000 }) only [go_sem, simprocAttr, ↓dnA, Try.f34, rows_length, rd, encTM]
    exact .same ⟨t, x, by simp [encTM, encBk, nnOf], hts, hxl, hl1⟩
  | true =>
    simp (config := { maxSteps := 4000000 }) only [go_sem, simprocAttr, ↓dnA, Try.f34, rows_length, rd, encTM]
    refine CallTo.of (c_spec_pick nb bs q6 4 hr6) ?_
    rintro r b ⟨z, rfl, rfl, hz⟩
    have hr7 := h0.step (q := q6 + 1) (by omega) (by omega)
    have hz4 : z = 0 ∨ z = 1 ∨ z = 2 ∨ z = 3 := by omega
    rcases hz4 with rfl | rfl | rfl | rfl
    · simp (config := { maxSteps := 4000000 }) only [go_sem, simprocAttr, ↓dnA, Try.f34, rows_length, rd, encTM]
      refine CallTo.of (c_spec_pick nb bs (q6 + 1) 256 hr7) ?_
      rintro r b ⟨y, rfl, rfl, hy⟩
      simp (config := { maxSteps := 4000000 }) only [go_sem, simprocAttr, ↓dnA, Try.f34, rows_length, rd, encTM]
      refine semL_draw tab_ok mixed_ rfl (ord := [(0, []), (1, []), (2, [1]), (3, [])]) (by dsimp only; decide +kernel) ?_
      simp (config := { maxSteps := 4000000 }) only [go_sem, simprocAttr, ↓dnA, Try.f34, rows_length, rd, encTM]
      exact .same ⟨t, ⟨y, x.height, x.view, x.list, x.root, x.effects⟩, by simp [encTM, encBk, nnOf], hts, hxl, hl1⟩
    · simp (config := { maxSteps := 4000000 }) only [go_sem, simprocAttr, ↓dnA, Try.f34, rows_length, rd, encTM]
      refine semL_draw tab_ok mixed_ rfl (ord := [(0, []), (1, []), (2, [1]), (3, [])]) (by dsimp only; decide +kernel) ?_
      simp (config := { maxSteps := 4000000 }) only [go_sem, simprocAttr, ↓dnA, Try.f34, rows_length, rd, encTM]
      exact .same ⟨t, ⟨x.before, IntKind.i64.wrap (x.height + 1), x.view, x.list, x.root, x.effects⟩, by simp [encTM, encBk, nnOf], hts, hxl, hl1⟩
    · simp (config := { maxSteps := 4000000 }) only [go_sem, simprocAttr, ↓dnA, Try.f34, rows_length, rd, encTM]
      refine semL_draw tab_ok mixed_ rfl (ord := [(0, []), (1, []), (2, [1]), (3, [])]) (by dsimp only; decide +kernel) ?_
      simp (config := { maxSteps := 4000000 }) only [go_sem, simprocAttr, ↓dnA, Try.f34, rows_length, rd, encTM]
      exact .same ⟨t, ⟨x.before, x.height, 0, x.list, x.root, x.effects⟩, by simp [encTM, encBk, nnOf], hts, hxl, hl1⟩
    · simp (config := { maxSteps := 4000000 }) only [go_sem, simprocAttr, ↓dnA, Try.f34, rows_length, rd, encTM, nlt hk, hk, nn0, hbk, encB1, encBk]
      refine semL_draw tab_ok mixed_ rfl (ord := [(0, []), (1, []), (2, [1]), (3, [])]) (by dsimp only; decide +kernel) ?_
      simp (config := { maxSteps := 4000000 }) only [go_sem, simprocAttr, ↓dnA, Try.f34, rows_length, rd, encTM, nlt hk, hk, nn0, hbk, encB1, encBk]
      exact .same ⟨t, t.blk k, by simp [encTM, encBk, nnOf, encB1], hts, hkl, hl1⟩

theorem c_laws_FnPutBlock (nb : Option Bool) (bs : List Int) (h : ∀ b, b ∈ bs → 0 ≤ b ∧ b ≤ 255) : Det Try.prog 7 [.sl nb (rows encB bs)] (.bool true) := by
  refine fspec_det tab_ok Try.call7 Try.func7 rfl 99 Try.ntmps7 (of_decide_eq_true rfl) fun B => codeK_sound tab_ok _ _ _ ?_
  simp (config := { maxSteps := 4000000 }) only [go_sem, simprocAttr, ↓dnA, Try.f7, rows_length]
  intro hl
  have hc : CodeOk bs := ⟨h, by simp at hl; omega⟩
  refine CallTo.of (c_spec_DrawPutBlock nb bs hc) ?_
  rintro r b ⟨t, x, rfl, hts, hxl, hl1⟩
  have hx : TreeS32 t := ⟨by omega⟩
  have hI := c_impl_PutBlock none none none none t x hx (by omega)
  have hS := c_spec_PutBlock none none none none t x hx (by omega)
  have hsz := putBlock_tsz t x
  have hno := fun h => putBlock_no (t := t) (b := x) h
  have his := fun h => putBlock_is (t := t) (b := x) h
  have hag := fun h => putBlock_again (t := t) (b := x) h
  have hfi := fun h => putBlock_find (t := t) (b := x) h
  generalize putBlock t x = p at hI hS hsz hno his hag hfi
  obtain ⟨y, ok⟩ := p
  dsimp only at hI hS hsz hno his hag hfi
  have hy : TreeS32 y := ⟨by omega⟩
  have hqq : (ok != ok) = false := by simp
  simp (config := { maxSteps := 4000000 }) only [go_sem, simprocAttr, ↓dnA, Try.f7, rows_length, encTM, encBk]
  refine CallTo.det hI fun _ => ?_
  simp (config := { maxSteps := 4000000 }) only [go_sem, simprocAttr, ↓dnA, Try.f7, rows_length, encTM, encBk, encTF]
  refine CallTo.det hS fun _ => ?_
  simp (config := { maxSteps := 4000000 }) only [go_sem, simprocAttr, ↓dnA, Try.f7, rows_length, encTM, encBk, encTF]
  refine CallTo.det (c_laws_sameTree none none none none none none y hy.sz) fun _ => ?_
  cases ok with
  | false =>
    rcases hno rfl with e | e
    · subst e
      simp (config := { maxSteps := 4000000 }) only [go_sem, simprocAttr, ↓dnA, Try.f7, rows_length, encTM, encBk, encTF, List.length_nil, nc0]
      refine CallTo.det c_laws_alive fun _ => ?_
      simp (config := { maxSteps := 4000000 }) only [go_sem, simprocAttr, ↓dnA, Try.f7, rows_length, encTM, encBk, encTF, List.length_nil, nc0]
    · subst e
      have hd : ((y.blocks.length : Int) == 0) = false := beq_eq_false_iff_ne.2 (by omega)
      simp (config := { maxSteps := 4000000 }) only [go_sem, simprocAttr, ↓dnA, Try.f7, rows_length, encTM, encBk, encTF, hd]
      refine CallTo.det (c_laws_sameTree none none none none none none y hy.sz) fun _ => ?_
      simp (config := { maxSteps := 4000000 }) only [go_sem, simprocAttr, ↓dnA, Try.f7, rows_length, encTM, encBk, encTF, hd]
      refine CallTo.det c_laws_alive fun _ => ?_
      simp (config := { maxSteps := 4000000 }) only [go_sem, simprocAttr, ↓dnA, Try.f7, rows_length, encTM, encBk, encTF, hd]
  | true =>
    obtain ⟨ht, hto, rfl⟩ := his rfl
    have hA := c_impl_PutBlock none none none none (putT t x) x hy (by omega)
    have hag := hag rfl
    obtain ⟨f1, f2⟩ := hfi rfl
    generalize putBlock (putT t x) x = p at hA hag
    obtain ⟨y2, ok2⟩ := p
    dsimp only at hA hag
    subst hag
    have hlen := putT_len t x
    have hbl := hto.bef
    have hk : t.blocks.length < (putT t x).blocks.length := by omega
    have hkb : t.blocks.length < (putT t x).before.length := by omega
    have hbk : (rows encB1 (putT t x).blocks).getD t.blocks.length [] = encB1 x := by rw [rows_gd encB1 _ _ hk]; exact congrArg encB1 (putT_new t x)
    have hbb : (rows encI (putT t x).before).getD t.blocks.length [] = [.int .i64 (findB t.blocks x.before)] := by rw [rows_get _ _ _ hkb, (putT t x).bef_get _ hkb, putT_bef ht]; rfl
    have hw : IntKind.i64.wrap (((putT t x).blocks.length : Int) - 1) = (t.blocks.length : Int) := by have := ht.len; rw [wrap_small _ (by omega) (by omega)]; omega
    have hF := c_impl_FindBlock none none none t x.before hx.sz
    have hFe : findBlock t x.before = findB t.blocks x.before := by unfold findBlock; rw [if_pos (treeValid_true ht), if_neg (by omega)]
    rw [hFe] at hF
    have hV := c_impl_BlockTreeValid none none none (putT t x) hy.sz
    rw [treeValid_true hto] at hV
    generalize hg : putT t x = g at hA hy hto hk hkb hbk hbb hw hV hsz
    have hee : ((findB t.blocks x.before) == (findB t.blocks x.before)) = true := by simp
    have hll : ((t.blocks.length : Int) == (t.blocks.length : Int)) = true := by simp
    simp (config := { maxSteps := 4000000 }) only [go_sem, simprocAttr, ↓dnA, Try.f7, rows_length, encTM, encBk, encTF]
    refine CallTo.det hA fun _ => ?_
    simp (config := { maxSteps := 4000000 }) only [go_sem, simprocAttr, ↓dnA, Try.f7, rows_length, encTM, encBk, encTF, hw]
    refine semL_ghost (Ghost.disown 24001 (nn := false) (sz := 6) (es := rows encB1 g.blocks) (by rfl)) ?_
    refine semL_draw tab_ok mixed_ rfl (ord := [(0, []), (1, []), (2, []), (3, []), (4, []), (5, []), (6, []), (7, []), (8, []), (9, []), (10, []), (11, []), (12, []), (13, []), (14, []), (15, []), (16, []), (17, []), (18, []), (19, []), (20, []), (21, []), (22, []), (23, []), (24, []), (25, []), (26, []), (27, []), (28, []), (29, []), (30, []), (31, [23, 24, 25, 26, 27]), (32, []), (33, []), (34, [])]) (by dsimp only; decide +kernel) ?_
    simp (config := { maxSteps := 4000000 }) only [go_sem, simprocAttr, ↓dnA, Try.f7, rows_length, encTM, encBk, encTF, hw]
    refine CallTo.det hV fun _ => ?_
    simp (config := { maxSteps := 4000000 }) only [go_sem, simprocAttr, ↓dnA, Try.f7, rows_length, encTM, encBk, encTF, hw, hll, nlt hk, hk, nn0, hbk, encB1]
    refine CallTo.det (c_laws_sameBlock none none x (by omega)) fun _ => ?_
    simp (config := { maxSteps := 4000000 }) only [go_sem, simprocAttr, ↓dnA, Try.f7, rows_length, encTM, encBk, encTF, hw, hll, nlt hk, hk, nn0, hbk, encB1, nlt hkb, hkb, hbb]
    refine CallTo.det hF fun _ => ?_
    simp (config := { maxSteps := 4000000 }) only [go_sem, simprocAttr, ↓dnA, Try.f7, rows_length, encTM, encBk, encTF, hw, hll, nlt hk, hk, nn0, hbk, encB1, nlt hkb, hkb, hbb, hee]

end Go.Proofs.Ytmibclbinebnjaa

/- Contracts: drawn blocks; FnNextBlock. -/
set_option linter.unusedSimpArgs false
set_option linter.unusedVariables false
set_option maxRecDepth 20000
set_option maxHeartbeats 4000000
namespace Go.Proofs.Ytmibclbinebnjaa
open Go Go.RowKit

section
variable {P : Program} {T : Tab} {B : Base} {ops : Array Oper}

theorem slotsK_addDep (b a : Nat) {Φ : AState → Prop} {s : AState} : ∀ os : List (List Nat × List (Nat × List Nat)), slotsK P T ops.toList Φ s os → slotsK P T (addDep ops b a).toList Φ s os
  | [], h => h
  | o :: q, h => ⟨by rw [drawK_addDep]; exact h.1, slotsK_addDep b a q h.2⟩

/-- The region with the operations b1 and b2 at their places beside the operations cs. -/
def slots2Ok (T : Tab) (n : Nat) (b1 b2 : Nat) : List Nat → List Nat → Array Oper → List (List (List Nat × List (Nat × List Nat))) → Bool
  | pre, [], ops, [os] => slotsOk T n b2 (pre ++ [b1]) ops os
  | pre, c :: r, ops, os :: q => slotsOk T n b2 (pre ++ b1 :: c :: r) (addDep ops c b1) os && slots2Ok T n b1 b2 (pre ++ [c]) r (addDep ops b1 c) q
  | _, _, _, _ => false
def slots2K (P : Program) (T : Tab) (ops : List Oper) (Φ : AState → Prop) (s : AState) : List (List (List Nat × List (Nat × List Nat))) → Prop
  | [] => True
  | os :: q => slotsK P T ops Φ s os ∧ slots2K P T ops Φ s q
theorem slots2K_addDep (b a : Nat) {Φ : AState → Prop} {s : AState} : ∀ os : List (List (List Nat × List (Nat × List Nat))), slots2K P T ops.toList Φ s os → slots2K P T (addDep ops b a).toList Φ s os
  | [], h => h
  | o :: q, h => ⟨slotsK_addDep b a o h.1, slots2K_addDep b a q h.2⟩

theorem slots2_run (hT : TabOk P T) {Kx : Exit → AState → Prop} {X : Ctx} {s : AState} {x : Act} {w : World} {n : Nat} (hn : s.nt = n) (hXB : X.base = B) (hR : R X s x w) (b1 b2 : Nat) {l : List Nat} : ∀ (pre cs : List Nat) (ops : Array Oper) (os : List (List (List Nat × List (Nat × List Nat)))),
    (cs.all fun c => b1 != c) = true → ((pre ++ b1 :: cs).all fun c => b2 != c) = true → slots2Ok T n b1 b2 pre cs ops os = true → slots2K P T ops.toList (Kx .normal) s os → ValE ops (Array.replicate ops.size false) l →
    wpOps P ops (fun e a w => Post B (Kx e) a w) l x { w with drawn := w.drawn + 1 }
  | pre, [], ops, [], _, _, h, _, _ => by cases h
  | pre, [], ops, [o], _, hb2, h, hk, hv => slots_run hT hn hXB hR b2 (pre ++ [b1]) ops o hb2 h hk.1 hv
  | pre, [], ops, _ :: _ :: _, _, _, h, _, _ => by cases h
  | pre, c :: r, ops, [], _, _, h, _, _ => by cases h
  | pre, c :: r, ops, o :: q, hb, hb2, h, hk, hv => by
    rw [List.all_cons, Bool.and_eq_true] at hb
    have hbc : b1 ≠ c := by simpa using hb.1
    have h : (slotsOk T n b2 (pre ++ b1 :: c :: r) (addDep ops c b1) o && slots2Ok T n b1 b2 (pre ++ [c]) r (addDep ops b1 c) q) = true := h
    rw [Bool.and_eq_true] at h
    have hsz : ∀ (ops : Array Oper) b a, (addDep ops b a).size = ops.size := fun ops b a => by unfold addDep; simp
    rcases val_two hbc _ _ (by simp) hv with hv | hv
    · have hv : ValE (addDep ops c b1) (Array.replicate (addDep ops c b1).size false) l := by rw [hsz]; exact hv
      exact wpOps_addDep _ _ _ (slots_run hT hn hXB hR b2 (pre ++ b1 :: c :: r) (addDep ops c b1) o hb2 h.1 (slotsK_addDep _ _ o hk.1) hv)
    · have hv : ValE (addDep ops b1 c) (Array.replicate (addDep ops b1 c).size false) l := by rw [hsz]; exact hv
      refine wpOps_addDep _ _ _ (slots2_run hT hn hXB hR b1 b2 (pre ++ [c]) r (addDep ops b1 c) q hb.2 ?_ h.2 (slots2K_addDep _ _ q hk.2) hv)
      simp only [List.all_append, List.all_cons, List.all_nil, Bool.and_eq_true, Bool.and_true] at hb2 ⊢
      exact ⟨⟨hb2.1, hb2.2.2.1⟩, hb2.2.1, hb2.2.2.2⟩

/-- A region in which the operations b1 and b2 may come at any place beside the operations cs, each of which waits for the one before it. -/
theorem semL_slots2 (hT : TabOk P T) {Kx : Exit → AState → Prop} {s : AState} {id n : Nat} (b1 b2 : Nat) (cs : List Nat) {os : List (List (List Nat × List (Nat × List Nat)))} (hm : P.follows .mixedOrders = true) (hn : s.nt = n) (hb : (cs.all fun c => b1 != c) = true) (hb2 : (([] ++ b1 :: cs).all fun c => b2 != c) = true)
    (hk : slots2Ok T n b1 b2 [] cs ops os = true) (h : slots2K P T ops.toList (Kx .normal) s os) : @SemL P B (.region id ops true) s ⟨Kx⟩ := by
  intro X x w hXB hR
  refine wp_region_draw fun t => ?_
  simp only [Region.schedule, hm, Bool.true_or, if_true]
  have hv := go_val (ops := ops) ops.size t (Array.replicate ops.size false) (by simp) (by
    rw [Array.toList_replicate]
    generalize ops.size = m
    induction m with
    | zero => exact Nat.le_refl _
    | succ m ih => rw [List.replicate_succ]; simp only [cntF]; simp; omega)
  exact slots2_run hT hn hXB hR b1 b2 [] cs ops os hb hb2 hk h hv
end

def encBkT (b : Block) : List AV := [.int .i64 b.before, .int .i64 b.height, .int .i64 b.view, .osl true 4 (rows encA b.list), .int .i64 b.root, .int .i64 b.effects]
def BlockQ (nb : Option Bool) (bs : List Int) (p : Int) (r : AV) (b : List AV) : Prop := ∃ (x : Block) (q : Int), r = .agg (encBkT x) ∧ b = rd nb bs q ∧ p ≤ q ∧ q ≤ p + 6000 ∧ x.list.length ≤ 300

theorem c_spec_l20Block (nb : Option Bool) (bs : List Int) (p n : Int) (h : RdOk bs p) (hp : p ≤ 999970000) (hn : 0 ≤ n ∧ n ≤ 1000000) : FSpec Try.prog 81 [.loc 0 0, .int .i64 n] true (rd nb bs p) (BlockQ nb bs p) := by
  refine fspec_rel tab_ok Try.call81 Try.func81 rfl 59 Try.ntmps81 (of_decide_eq_true rfl) fun B => codeK_sound tab_ok _ _ _ ?_
  unfold rd
  simp (config := { maxSteps := 4000000 }) only [go_sem, simprocAttr, ↓dnA, Try.f81, rows_length, wr0, wr1, wr2, wr3, tn0, tn1, tn2, tn3]
  refine CallTo.of (c_spec_l20Tree nb bs p 0 h (by omega) (by omega)) ?_
  rintro r b ⟨t, q, rfl, rfl, hq1, hq2, hts, hl1, hl2⟩
  have hq := h.step (q := q) (by omega) (by omega)
  simp (config := { maxSteps := 4000000 }) only [go_sem, simprocAttr, ↓dnA, Try.f81, rows_length, wr0, wr1, wr2, wr3, tn0, tn1, tn2, tn3, rd, encTM]
  refine semL_draw tab_ok mixed_ rfl (ord := [(0, []), (1, []), (2, []), (3, []), (4, []), (5, []), (6, [0, 1]), (7, []), (8, []), (9, [0, 1, 2, 3, 4, 5, 7, 8]), (10, [])]) (by dsimp only; decide +kernel) ?_
  simp (config := { maxSteps := 4000000 }) only [go_sem, simprocAttr, ↓dnA, Try.f81, rows_length, wr0, wr1, wr2, wr3, tn0, tn1, tn2, tn3, rd, encTM]
  refine CallTo.of (c_spec_pick nb bs q (t.blocks.length : Int) hq) ?_
  rintro r b ⟨m, rfl, rfl, hm⟩
  have hr1 := h.step (q := q + 1) (by omega) (by omega)
  obtain ⟨k, rfl⟩ : ∃ k : Nat, m = (k : Int) := ⟨m.toNat, by omega⟩
  have hk : k < t.blocks.length := by omega
  have hbk : (rows encB1 t.blocks).getD k [] = encB1 (t.blk k) := rows_gd encB1 t.blocks k hk
  have hkl : (t.blk k).list.length ≤ 300 := by
    have := lsum_mem t.blocks (t.blk k) (by rw [← t.blk_get k hk]; exact List.getElem_mem hk)
    unfold tsz at hts; omega
  generalize t.blk k = x at hbk hkl
  have b1 := all_rows encA AV.flat (fun _ => rfl) x.list
  have b2 := all_rows encA AV.one (fun _ => rfl) x.list
  have b3 := sz0_rows encA 4 (fun _ => rfl) x.list
  simp (config := { maxSteps := 4000000 }) only [go_sem, simprocAttr, ↓dnA, Try.f81, rows_length, wr0, wr1, wr2, wr3, tn0, tn1, tn2, tn3, rd, encTM, nlt hk, hk, nn0, hbk, encB1, encBk, b1, b2, b3]
  repeat refine And.intro (by first | omega | (simp; done) | (simp; omega) | assumption) ?_
  refine CallTo.of (c_spec_odd nb bs (q + 1) n hr1 hn) ?_
  rintro r b ⟨gg, q2, rfl, rfl, hq3, hq4⟩
  have hr2 := h.step (q := q2) (by omega) (by omega)
  cases gg with
  | false =>
    simp (config := { maxSteps := 4000000 }) only [go_sem, simprocAttr, ↓dnA, Try.f81, rows_length, wr0, wr1, wr2, wr3, tn0, tn1, tn2, tn3, rd, encTM, nlt hk, hk, nn0, hbk, encB1, encBk, b1, b2, b3]
    exact .same ⟨x, q2, by simp [encBkT], rfl, by omega, by omega, hkl⟩
  | true =>
    simp (config := { maxSteps := 4000000 }) only [go_sem, simprocAttr, ↓dnA, Try.f81, rows_length, wr0, wr1, wr2, wr3, tn0, tn1, tn2, tn3, rd, encTM, nlt hk, hk, nn0, hbk, encB1, encBk, b1, b2, b3]
    refine CallTo.of (c_spec_pick nb bs q2 5 hr2) ?_
    rintro r b ⟨z, rfl, rfl, hz⟩
    have hr3 := h.step (q := q2 + 1) (by omega) (by omega)
    have hz5 : z = 0 ∨ z = 1 ∨ z = 2 ∨ z = 3 ∨ z = 4 := by omega
    rcases hz5 with rfl | rfl | rfl | rfl | rfl
    · simp (config := { maxSteps := 4000000 }) only [go_sem, simprocAttr, ↓dnA, Try.f81, rows_length, wr0, wr1, wr2, wr3, tn0, tn1, tn2, tn3, rd, encTM, nlt hk, hk, nn0, hbk, encB1, encBk, b1, b2, b3]
      refine CallTo.of (c_spec_pick nb bs (q2 + 1) 2 hr3) ?_
      rintro r b ⟨y, rfl, rfl, hy⟩
      have hy2 : y = 0 ∨ y = 1 := by omega
      rcases hy2 with rfl | rfl
      · simp (config := { maxSteps := 4000000 }) only [go_sem, simprocAttr, ↓dnA, Try.f81, rows_length, wr0, wr1, wr2, wr3, tn0, tn1, tn2, tn3, rd, encTM, nlt hk, hk, nn0, hbk, encB1, encBk, b1, b2, b3]
        exact .same ⟨⟨x.before, x.height, x.view, x.list, -1, x.effects⟩, q2 + 1 + 1, by simp [encBkT], rfl, by omega, by omega, hkl⟩
      · simp (config := { maxSteps := 4000000 }) only [go_sem, simprocAttr, ↓dnA, Try.f81, rows_length, wr0, wr1, wr2, wr3, tn0, tn1, tn2, tn3, rd, encTM, nlt hk, hk, nn0, hbk, encB1, encBk, b1, b2, b3]
        exact .same ⟨⟨x.before, x.height, x.view, x.list, 1000003, x.effects⟩, q2 + 1 + 1, by simp [encBkT], rfl, by omega, by omega, hkl⟩
    · simp (config := { maxSteps := 4000000 }) only [go_sem, simprocAttr, ↓dnA, Try.f81, rows_length, wr0, wr1, wr2, wr3, tn0, tn1, tn2, tn3, rd, encTM, nlt hk, hk, nn0, hbk, encB1, encBk, b1, b2, b3]
      refine CallTo.of (c_spec_pick nb bs (q2 + 1) 2 hr3) ?_
      rintro r b ⟨y, rfl, rfl, hy⟩
      have hy2 : y = 0 ∨ y = 1 := by omega
      rcases hy2 with rfl | rfl
      · simp (config := { maxSteps := 4000000 }) only [go_sem, simprocAttr, ↓dnA, Try.f81, rows_length, wr0, wr1, wr2, wr3, tn0, tn1, tn2, tn3, rd, encTM, nlt hk, hk, nn0, hbk, encB1, encBk, b1, b2, b3]
        exact .same ⟨⟨x.before, x.height, -1, x.list, x.root, x.effects⟩, q2 + 1 + 1, by simp [encBkT], rfl, by omega, by omega, hkl⟩
      · simp (config := { maxSteps := 4000000 }) only [go_sem, simprocAttr, ↓dnA, Try.f81, rows_length, wr0, wr1, wr2, wr3, tn0, tn1, tn2, tn3, rd, encTM, nlt hk, hk, nn0, hbk, encB1, encBk, b1, b2, b3]
        exact .same ⟨⟨x.before, x.height, 1001, x.list, x.root, x.effects⟩, q2 + 1 + 1, by simp [encBkT], rfl, by omega, by omega, hkl⟩
    · simp (config := { maxSteps := 4000000 }) only [go_sem, simprocAttr, ↓dnA, Try.f81, rows_length, wr0, wr1, wr2, wr3, tn0, tn1, tn2, tn3, rd, encTM, nlt hk, hk, nn0, hbk, encB1, encBk, b1, b2, b3]
      refine CallTo.of (c_spec_pick nb bs (q2 + 1) 3 hr3) ?_
      rintro r b ⟨y, rfl, rfl, hy⟩
      have hy2 : y = 0 ∨ y = 1 ∨ y = 2 := by omega
      rcases hy2 with rfl | rfl | rfl
      · simp (config := { maxSteps := 4000000 }) only [go_sem, simprocAttr, ↓dnA, Try.f81, rows_length, wr0, wr1, wr2, wr3, tn0, tn1, tn2, tn3, rd, encTM, nlt hk, hk, nn0, hbk, encB1, encBk, b1, b2, b3]
        exact .same ⟨⟨x.before, -1, x.view, x.list, x.root, x.effects⟩, q2 + 1 + 1, by simp [encBkT], rfl, by omega, by omega, hkl⟩
      · simp (config := { maxSteps := 4000000 }) only [go_sem, simprocAttr, ↓dnA, Try.f81, rows_length, wr0, wr1, wr2, wr3, tn0, tn1, tn2, tn3, rd, encTM, nlt hk, hk, nn0, hbk, encB1, encBk, b1, b2, b3]
        exact .same ⟨⟨x.before, 101, x.view, x.list, x.root, x.effects⟩, q2 + 1 + 1, by simp [encBkT], rfl, by omega, by omega, hkl⟩
      · simp (config := { maxSteps := 4000000 }) only [go_sem, simprocAttr, ↓dnA, Try.f81, rows_length, wr0, wr1, wr2, wr3, tn0, tn1, tn2, tn3, rd, encTM, nlt hk, hk, nn0, hbk, encB1, encBk, b1, b2, b3]
        exact .same ⟨⟨x.before, 100, x.view, x.list, x.root, x.effects⟩, q2 + 1 + 1, by simp [encBkT], rfl, by omega, by omega, hkl⟩
    · simp (config := { maxSteps := 4000000 }) only [go_sem, simprocAttr, ↓dnA, Try.f81, rows_length, wr0, wr1, wr2, wr3, tn0, tn1, tn2, tn3, rd, encTM, nlt hk, hk, nn0, hbk, encB1, encBk, b1, b2, b3]
      refine CallTo.of (c_spec_l20Actions nb bs (q2 + 1) 1 hr3 (by omega) (by omega)) ?_
      rintro r b ⟨l, q4, rfl, rfl, hq5, hq6, hll⟩
      simp (config := { maxSteps := 4000000 }) only [go_sem, simprocAttr, ↓dnA, Try.f81, rows_length, wr0, wr1, wr2, wr3, tn0, tn1, tn2, tn3, rd, encTM, nlt hk, hk, nn0, hbk, encB1, encBk, b1, b2, b3]
      exact .same ⟨⟨x.before, x.height, x.view, l, x.root, x.effects⟩, q4, by simp [encBkT], rfl, by omega, by omega, by dsimp only; omega⟩
    · simp (config := { maxSteps := 4000000 }) only [go_sem, simprocAttr, ↓dnA, Try.f81, rows_length, wr0, wr1, wr2, wr3, tn0, tn1, tn2, tn3, rd, encTM, nlt hk, hk, nn0, hbk, encB1, encBk, b1, b2, b3]
      exact .same ⟨⟨x.before, x.height, x.view, x.list, x.root, -1⟩, q2 + 1, by simp [encBkT], rfl, by omega, by omega, hkl⟩

def NextQ (r : AV) (b : List AV) : Prop := ∃ (x : Block) (s : List Entry) (v : Int) (l : List Action), r = .tup [.agg (encBkT x), .osl true 2 (rows encE s), .int .i64 v, .osl true 4 (rows encA l)] ∧ x.list.length ≤ 300 ∧ s.length ≤ 50 ∧ l.length ≤ 20

theorem c_spec_DrawNextBlock (nb : Option Bool) (bs : List Int) (h : CodeOk bs) : FSpec Try.prog 27 [.sl nb (rows encB bs)] false [] NextQ := by
  refine fspec_rel tab_ok Try.call27 Try.func27 rfl 35 Try.ntmps27 (of_decide_eq_true rfl) fun B => codeK_sound tab_ok _ _ _ ?_
  simp (config := { maxSteps := 4000000 }) only [go_sem, simprocAttr, ↓dnA, Try.f27, rows_length, wr0, wr1, wr2, wr3, tn0, tn1, tn2, tn3]
  refine CallTo.of (c_spec_l20Open nb bs h) ?_
  rintro r b rfl
  unfold rd
  simp (config := { maxSteps := 4000000 }) only [go_sem, simprocAttr, ↓dnA, Try.f27, rows_length, wr0, wr1, wr2, wr3, tn0, tn1, tn2, tn3]
  have h0 := code_take h
  generalize bs.take 2000 = bs at h0
  refine CallTo.of (c_spec_l20Block nb _ 0 12 h0 (by omega) (by omega)) ?_
  rintro r b ⟨x, q, rfl, rfl, hq1, hq2, hxl⟩
  have hq := h0.step (q := q) (by omega) (by omega)
  simp (config := { maxSteps := 4000000 }) only [go_sem, simprocAttr, ↓dnA, Try.f27, rows_length, wr0, wr1, wr2, wr3, tn0, tn1, tn2, tn3, rd, encBkT]
  refine CallTo.of (c_spec_l20Store nb bs q 12 hq (by omega) (by omega)) ?_
  rintro r b ⟨s, q2, rfl, rfl, hq3, hq4, hsl⟩
  have hr2 := h0.step (q := q2) (by omega) (by omega)
  simp (config := { maxSteps := 4000000 }) only [go_sem, simprocAttr, ↓dnA, Try.f27, rows_length, wr0, wr1, wr2, wr3, tn0, tn1, tn2, tn3, rd, encBkT]
  refine semL_slots2 tab_ok 10 11 [13, 19, 20] mixed_ rfl (by decide) (by decide) (os := [[([0, 1, 2, 3, 4, 5, 6, 7, 8, 9, 13, 12, 10, 14, 15, 16, 17, 18, 11, 19, 20, 21, 22, 23], [(0, []), (1, []), (2, []), (3, []), (4, []), (5, []), (6, []), (7, []), (8, []), (9, []), (12, []), (18, []), (11, [0, 1, 2, 3, 4, 5, 6, 7, 8, 9, 12, 18]), (10, [0, 1, 12, 18]), (13, [0, 1, 18]), (14, []), (15, []), (16, []), (17, []), (19, [0, 1, 14, 15, 16, 17]), (20, [1, 14, 15, 16, 17]), (21, []), (22, []), (23, [])]), ([0, 1, 2, 3, 4, 5, 6, 7, 8, 9, 12, 13, 10, 14, 15, 16, 17, 18, 11, 19, 20, 21, 22, 23], [(0, []), (1, []), (2, []), (3, []), (4, []), (5, []), (6, []), (7, []), (8, []), (9, []), (12, []), (18, []), (10, [0, 1, 12, 18]), (11, [0, 1, 12, 18]), (13, [0, 1, 18]), (14, []), (15, []), (16, []), (17, []), (19, [0, 1, 14, 15, 16, 17]), (20, [1, 14, 15, 16, 17]), (21, []), (22, []), (23, [])]), ([0, 1, 2, 3, 4, 5, 6, 7, 8, 9, 12, 14, 10, 13, 15, 16, 17, 18, 11, 19, 20, 21, 22, 23], [(0, []), (1, []), (2, []), (3, []), (4, []), (5, []), (6, []), (7, []), (8, []), (9, []), (12, []), (18, []), (10, [0, 1, 12, 18]), (13, [0, 1, 18]), (11, [0, 1, 18]), (14, []), (15, []), (16, []), (17, []), (19, [0, 1, 14, 15, 16, 17]), (20, [1, 14, 15, 16, 17]), (21, []), (22, []), (23, [])]), ([0, 1, 2, 3, 4, 5, 6, 7, 8, 9, 12, 15, 10, 13, 16, 17, 18, 19, 11, 14, 20, 21, 22, 23], [(0, []), (1, []), (2, []), (3, []), (4, []), (5, []), (6, []), (7, []), (8, []), (9, []), (12, []), (18, []), (10, [0, 1, 12, 18]), (13, [0, 1, 18]), (19, [0, 1]), (11, [0, 1]), (14, []), (15, []), (16, []), (17, []), (20, [1, 14, 15, 16, 17]), (21, []), (22, []), (23, [])]), ([0, 1, 2, 3, 4, 5, 6, 7, 8, 9, 12, 17, 10, 13, 18, 19, 20, 21, 11, 14, 15, 16, 22, 23], [(0, []), (1, []), (2, []), (3, []), (4, []), (5, []), (6, []), (7, []), (8, []), (9, []), (12, []), (18, []), (10, [0, 1, 12, 18]), (13, [0, 1, 18]), (19, [0, 1]), (20, [1]), (21, []), (11, [1, 21]), (14, []), (15, []), (16, []), (17, []), (22, []), (23, [])])], [([0, 1, 2, 3, 4, 5, 6, 7, 8, 9, 16, 12, 10, 13, 14, 15, 17, 18, 11, 19, 20, 21, 22, 23], [(0, []), (1, []), (2, []), (3, []), (4, []), (5, []), (6, []), (7, []), (8, []), (9, []), (12, []), (18, []), (11, [0, 1, 2, 3, 4, 5, 6, 7, 8, 9, 12, 18]), (13, [0, 1, 2, 3, 4, 5, 6, 7, 8, 9, 18]), (14, []), (15, []), (10, [0, 1, 18, 14, 15]), (16, []), (17, []), (19, [0, 1, 14, 15, 16, 17]), (20, [1, 14, 15, 16, 17]), (21, []), (22, []), (23, [])]), ([0, 1, 2, 3, 4, 5, 6, 7, 8, 9, 16, 13, 10, 12, 14, 15, 17, 18, 11, 19, 20, 21, 22, 23], [(0, []), (1, []), (2, []), (3, []), (4, []), (5, []), (6, []), (7, []), (8, []), (9, []), (12, []), (18, []), (13, [0, 1, 2, 3, 4, 5, 6, 7, 8, 9, 18]), (11, [0, 1, 2, 3, 4, 5, 6, 7, 8, 9, 18]), (14, []), (15, []), (10, [0, 1, 18, 14, 15]), (16, []), (17, []), (19, [0, 1, 14, 15, 16, 17]), (20, [1, 14, 15, 16, 17]), (21, []), (22, []), (23, [])]), ([0, 1, 2, 3, 4, 5, 6, 7, 8, 9, 13, 14, 10, 12, 15, 16, 17, 18, 11, 19, 20, 21, 22, 23], [(0, []), (1, []), (2, []), (3, []), (4, []), (5, []), (6, []), (7, []), (8, []), (9, []), (12, []), (18, []), (13, [0, 1, 2, 3, 4, 5, 6, 7, 8, 9, 18]), (10, [0, 1, 18]), (11, [0, 1, 18]), (14, []), (15, []), (16, []), (17, []), (19, [0, 1, 14, 15, 16, 17]), (20, [1, 14, 15, 16, 17]), (21, []), (22, []), (23, [])]), ([0, 1, 2, 3, 4, 5, 6, 7, 8, 9, 13, 15, 10, 12, 16, 17, 18, 19, 11, 14, 20, 21, 22, 23], [(0, []), (1, []), (2, []), (3, []), (4, []), (5, []), (6, []), (7, []), (8, []), (9, []), (12, []), (18, []), (13, [0, 1, 2, 3, 4, 5, 6, 7, 8, 9, 18]), (10, [0, 1, 18]), (19, [0, 1]), (11, [0, 1]), (14, []), (15, []), (16, []), (17, []), (20, [1, 14, 15, 16, 17]), (21, []), (22, []), (23, [])]), ([0, 1, 2, 3, 4, 5, 6, 7, 8, 9, 13, 17, 10, 12, 18, 19, 20, 21, 11, 14, 15, 16, 22, 23], [(0, []), (1, []), (2, []), (3, []), (4, []), (5, []), (6, []), (7, []), (8, []), (9, []), (12, []), (18, []), (13, [0, 1, 2, 3, 4, 5, 6, 7, 8, 9, 18]), (10, [0, 1, 18]), (19, [0, 1]), (20, [1]), (21, []), (11, [1, 21]), (14, []), (15, []), (16, []), (17, []), (22, []), (23, [])])], [([0, 1, 2, 3, 4, 5, 6, 7, 8, 9, 17, 12, 10, 13, 14, 15, 18, 19, 11, 16, 20, 21, 22, 23], [(0, []), (1, []), (2, []), (3, []), (4, []), (5, []), (6, []), (7, []), (8, []), (9, []), (12, []), (18, []), (11, [0, 1, 2, 3, 4, 5, 6, 7, 8, 9, 12, 18]), (13, [0, 1, 2, 3, 4, 5, 6, 7, 8, 9, 18]), (14, []), (15, []), (19, [0, 1, 2, 3, 4, 5, 6, 7, 8, 9, 14, 15]), (10, [0, 1, 14, 15]), (16, []), (17, []), (20, [1, 14, 15, 16, 17]), (21, []), (22, []), (23, [])]), ([0, 1, 2, 3, 4, 5, 6, 7, 8, 9, 17, 13, 10, 12, 14, 15, 18, 19, 11, 16, 20, 21, 22, 23], [(0, []), (1, []), (2, []), (3, []), (4, []), (5, []), (6, []), (7, []), (8, []), (9, []), (12, []), (18, []), (13, [0, 1, 2, 3, 4, 5, 6, 7, 8, 9, 18]), (11, [0, 1, 2, 3, 4, 5, 6, 7, 8, 9, 18]), (14, []), (15, []), (19, [0, 1, 2, 3, 4, 5, 6, 7, 8, 9, 14, 15]), (10, [0, 1, 14, 15]), (16, []), (17, []), (20, [1, 14, 15, 16, 17]), (21, []), (22, []), (23, [])]), ([0, 1, 2, 3, 4, 5, 6, 7, 8, 9, 17, 14, 10, 12, 15, 16, 18, 19, 11, 13, 20, 21, 22, 23], [(0, []), (1, []), (2, []), (3, []), (4, []), (5, []), (6, []), (7, []), (8, []), (9, []), (12, []), (18, []), (13, [0, 1, 2, 3, 4, 5, 6, 7, 8, 9, 18]), (19, [0, 1, 2, 3, 4, 5, 6, 7, 8, 9]), (11, [0, 1, 2, 3, 4, 5, 6, 7, 8, 9]), (14, []), (15, []), (10, [0, 1, 14, 15]), (16, []), (17, []), (20, [1, 14, 15, 16, 17]), (21, []), (22, []), (23, [])]), ([0, 1, 2, 3, 4, 5, 6, 7, 8, 9, 14, 15, 10, 12, 16, 17, 18, 19, 11, 13, 20, 21, 22, 23], [(0, []), (1, []), (2, []), (3, []), (4, []), (5, []), (6, []), (7, []), (8, []), (9, []), (12, []), (18, []), (13, [0, 1, 2, 3, 4, 5, 6, 7, 8, 9, 18]), (19, [0, 1, 2, 3, 4, 5, 6, 7, 8, 9]), (10, [0, 1]), (11, [0, 1]), (14, []), (15, []), (16, []), (17, []), (20, [1, 14, 15, 16, 17]), (21, []), (22, []), (23, [])]), ([0, 1, 2, 3, 4, 5, 6, 7, 8, 9, 14, 17, 10, 12, 18, 19, 20, 21, 11, 13, 15, 16, 22, 23], [(0, []), (1, []), (2, []), (3, []), (4, []), (5, []), (6, []), (7, []), (8, []), (9, []), (12, []), (18, []), (13, [0, 1, 2, 3, 4, 5, 6, 7, 8, 9, 18]), (19, [0, 1, 2, 3, 4, 5, 6, 7, 8, 9]), (10, [0, 1]), (20, [1]), (21, []), (11, [1, 21]), (14, []), (15, []), (16, []), (17, []), (22, []), (23, [])])], [([0, 1, 2, 3, 4, 5, 6, 7, 8, 9, 19, 12, 10, 13, 14, 15, 20, 21, 11, 16, 17, 18, 22, 23], [(0, []), (1, []), (2, []), (3, []), (4, []), (5, []), (6, []), (7, []), (8, []), (9, []), (12, []), (18, []), (11, [0, 1, 2, 3, 4, 5, 6, 7, 8, 9, 12, 18]), (13, [0, 1, 2, 3, 4, 5, 6, 7, 8, 9, 18]), (14, []), (15, []), (19, [0, 1, 2, 3, 4, 5, 6, 7, 8, 9, 14, 15]), (20, [1, 2, 3, 4, 5, 6, 7, 8, 9, 14, 15]), (21, []), (10, [1, 14, 15, 21]), (16, []), (17, []), (22, []), (23, [])]), ([0, 1, 2, 3, 4, 5, 6, 7, 8, 9, 19, 13, 10, 12, 14, 15, 20, 21, 11, 16, 17, 18, 22, 23], [(0, []), (1, []), (2, []), (3, []), (4, []), (5, []), (6, []), (7, []), (8, []), (9, []), (12, []), (18, []), (13, [0, 1, 2, 3, 4, 5, 6, 7, 8, 9, 18]), (11, [0, 1, 2, 3, 4, 5, 6, 7, 8, 9, 18]), (14, []), (15, []), (19, [0, 1, 2, 3, 4, 5, 6, 7, 8, 9, 14, 15]), (20, [1, 2, 3, 4, 5, 6, 7, 8, 9, 14, 15]), (21, []), (10, [1, 14, 15, 21]), (16, []), (17, []), (22, []), (23, [])]), ([0, 1, 2, 3, 4, 5, 6, 7, 8, 9, 19, 14, 10, 12, 15, 16, 20, 21, 11, 13, 17, 18, 22, 23], [(0, []), (1, []), (2, []), (3, []), (4, []), (5, []), (6, []), (7, []), (8, []), (9, []), (12, []), (18, []), (13, [0, 1, 2, 3, 4, 5, 6, 7, 8, 9, 18]), (19, [0, 1, 2, 3, 4, 5, 6, 7, 8, 9]), (11, [0, 1, 2, 3, 4, 5, 6, 7, 8, 9]), (14, []), (15, []), (20, [1, 2, 3, 4, 5, 6, 7, 8, 9, 14, 15]), (21, []), (10, [1, 14, 15, 21]), (16, []), (17, []), (22, []), (23, [])]), ([0, 1, 2, 3, 4, 5, 6, 7, 8, 9, 19, 16, 10, 12, 17, 18, 20, 21, 11, 13, 14, 15, 22, 23], [(0, []), (1, []), (2, []), (3, []), (4, []), (5, []), (6, []), (7, []), (8, []), (9, []), (12, []), (18, []), (13, [0, 1, 2, 3, 4, 5, 6, 7, 8, 9, 18]), (19, [0, 1, 2, 3, 4, 5, 6, 7, 8, 9]), (20, [1, 2, 3, 4, 5, 6, 7, 8, 9]), (21, []), (11, [1, 2, 3, 4, 5, 6, 7, 8, 9, 21]), (14, []), (15, []), (10, [1, 21, 14, 15]), (16, []), (17, []), (22, []), (23, [])]), ([0, 1, 2, 3, 4, 5, 6, 7, 8, 9, 16, 17, 10, 12, 18, 19, 20, 21, 11, 13, 14, 15, 22, 23], [(0, []), (1, []), (2, []), (3, []), (4, []), (5, []), (6, []), (7, []), (8, []), (9, []), (12, []), (18, []), (13, [0, 1, 2, 3, 4, 5, 6, 7, 8, 9, 18]), (19, [0, 1, 2, 3, 4, 5, 6, 7, 8, 9]), (20, [1, 2, 3, 4, 5, 6, 7, 8, 9]), (21, []), (10, [1, 21]), (11, [1, 21]), (14, []), (15, []), (16, []), (17, []), (22, []), (23, [])])]]) (by dsimp only; decide +kernel) ?_
  refine ⟨⟨?_, ?_, ?_, ?_, ?_, trivial⟩, ⟨?_, ?_, ?_, ?_, ?_, trivial⟩, ⟨?_, ?_, ?_, ?_, ?_, trivial⟩, ⟨?_, ?_, ?_, ?_, ?_, trivial⟩, trivial⟩
  all_goals
    simp (config := { maxSteps := 4000000 }) only [go_sem, simprocAttr, ↓dnA, Try.f27, rows_length, wr0, wr1, wr2, wr3, tn0, tn1, tn2, tn3, rd, encBkT]
    refine CallTo.of (c_spec_pick nb bs q2 7 hr2) ?_
    rintro r b ⟨z, rfl, rfl, hz⟩
    have hr3 := h0.step (q := q2 + 1) (by omega) (by omega)
    have hz7 : z = 0 ∨ z = 1 ∨ z = 2 ∨ z = 3 ∨ z = 4 ∨ z = 5 ∨ z = 6 := by omega
    rcases hz7 with rfl | rfl | rfl | rfl | rfl | rfl | rfl
    all_goals
      simp (config := { maxSteps := 4000000 }) only [go_sem, simprocAttr, ↓dnA, Try.f27, rows_length, wr0, wr1, wr2, wr3, tn0, tn1, tn2, tn3, rd, encBkT]
      refine CallTo.of (c_spec_l20Actions nb bs (q2 + 1) 12 hr3 (by omega) (by omega)) ?_
      rintro r b ⟨l, q4, rfl, rfl, hq5, hq6, hll⟩
      simp (config := { maxSteps := 4000000 }) only [go_sem, simprocAttr, ↓dnA, Try.f27, rows_length, wr0, wr1, wr2, wr3, tn0, tn1, tn2, tn3, rd, encBkT]
      exact .same ⟨x, s, _, l, rfl, hxl, hsl, hll⟩

end Go.Proofs.Ytmibclbinebnjaa

/- FnNextBlock. -/
set_option linter.unusedSimpArgs false
set_option linter.unusedVariables false
set_option maxRecDepth 20000
set_option maxHeartbeats 4000000
namespace Go.Proofs.Ytmibclbinebnjaa
open Go Go.RowKit

theorem nextBlock_no {b : Block} {s : List Entry} {v : Int} {l : List Action} (h : (nextBlock b s v l).2 = false) : (nextBlock b s v l).1 = ⟨0, 0, 0, [], 0, 0⟩ := by
  unfold nextBlock at h ⊢
  split
  · rename_i g
    rw [if_pos g] at h
    cases h
  · rfl

theorem c_laws_FnNextBlock (nb : Option Bool) (bs : List Int) (h : ∀ b, b ∈ bs → 0 ≤ b ∧ b ≤ 255) : Det Try.prog 6 [.sl nb (rows encB bs)] (.bool true) := by
  refine fspec_det tab_ok Try.call6 Try.func6 rfl 88 Try.ntmps6 (of_decide_eq_true rfl) fun B => codeK_sound tab_ok _ _ _ ?_
  simp (config := { maxSteps := 4000000 }) only [go_sem, simprocAttr, ↓dnA, Try.f6, rows_length]
  intro hl
  have hc : CodeOk bs := ⟨h, by simp at hl; omega⟩
  refine CallTo.of (c_spec_DrawNextBlock nb bs hc) ?_
  rintro r b ⟨x, s, v, l, rfl, hxl, hsl, hll⟩
  have hI := c_impl_NextBlock (some true) (some true) (some true) x s v l (by omega) (by omega) (by omega)
  have hS := c_spec_NextBlock (some true) (some true) (some true) x s v l (by omega) (by omega) (by omega)
  have hnl := nextBlock_len x s v l
  have his := fun h => nextBlock_is (b := x) (s := s) (v := v) (l := l) h
  have hva := fun h => nextBlock_valid (b := x) (s := s) (v := v) (l := l) h
  have hri := fun h => nextBlock_right (b := x) (s := s) (v := v) (l := l) h
  have hze : (nextBlock x s v l).2 = false → (nextBlock x s v l).1 = ⟨0, 0, 0, [], 0, 0⟩ := nextBlock_no
  generalize nextBlock x s v l = p at hI hS hnl his hva hri hze
  obtain ⟨y, ok⟩ := p
  dsimp only at hI hS hnl his hva hri hze
  cases ok with
  | false =>
    have hze := hze rfl
    subst hze
    have z : ((0 : Int) == 0) = true := rfl
    simp (config := { maxSteps := 4000000 }) only [go_sem, simprocAttr, ↓dnA, Try.f6, rows_length, encBkT]
    refine CallTo.det hI fun _ => ?_
    simp (config := { maxSteps := 4000000 }) only [go_sem, simprocAttr, ↓dnA, Try.f6, rows_length, encBkT, encBkF]
    refine CallTo.det hS fun _ => ?_
    simp (config := { maxSteps := 4000000 }) only [go_sem, simprocAttr, ↓dnA, Try.f6, rows_length, encBkT, encBkF]
    refine CallTo.det (c_laws_sameBlock none none ⟨0, 0, 0, [], 0, 0⟩ (by decide)) fun _ => ?_
    simp (config := { maxSteps := 4000000 }) only [go_sem, simprocAttr, ↓dnA, Try.f6, rows_length, encBkT, encBkF, List.length_nil, nc0, z]
    refine CallTo.det c_laws_alive fun _ => ?_
    simp (config := { maxSteps := 4000000 }) only [go_sem, simprocAttr, ↓dnA, Try.f6, rows_length, encBkT, encBkF, List.length_nil, nc0, z]
  | true =>
    obtain ⟨hy, hv1, hne, hsv, hv4, hlv⟩ := his rfl
    have hV := c_impl_BlockValid none y (by omega)
    rw [hva rfl] at hV
    have hR := c_impl_BlockRight none (some true) y s (by omega) (by omega)
    rw [hri rfl] at hR
    have hB := c_impl_BlockSum (some true) x (by omega)
    have hbd := blockValid_bd hv1
    have hw : IntKind.i64.wrap (x.height + 1) = x.height + 1 := wrap_small _ (by omega) (by omega)
    have e1 : (y.before == blockSum x) = true := by rw [hy]; simp
    have e2 : (y.height == x.height + 1) = true := by rw [hy]; simp
    have e3 : (y.view == v) = true := by rw [hy]; simp
    clear hy
    simp (config := { maxSteps := 4000000 }) only [go_sem, simprocAttr, ↓dnA, Try.f6, rows_length, encBkT]
    refine CallTo.det hI fun _ => ?_
    simp (config := { maxSteps := 4000000 }) only [go_sem, simprocAttr, ↓dnA, Try.f6, rows_length, encBkT, encBkF]
    refine CallTo.det hS fun _ => ?_
    simp (config := { maxSteps := 4000000 }) only [go_sem, simprocAttr, ↓dnA, Try.f6, rows_length, encBkT, encBkF]
    refine CallTo.det (c_laws_sameBlock none none y (by omega)) fun _ => ?_
    simp (config := { maxSteps := 4000000 }) only [go_sem, simprocAttr, ↓dnA, Try.f6, rows_length, encBkT, encBkF]
    refine semL_draw tab_ok mixed_ rfl (ord := [(0, []), (1, []), (2, []), (3, []), (4, []), (5, []), (6, []), (7, []), (8, []), (9, []), (10, []), (11, [8, 9]), (12, []), (13, []), (14, []), (15, []), (16, []), (17, []), (18, []), (19, []), (20, []), (21, []), (22, []), (23, []), (24, []), (25, []), (26, []), (27, []), (28, [])]) (by dsimp only; decide +kernel) ?_
    simp (config := { maxSteps := 4000000 }) only [go_sem, simprocAttr, ↓dnA, Try.f6, rows_length, encBkT, encBkF, hw, e1, e2, e3]
    refine CallTo.det hV fun _ => ?_
    simp (config := { maxSteps := 4000000 }) only [go_sem, simprocAttr, ↓dnA, Try.f6, rows_length, encBkT, encBkF, hw, e1, e2, e3]
    refine CallTo.det hR fun _ => ?_
    simp (config := { maxSteps := 4000000 }) only [go_sem, simprocAttr, ↓dnA, Try.f6, rows_length, encBkT, encBkF, hw, e1, e2, e3]
    refine CallTo.det hB fun _ => ?_
    simp (config := { maxSteps := 4000000 }) only [go_sem, simprocAttr, ↓dnA, Try.f6, rows_length, encBkT, encBkF, hw, e1, e2, e3]

end Go.Proofs.Ytmibclbinebnjaa

/- The closed facts of the row of FnNextBlock. -/
namespace Go.Proofs.Ytmibclbinebnjaa
open Go Go.ChangeShapes Go.WideShapes Go.ChangeAt Go.RowKit

theorem fnNextBlock_named : Try.pinned.checked.prog.funcNamed Rows.fnNextBlockRow.func = some 6 := by kernel_rfl
theorem fnNextBlock_inst : Try.f6.isInstance Try.pinned.checked.prog Rows.fnNextBlockRow.origin Rows.fnNextBlockRow.targs := of_decide_eq_true (by kernel_rfl)
theorem fnNextBlock_wrap : Try.f6.isWrapper Try.pinned.checked.prog Rows.fnNextBlockRow.wrapper Rows.fnNextBlockRow.mainSum := by
  unfold Func.isWrapper; first | (rw [if_pos (by decide +kernel)]; kernel_rfl) | (rw [if_neg (by decide +kernel)]; exact ⟨rfl, rfl⟩)
set_option maxRecDepth 100000 in
theorem fnNextBlock_closed : joinedFacts Try.pinned.checked.prog 6 Try.f6 Rows.fnNextBlockSpec Rows.fnNextBlockRow = true := by kernel_rfl

end Go.Proofs.Ytmibclbinebnjaa

