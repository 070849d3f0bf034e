/- Shared texts I (part 7): W132, W133, W134, W135, W136, W138, Ty1, Ty4, Ty5, Ty6 -/
import Derived.Test.YthcfafpjkbbaoaaGreatI6

set_option linter.unusedSimpArgs false
set_option linter.unusedVariables false

/- Contracts: the way to a block, an action's effect, a store with what an effect writes (the program's). -/
set_option linter.unusedSimpArgs false
set_option linter.unusedVariables false
set_option maxRecDepth 20000
set_option maxHeartbeats 4000000
namespace Go.Proofs.YthcfafpjkbbaoaaGreat
open Go Go.RowKit

theorem c_impl_PathTo (n1 n2 n3 : Option Bool) (t : Tree) (n : Int) (hx : TreeSz t) :
    Det Tryz.prog 44 [.agg (encT n1 n2 n3 t), .int .i64 n] (.osl false 1 (rows encI (pathTo t n))) := by
  refine fspec_det tab_ok Tryz.call44 Tryz.func44 rfl 17 Tryz.ntmps44 (of_decide_eq_true rfl) fun B => codeK_sound tab_ok _ _ _ ?_
  simp (config := { maxSteps := 4000000 }) only [go_sem, simprocAttr, ↓dnA, Tryz.f44, rows_length, encT]
  refine CallTo.det (c_impl_BlockTreeValid n1 n2 n3 t hx) fun _ => ?_
  cases h1 : treeValid t with
  | false =>
    have e : pathTo t n = [] := by unfold pathTo; rw [if_neg (fun g => by rw [h1] at g; exact absurd g.1 (by decide))]
    simp (config := { maxSteps := 4000000 }) only [go_sem, simprocAttr, ↓dnA, Tryz.f44, rows_length, encT, h1, e, rows_nil]
  | true =>
    simp (config := { maxSteps := 4000000 }) only [go_sem, simprocAttr, ↓dnA, Tryz.f44, rows_length, encT, h1]
    refine CallTo.det (c_impl_has n1 n2 n3 t n hx) fun _ => ?_
    cases h2 : inB n 0 ((t.blocks.length : Int) - 1) with
    | false =>
      have e : pathTo t n = [] := by
        unfold pathTo
        rw [if_neg (fun g => by rw [inB_iff.2 (show 0 ≤ n ∧ n ≤ (t.blocks.length : Int) - 1 by omega)] at h2; cases h2)]
      simp (config := { maxSteps := 4000000 }) only [go_sem, simprocAttr, ↓dnA, Tryz.f44, rows_length, encT, h1, h2, e, rows_nil]
    | true =>
      have hb := inB_iff.1 h2
      have ht := treeOk_of h1
      have e : pathTo t n = pathL t n := pathTo_in h1 (by omega) (by omega)
      simp (config := { maxSteps := 4000000 }) only [go_sem, simprocAttr, ↓dnA, Tryz.f44, rows_length, encT, h1, h2]
      refine CallTo.det (c_impl_path n1 n2 n3 t n ht hx (by omega)) fun _ => ?_
      simp (config := { maxSteps := 4000000 }) only [go_sem, simprocAttr, ↓dnA, Tryz.f44, rows_length, encT, h1, h2, e]

theorem c_impl_RunAction (n1 : Option Bool) (s : List Entry) (a : Action) (hs : s.length < 2 ^ 32) : Det Tryz.prog 53 [.sl n1 (rows encE s), .agg (encA a)] (.agg (encFO (runAction s a))) := by
  refine fspec_det tab_ok Tryz.call53 Tryz.func53 rfl 18 Tryz.ntmps53 (of_decide_eq_true rfl) fun B => codeK_sound tab_ok _ _ _ ?_
  unfold runAction
  simp (config := { maxSteps := 4000000 }) only [go_sem, simprocAttr, ↓dnA, Tryz.f53, rows_length]
  refine CallTo.det (c_impl_StoreValid n1 s (by omega)) fun _ => ?_
  cases h1 : storeValid s with
  | false => simp (config := { maxSteps := 4000000 }) only [go_sem, simprocAttr, ↓dnA, Tryz.f53, rows_length, h1, encFO, rows_nil]
  | true =>
    simp (config := { maxSteps := 4000000 }) only [go_sem, simprocAttr, ↓dnA, Tryz.f53, rows_length, h1, encA]
    refine CallTo.det (c_impl_ActionValid a) fun _ => ?_
    cases h2 : actionValid a with
    | false => simp (config := { maxSteps := 4000000 }) only [go_sem, simprocAttr, ↓dnA, Tryz.f53, rows_length, h1, h2, encFO, rows_nil, encA]
    | true =>
      have hV := valuesL_ok h1
      have cl : (cellsI (valuesL s)).length = 32 := by rw [cellsI_length, hV.1]
      have hcv : (cellsI (valuesL s)).take 32 = cellsI (valuesL s) := cellsI_take _ 32 hV.1
      obtain ⟨h3, h4⟩ := entOk_spec 1 s (-1) h1
      have he : runX a (valAt s a.fr) (valAt s a.to) = runE a (valuesL s) := by
        have hr := runAction_eq h2 hV
        rw [storeL_values h1] at hr
        rw [← hr]
        unfold runAction
        rw [h1, h2]
        rfl
      simp (config := { maxSteps := 4000000 }) only [go_sem, simprocAttr, ↓dnA, Tryz.f53, rows_length, h1, h2, encA]
      refine semL_draw tab_ok mixed_ rfl (ord := [(0, []), (1, []), (2, [0]), (3, []), (4, [])]) (by dsimp only; decide +kernel) ?_
      simp (config := { maxSteps := 4000000 }) only [go_sem, simprocAttr, ↓dnA, Tryz.f53, rows_length, h1, h2, encA]
      refine CallTo.det (c_impl_valuesOf n1 s (by omega) (fun e he => by have := h3 e he; omega)) fun _ => ?_
      simp (config := { maxSteps := 4000000 }) only [go_sem, simprocAttr, ↓dnA, Tryz.f53, rows_length, h1, h2, encA, cl, hcv, cellsI_impL, cellsI_impLB, cellsI_noT, cellsI_argL]
      refine CallTo.det (c_impl_run a (valuesL s) (actOk_of h2) hV) fun _ => ?_
      simp (config := { maxSteps := 4000000 }) only [go_sem, simprocAttr, ↓dnA, Tryz.f53, rows_length, h1, h2, encA, cl, hcv, cellsI_impL, cellsI_impLB, cellsI_noT, cellsI_argL, encFO, he]

theorem c_impl_write (n1 n2 : Option Bool) (s ws : List Entry) (hs : s.length < 2 ^ 32) (hs2 : storeValid s = true) (hW : WritesOk ws) (hl : ws.length < 2 ^ 32) :
    Det Tryz.prog 120 [.sl n1 (rows encE s), .sl n2 (rows encE ws)] (.osl false 2 (rows encE (storeL (applyW (valuesL s) ws)))) := by
  refine fspec_det tab_ok Tryz.call120 Tryz.func120 rfl 24 Tryz.ntmps120 (of_decide_eq_true rfl) fun B => codeK_sound tab_ok _ _ _ ?_
  have hV := valuesL_ok hs2
  have cl : (cellsI (valuesL s)).length = 32 := by rw [cellsI_length, hV.1]
  have hcv : (cellsI (valuesL s)).take 32 = cellsI (valuesL s) := cellsI_take _ 32 hV.1
  have cz : (cellsI zeros32).length = 32 := rfl
  obtain ⟨h3, h4⟩ := entOk_spec 1 s (-1) hs2
  simp (config := { maxSteps := 4000000 }) only [go_sem, simprocAttr, ↓dnA, Tryz.f120, rows_length]
  refine CallTo.det (c_impl_valuesOf n1 s (by omega) (fun e he => by have := h3 e he; omega)) fun _ => ?_
  simp (config := { maxSteps := 4000000 }) only [go_sem, simprocAttr, ↓dnA, Tryz.f120, rows_length, cl, hcv, cellsI_impL, cellsI_impLB, cellsI_one, cellsI_exp]
  repeat refine And.intro (by first | omega | (simp; done) | (simp; omega) | assumption) ?_
  refine semL_for tab_ok (fun j : Nat => ⟨24, [(5, .loc 5 0), (10, .sl n2 (rows encE ws)), (11, .int .i64 ws.length), (12, .int .i64 j)], [(5, .var (cellsI (applyW (valuesL s) (ws.take j))))]⟩) (fun j => ws.length - j)
    (fun j => j ≤ ws.length) 0 [(5, 5)] (Weak.of (by rfl) ?_ ?_ (by rfl)) (by omega) ?_
  · simp (config := { maxSteps := 4000000 }) only [go_sem, simprocAttr, ↓dnA, Tryz.f120, rows_length, frW, wk2, wk1, wkL, wkB, hpW, List.mem_cons, Prod.mk.injEq, exists_eq_left, exists_eq_right, exists_eq]
    first | exact of_eq_true (cellsI_wk _ (valuesL s)) | exact ⟨of_eq_true (cellsI_wk _ (valuesL s)), trivial⟩
  · simp (config := { maxSteps := 4000000 }) only [go_sem, simprocAttr, ↓dnA, Tryz.f120, rows_length, frW, wk2, wk1, wkL, wkB, hpW, List.mem_cons, Prod.mk.injEq, exists_eq_left, exists_eq_right, exists_eq]
    try rfl
  · rintro j hj
    have hA : ValsOk (applyW (valuesL s) (ws.take j)) := applyW_ok _ _ hV fun w hw => hW w (List.mem_of_mem_take hw)
    by_cases h2 : j < ws.length
    · have hw1 := hW _ (List.getElem_mem h2)
      have hw0 := applyW_take (valuesL s) _ _ h2
      generalize applyW (valuesL s) (ws.take j) = x at hA hw0
      have cx : (cellsI x).length = 32 := by rw [cellsI_length, hA.1]
      have hk0 := hw1.1.1
      have hk1 : ws[j].key < 32 := by omega
      have hw : IntKind.i64.wrap ((j : Int) + 1) = ((j + 1 : Nat) : Int) := wsucc h2 (by omega)
      simp (config := { maxSteps := 4000000 }) only [go_sem, simprocAttr, ↓dnA, Tryz.f120, rows_length, nlt h2, h2, rows_get _ _ _ h2, encE, nn0, cx, hw, hk0, hk1, cellsI_set, Nat.mul_one, show ¬ (1 = 32) by decide]
      repeat refine And.intro (by first | omega | (simp; done) | (simp; omega) | assumption) ?_
      refine ⟨j + 1, [(5, 5)], by omega, by dsimp only; omega, Weak.of (by rfl) ?_ ?_ (by rfl)⟩
      · simp (config := { maxSteps := 4000000 }) only [go_sem, simprocAttr, ↓dnA, Tryz.f120, rows_length, hw0, frW, wk2, wk1, wkL, wkB, hpW, List.mem_cons, Prod.mk.injEq, exists_eq_left, exists_eq_right, exists_eq]
        first | exact of_eq_true (cellsI_wk _ (putV x ws[j])) | exact ⟨of_eq_true (cellsI_wk _ (putV x ws[j])), trivial⟩
      · simp (config := { maxSteps := 4000000 }) only [go_sem, simprocAttr, ↓dnA, Tryz.f120, rows_length, frW, wk2, wk1, wkL, wkB, hpW, List.mem_cons, Prod.mk.injEq, exists_eq_left, exists_eq_right, exists_eq]
    · have hj' : j = ws.length := by omega
      subst hj'
      rw [List.take_length] at hA
      have cx : (cellsI (applyW (valuesL s) ws)).length = 32 := by rw [cellsI_length, hA.1]
      have hcx : (cellsI (applyW (valuesL s) ws)).take 32 = cellsI (applyW (valuesL s) ws) := cellsI_take _ 32 hA.1
      simp (config := { maxSteps := 4000000 }) only [go_sem, simprocAttr, ↓dnA, Tryz.f120, rows_length, nlf h2, List.take_length, cx, hcx, cellsI_impL, cellsI_impLB, cellsI_noT, cellsI_argL]
      refine CallTo.det (c_impl_store _ hA) fun _ => ?_
      simp (config := { maxSteps := 4000000 }) only [go_sem, simprocAttr, ↓dnA, Tryz.f120, rows_length, nlf h2, List.take_length]

theorem c_impl_ApplyEffect (n1 n2 n3 : Option Bool) (s : List Entry) (e : Effect) (hs : s.length < 2 ^ 32) (hw : e.writes.length < 2 ^ 32) : Det Tryz.prog 52 [.sl n1 (rows encE s), .agg (encF n2 n3 e)] (.osl false 2 (rows encE (applyEffect s e.writes))) := by
  refine fspec_det tab_ok Tryz.call52 Tryz.func52 rfl 18 Tryz.ntmps52 (of_decide_eq_true rfl) fun B => codeK_sound tab_ok _ _ _ ?_
  unfold applyEffect
  simp (config := { maxSteps := 4000000 }) only [go_sem, simprocAttr, ↓dnA, Tryz.f52, rows_length, encF]
  refine CallTo.det (c_impl_StoreValid n1 s (by omega)) fun _ => ?_
  cases h1 : storeValid s with
  | false => simp (config := { maxSteps := 4000000 }) only [go_sem, simprocAttr, ↓dnA, Tryz.f52, rows_length, encF, h1, rows_nil]
  | true =>
    simp (config := { maxSteps := 4000000 }) only [go_sem, simprocAttr, ↓dnA, Tryz.f52, rows_length, encF, h1]
    refine CallTo.det (c_impl_entriesValid n3 e.writes 0 (by omega)) fun _ => ?_
    cases h2 : entOk 0 (-1) e.writes with
    | false => simp (config := { maxSteps := 4000000 }) only [go_sem, simprocAttr, ↓dnA, Tryz.f52, rows_length, encF, h1, h2, rows_nil]
    | true =>
      have hV := valuesL_ok h1
      have hW := writesOk_ent h2
      have he := applyS_storeL e.writes hV hW
      rw [storeL_values h1] at he
      simp (config := { maxSteps := 4000000 }) only [go_sem, simprocAttr, ↓dnA, Tryz.f52, rows_length, encF, h1, h2]
      refine CallTo.det (c_impl_write n1 n3 s e.writes hs h1 hW hw) fun _ => ?_
      simp (config := { maxSteps := 4000000 }) only [go_sem, simprocAttr, ↓dnA, Tryz.f52, rows_length, encF, h1, h2, he]

end Go.Proofs.YthcfafpjkbbaoaaGreat

/- Contracts: the values ahead of a block; which blocks are right (the program's). -/
set_option linter.unusedSimpArgs false
set_option linter.unusedVariables false
set_option maxRecDepth 20000
set_option maxHeartbeats 4000000
namespace Go.Proofs.YthcfafpjkbbaoaaGreat
open Go Go.RowKit

theorem boolRows_nil : boolRows [] = [] := rfl
theorem boolRows_snoc (l : List Bool) (b : Bool) : boolRows l ++ [[.bool b]] = boolRows (l ++ [b]) := by simp [boolRows]

theorem c_impl_ahead (n1 n2 n3 : Option Bool) (t : Tree) (k : Nat) (ht : TreeOk t) (hx : TreeSz t) (hk : k < t.blocks.length) :
    Det Tryz.prog 96 [.agg (encT n1 n2 n3 t), .int .i64 k] (.agg (cellsI (aheadV t k))) := by
  refine fspec_det tab_ok Tryz.call96 Tryz.func96 rfl 17 Tryz.ntmps96 (of_decide_eq_true rfl) fun B => codeK_sound tab_ok _ _ _ ?_
  have hO := aheadV_ok ht hk
  have cl : (cellsI (aheadV t k)).length = 32 := by rw [cellsI_length, hO.1]
  have hcv : (cellsI (aheadV t k)).take 32 = cellsI (aheadV t k) := cellsI_take _ 32 hO.1
  by_cases h0 : k = 0
  · have z : ((k : Int) == 0) = true := by simp; omega
    obtain ⟨h3, h4⟩ := entOk_spec 1 t.base (-1) ht.store
    have e : aheadV t k = valuesL t.base := by unfold aheadV; rw [if_pos h0]
    rw [e] at cl hcv ⊢
    simp (config := { maxSteps := 4000000 }) only [go_sem, simprocAttr, ↓dnA, Tryz.f96, boolRows_length, rows_length, encT, z]
    refine CallTo.det (c_impl_valuesOf n1 t.base hx.base (fun e he => by have := h3 e he; omega)) fun _ => ?_
    simp (config := { maxSteps := 4000000 }) only [go_sem, simprocAttr, ↓dnA, Tryz.f96, boolRows_length, rows_length, encT, z, cl, hcv, cellsI_impL, cellsI_impLB, cellsI_one, cellsI_exp, cellsI_rw]
    try trivial
  · have z : ((k : Int) == 0) = false := by simp; omega
    have hkb : k < t.before.length := by rw [ht.bef]; exact hk
    have hl := ht.link k (by omega) hk
    have h2 := hl.hi
    have e : aheadV t k = afterV t (t.bef k) := by unfold aheadV; rw [if_neg h0]
    have g1 : (rows encI t.before).getD k [] = [.int .i64 (t.bef k)] := by rw [rows_get _ _ k hkb, t.bef_get k hkb]; rfl
    rw [e] at cl hcv ⊢
    simp (config := { maxSteps := 4000000 }) only [go_sem, simprocAttr, ↓dnA, Tryz.f96, boolRows_length, rows_length, encT, z]
    refine semL_draw tab_ok mixed_ rfl (ord := [(0, []), (1, []), (2, []), (3, []), (4, []), (5, []), (6, []), (7, [])]) (by dsimp only; decide +kernel) ?_
    simp (config := { maxSteps := 4000000 }) only [go_sem, simprocAttr, ↓dnA, Tryz.f96, boolRows_length, rows_length, encT, z, nn0, nlt hkb, hkb, g1]
    refine CallTo.det (c_impl_after n1 n2 n3 t (t.bef k) ht hx (by omega)) fun _ => ?_
    simp (config := { maxSteps := 4000000 }) only [go_sem, simprocAttr, ↓dnA, Tryz.f96, boolRows_length, rows_length, encT, z, cl, hcv, cellsI_impL, cellsI_impLB, cellsI_one, cellsI_exp, cellsI_rw]
    try trivial

theorem c_impl_RightBlocks (n1 n2 n3 : Option Bool) (t : Tree) (hx : TreeSz t) :
    Det Tryz.prog 32 [.agg (encT n1 n2 n3 t)] (.osl false 1 (boolRows (rights t))) := by
  refine fspec_det tab_ok Tryz.call32 Tryz.func32 rfl 44 Tryz.ntmps32 (of_decide_eq_true rfl) fun B => codeK_sound tab_ok _ _ _ ?_
  simp (config := { maxSteps := 4000000 }) only [go_sem, simprocAttr, ↓dnA, Tryz.f32, boolRows_length, rows_length, encT]
  refine CallTo.det (c_impl_BlockTreeValid n1 n2 n3 t hx) fun _ => ?_
  cases h0 : treeValid t with
  | false =>
    have e : rights t = [] := by unfold rights; rw [h0]; rfl
    simp (config := { maxSteps := 4000000 }) only [go_sem, simprocAttr, ↓dnA, Tryz.f32, boolRows_length, rows_length, encT, h0, e, boolRows_nil]
  | true =>
    have ht := treeOk_of h0
    have hlen := ht.len
    have e : rights t = rightsTo t t.blocks.length := by unfold rights; rw [h0]; rfl
    rw [e]
    simp (config := { maxSteps := 4000000 }) only [go_sem, simprocAttr, ↓dnA, Tryz.f32, boolRows_length, rows_length, encT, h0]
    refine semL_nilA 3 600 1 true (by rfl) (by rfl) (by decide) (by decide) ?_
    refine semL_for tab_ok (fun i : Nat => ⟨44, [(1, .loc 1 0), (3, .row 600 i), (11, .sl n2 (rows encB1 t.blocks)), (12, .int .i64 t.blocks.length), (13, .int .i64 i)],
        [(1, .var (encT n1 n2 n3 t)), (600, .row true false 1 (boolRows (rightsTo t i)))]⟩) (fun i => t.blocks.length - i)
      (fun i => i ≤ t.blocks.length) 0 [(1, 1), (600, 600)] (Weak.of (by rfl) ?_ ?_ (by rfl)) (by omega) ?_
    · simp (config := { maxSteps := 4000000 }) only [go_sem, simprocAttr, ↓dnA, Tryz.f32, boolRows_length, rows_length, encT, frW, wk2, wk1, wkL, wkB, hpW, List.mem_cons, Prod.mk.injEq, exists_eq_left, exists_eq_right, exists_eq]
      try rfl
    · simp (config := { maxSteps := 4000000 }) only [go_sem, simprocAttr, ↓dnA, Tryz.f32, boolRows_length, rows_length, encT, frW, wk2, wk1, wkL, wkB, hpW, List.mem_cons, Prod.mk.injEq, exists_eq_left, exists_eq_right, exists_eq]
      try rfl
    · rintro i hi
      have hl := rightsTo_len t i
      by_cases h : i < t.blocks.length
      · have hw : IntKind.i64.wrap ((i : Int) + 1) = ((i + 1 : Nat) : Int) := wsucc h (by omega)
        have hst : rightsTo t (i + 1) = rightsTo t i ++ [blockRight (t.blk i) (storeL (aheadV t i)) && (i == 0 || (rightsTo t i).getD (t.bef i).toNat false)] := rfl
        have hbk : (rows encB1 t.blocks).getD i [] = encB1 (t.blk i) := rows_gd encB1 t.blocks i h
        have hb10 := tb_list (ht.valid i h)
        have hA := c_impl_ahead n1 n2 n3 t i ht hx h
        have hV := aheadV_ok ht h
        generalize aheadV t i = v at hA hV hst
        have cl : (cellsI v).length = 32 := by rw [cellsI_length, hV.1]
        have hcv : (cellsI v).take 32 = cellsI v := cellsI_take _ 32 hV.1
        have hsl := store_len (storeL_valid hV)
        have hS := c_impl_store v hV
        have hB := c_impl_BlockRight none none (t.blk i) (storeL v) (by omega) (by omega)
        generalize storeL v = s at hS hB hst hsl
        generalize blockRight (t.blk i) s = br at hB hst
        generalize rightsTo t i = l at hl hst
        have htk : (boolRows l).take i = boolRows l := by rw [List.take_of_length_le]; rw [boolRows_length]; omega
        have hll : ∀ b : Bool, (l ++ [b]).length = i + 1 := fun b => by simp [hl]
        simp (config := { maxSteps := 4000000 }) only [go_sem, simprocAttr, ↓dnA, Tryz.f32, boolRows_length, rows_length, encT, nlt h, h, nn0, hbk, encB1, encBk]
        refine semL_draw tab_ok mixed_ rfl (ord := [(0, []), (1, []), (2, []), (3, [0]), (4, [0]), (5, []), (6, [])]) (by dsimp only; decide +kernel) ?_
        simp (config := { maxSteps := 4000000 }) only [go_sem, simprocAttr, ↓dnA, Tryz.f32, boolRows_length, rows_length, encT, nlt h, h, nn0, hbk, encB1, encBk]
        refine CallTo.det hA fun _ => ?_
        simp (config := { maxSteps := 4000000 }) only [go_sem, simprocAttr, ↓dnA, Tryz.f32, boolRows_length, rows_length, encT, nlt h, h, nn0, hbk, encB1, encBk, cl, hcv, cellsI_impL, cellsI_impLB, cellsI_noT, cellsI_argL]
        refine CallTo.det hS fun _ => ?_
        simp (config := { maxSteps := 4000000 }) only [go_sem, simprocAttr, ↓dnA, Tryz.f32, boolRows_length, rows_length, encT, nlt h, h, nn0, hbk, encB1, encBk, cellsI_impL, cellsI_impLB]
        refine CallTo.det hB fun _ => ?_
        cases br with
        | false =>
          rw [Bool.false_and] at hst
          simp (config := { maxSteps := 4000000 }) only [go_sem, simprocAttr, ↓dnA, Tryz.f32, boolRows_length, rows_length, encT, cellsI_impL, cellsI_impLB, nlt h, h, nn0, hl, htk, hw, boolRows_snoc]
          repeat refine And.intro (by first | omega | (simp; done) | (simp; omega) | assumption) ?_
          refine ⟨i + 1, [(1, 1), (41, 600)], by omega, by dsimp only; omega, Weak.of (by rfl) ?_ ?_ (by rfl)⟩
          · simp (config := { maxSteps := 4000000 }) only [go_sem, simprocAttr, ↓dnA, Tryz.f32, boolRows_length, rows_length, encT, hst, frW, wk2, wk1, wkL, wkB, hpW, List.mem_cons, Prod.mk.injEq, exists_eq_left, exists_eq_right, exists_eq]
            try rfl
          · simp (config := { maxSteps := 4000000 }) only [go_sem, simprocAttr, ↓dnA, Tryz.f32, boolRows_length, rows_length, encT, hll, frW, wk2, wk1, wkL, wkB, hpW, List.mem_cons, Prod.mk.injEq, exists_eq_left, exists_eq_right, exists_eq]
            try rfl
        | true =>
          rw [Bool.true_and] at hst
          by_cases h0 : i = 0
          · have z : ((i : Int) == 0) = true := by simp; omega
            have z2 : (i == 0) = true := by simp; omega
            rw [z2, Bool.true_or] at hst
            simp (config := { maxSteps := 4000000 }) only [go_sem, simprocAttr, ↓dnA, Tryz.f32, boolRows_length, rows_length, encT, cellsI_impL, cellsI_impLB, nlt h, h, nn0, hl, htk, hw, z, boolRows_snoc]
            repeat refine And.intro (by first | omega | (simp; done) | (simp; omega) | assumption) ?_
            refine ⟨i + 1, [(1, 1), (41, 600)], by omega, by dsimp only; omega, Weak.of (by rfl) ?_ ?_ (by rfl)⟩
            · simp (config := { maxSteps := 4000000 }) only [go_sem, simprocAttr, ↓dnA, Tryz.f32, boolRows_length, rows_length, encT, hst, frW, wk2, wk1, wkL, wkB, hpW, List.mem_cons, Prod.mk.injEq, exists_eq_left, exists_eq_right, exists_eq]
              try rfl
            · simp (config := { maxSteps := 4000000 }) only [go_sem, simprocAttr, ↓dnA, Tryz.f32, boolRows_length, rows_length, encT, hll, frW, wk2, wk1, wkL, wkB, hpW, List.mem_cons, Prod.mk.injEq, exists_eq_left, exists_eq_right, exists_eq]
              try rfl
          · have z : ((i : Int) == 0) = false := by simp; omega
            have z2 : (i == 0) = false := by simp; omega
            rw [z2, Bool.false_or] at hst
            have hib : i < t.before.length := by rw [ht.bef]; exact h
            have hlk := ht.link i (by omega) h
            have k1 := hlk.lo
            have k2 := hlk.hi
            obtain ⟨j, hj⟩ : ∃ j : Nat, t.bef i = (j : Int) := ⟨(t.bef i).toNat, by omega⟩
            have hjl : j < l.length := by omega
            have hji : j < i := by omega
            have g1 : (rows encI t.before).getD i [] = [.int .i64 (j : Nat)] := by rw [rows_get _ _ i hib, t.bef_get i hib, hj]; rfl
            rw [hj, Int.toNat_natCast] at hst
            have hgj := boolRows_get l j hjl
            generalize l.getD j false = bj at hst hgj
            simp (config := { maxSteps := 4000000 }) only [go_sem, simprocAttr, ↓dnA, Tryz.f32, boolRows_length, rows_length, encT, cellsI_impL, cellsI_impLB, nlt h, h, nn0, hl, htk, hw, z, g1, nlt hib, hib, nlt hji, hji, hgj, boolRows_snoc]
            repeat refine And.intro (by first | omega | (simp; done) | (simp; omega) | assumption) ?_
            refine ⟨i + 1, [(1, 1), (41, 600)], by omega, by dsimp only; omega, Weak.of (by rfl) ?_ ?_ (by rfl)⟩
            · simp (config := { maxSteps := 4000000 }) only [go_sem, simprocAttr, ↓dnA, Tryz.f32, boolRows_length, rows_length, encT, hst, frW, wk2, wk1, wkL, wkB, hpW, List.mem_cons, Prod.mk.injEq, exists_eq_left, exists_eq_right, exists_eq]
              try rfl
            · simp (config := { maxSteps := 4000000 }) only [go_sem, simprocAttr, ↓dnA, Tryz.f32, boolRows_length, rows_length, encT, hll, frW, wk2, wk1, wkL, wkB, hpW, List.mem_cons, Prod.mk.injEq, exists_eq_left, exists_eq_right, exists_eq]
              try rfl
      · have hi' : i = t.blocks.length := by omega
        subst hi'
        simp (config := { maxSteps := 4000000 }) only [go_sem, simprocAttr, ↓dnA, Tryz.f32, boolRows_length, rows_length, encT, nlf h, hl]

end Go.Proofs.YthcfafpjkbbaoaaGreat

/- Heads: where they stand in the list of blocks; marks of a view: plain. -/
namespace Go.Proofs.YthcfafpjkbbaoaaGreat
open Go Go.RowKit

/-- The number of the actions of the blocks on a way. -/
def actsNum (t : Tree) (p : List Int) : Nat := (actsOf t p).length
theorem actsNum_zero (t : Tree) (p : List Int) : actsNum t (p.take 0) = 0 := rfl
theorem actsNum_take (t : Tree) (p : List Int) (i : Nat) (h : i < p.length) : actsNum t (p.take (i + 1)) = actsNum t (p.take i) + (t.blk p[i].toNat).list.length := by
  unfold actsNum
  rw [actsOf_take t p i h, List.length_append]

theorem actsOf_valid {t : Tree} (ht : TreeOk t) : ∀ (p : List Int), (∀ x, x ∈ p → 0 ≤ x ∧ x < t.blocks.length) → ∀ a, a ∈ actsOf t p → actionValid a = true := by
  intro p hp a ha
  unfold actsOf at ha
  obtain ⟨x, hx, ha⟩ := List.mem_flatMap.1 ha
  have hb := ht.valid x.toNat (by have := hp x hx; omega)
  unfold blockValid at hb
  simp only [Bool.and_eq_true] at hb
  have hb := hb.2
  unfold actionsValid at hb
  rw [Bool.and_eq_true] at hb
  exact List.all_eq_true.1 hb.2 a ha

/-- One action after another. -/
theorem runAllE_snoc (v : List Int) (l : List Action) (i : Nat) (h : i < l.length) : (runAllE v (l.take (i + 1))).1 = applyW (runAllE v (l.take i)).1 (runE l[i] (runAllE v (l.take i)).1).writes := by
  rw [runAllE_take _ _ _ h]
  rfl

end Go.Proofs.YthcfafpjkbbaoaaGreat

/- The committed store: the serial run of what is committed: plain. -/
namespace Go.Proofs.YthcfafpjkbbaoaaGreat
open Go Go.RowKit

theorem worldStore_acts {w : Wld} (h : worldValid w = true) : worldStore w = storeL (runAllE (valuesL w.tree.base) (worldActions w)).1 := by
  have hb := headW_bd h
  have ht := (worldValid_parts h).1
  obtain ⟨k, hk⟩ : ∃ k : Nat, headW w = (k : Int) := ⟨(headW w).toNat, by omega⟩
  rw [worldStore_yes h, worldActions_yes h, hk, storeOf_in ht (by omega)]
  unfold afterV
  rw [wayV_acts]

theorem worldActions_ok {w : Wld} (h : worldValid w = true) : ∀ a, a ∈ worldActions w → actionValid a = true := by
  have hb := headW_bd h
  have ht := (worldValid_parts h).1
  rw [worldActions_yes h]
  exact actsOf_valid ht _ fun x hx => by have := pathL_bd ht hb.2 x hx; omega

theorem worldStore_valid {w : Wld} (h : worldValid w = true) : storeValid (worldStore w) = true := by
  have hb := headW_bd h
  have ht := (worldValid_parts h).1
  obtain ⟨k, hk⟩ : ∃ k : Nat, headW w = (k : Int) := ⟨(headW w).toNat, by omega⟩
  rw [worldStore_yes h, hk, storeOf_in ht (by omega)]
  exact storeL_valid (afterV_ok ht (by omega))

theorem committed_root {w : Wld} (h : worldValid w = true) {k : Nat} (hk : headW w = (k : Int)) (hr : (rightsTo w.tree w.tree.blocks.length).getD k false = true) : rootOf (worldStore w) = (w.tree.blk k).root := by
  have hb := headW_bd h
  have ht := (worldValid_parts h).1
  rw [worldStore_yes h, hk]
  exact right_root ht (by omega) hr

end Go.Proofs.YthcfafpjkbbaoaaGreat

/- Results of several parts that are owned, taken as read only. -/
namespace Go.Proofs.YthcfafpjkbbaoaaGreat
open Go Go.RowKit

end Go.Proofs.YthcfafpjkbbaoaaGreat

/- Drawn runs of votes. -/
set_option linter.unusedSimpArgs false
set_option linter.unusedVariables false
set_option maxRecDepth 20000
set_option maxHeartbeats 4000000
namespace Go.Proofs.YthcfafpjkbbaoaaGreat
open Go Go.RowKit

end Go.Proofs.YthcfafpjkbbaoaaGreat

/- Arguments of the laws, by their types. -/
set_option linter.unusedSimpArgs false
namespace Go.Proofs.YthcfafpjkbbaoaaGreat
open Go Go.ChangeShapes Go.WideShapes Go.ChangeAt Go.RowKit

theorem own_ : ownKnob Tryz.prog.godebug = none := by kernel_rfl
theorem laidOut_ : laidOutB Tryz.prog = true := by kernel_rfl

/-- The cells of one value read as the cells of a datum. -/
def Leqs (r c : List AV) : Prop := r.length = c.length ∧ ∀ (j : Nat) (_ : j < c.length), Leq (r.getD j .top) (c.getD j .top)
theorem Leqs.refl (c : List AV) : Leqs c c := ⟨rfl, fun _ _ => Leq.refl _⟩
theorem Leqs.agg {r c : List AV} (h : Leqs r c) : Leq (.agg r) (.agg c) := Leq.agg h.1 h.2

theorem Leqs.cons {a b : AV} {r c : List AV} (h : Leq a b) (h' : Leqs r c) : Leqs (a :: r) (b :: c) := by
  refine ⟨by simp [h'.1], fun j hj => ?_⟩
  cases j with
  | zero => exact h
  | succ j => exact h'.2 j (by simpa using hj)

theorem Leqs.one {r : List AV} {b : AV} (h : Leqs r [b]) : ∃ a, r = [a] ∧ Leq a b := by
  obtain ⟨h1, h2⟩ := h
  match r, h1 with
  | [a], _ => exact ⟨a, rfl, h2 0 (by simp)⟩

end Go.Proofs.YthcfafpjkbbaoaaGreat

/- Arguments of the laws, by their types: slices of entries, of actions. -/
set_option linter.unusedSimpArgs false
namespace Go.Proofs.YthcfafpjkbbaoaaGreat
open Go Go.RowKit

end Go.Proofs.YthcfafpjkbbaoaaGreat

/- Arguments of the laws, by their types: blocks. -/
set_option linter.unusedSimpArgs false
namespace Go.Proofs.YthcfafpjkbbaoaaGreat
open Go Go.RowKit

end Go.Proofs.YthcfafpjkbbaoaaGreat

/- Arguments of the laws, by their types: codes. -/
set_option linter.unusedSimpArgs false
namespace Go.Proofs.YthcfafpjkbbaoaaGreat
open Go Go.RowKit

/-- A slice of elements that read as data. -/
theorem ty_rowsC {α : Type} (e : α → List AV) {et : TypeId} {es : List (List AV)} (h : ∀ (j : Nat) (_ : j < es.length), Ty tab et (es.getD j [])) (hx : ∀ r, Ty tab et r → ∃ x, r.length = (e x).length ∧ ∀ (j : Nat) (_ : j < (e x).length), Leq (r.getD j .top) ((e x).getD j .top)) :
    ∃ xs : List α, es.length = xs.length ∧ ∀ nn, Leq (.sl nn es) (.sl nn (rows e xs)) := by
  have key : ∃ xs : List α, es.length = xs.length ∧ ∀ (i : Nat) (hi : i < xs.length), (es.getD i []).length = (e (xs[i]'hi)).length ∧ ∀ (j : Nat) (_ : j < (e (xs[i]'hi)).length), Leq ((es.getD i []).getD j .top) ((e (xs[i]'hi)).getD j .top) := by
    induction es with
    | nil => exact ⟨[], rfl, fun i hi => absurd hi (by simp)⟩
    | cons r rs ih =>
      obtain ⟨x, hx1, hx2⟩ := hx r (h 0 (by simp))
      obtain ⟨xs, h1, h2⟩ := ih (fun j hj => h (j + 1) (by simpa using hj))
      refine ⟨x :: xs, by simp [h1], fun i hi => ?_⟩
      cases i with
      | zero => exact ⟨hx1, hx2⟩
      | succ i => exact h2 i (by simpa using hi)
  obtain ⟨xs, h1, h2⟩ := key
  refine ⟨xs, h1, fun nn => Leq.sl (by rw [rows_length, h1]) (fun i hi => ?_) (fun i j hi hj => ?_)⟩
  · rw [rows_length] at hi
    rw [rows_get _ _ _ hi]
    exact (h2 i hi).1
  · rw [rows_length] at hi
    rw [rows_get _ _ _ hi] at hj ⊢
    exact (h2 i hi).2 j hj

theorem ty_code {a : AV} (h : TyArg tab 22 a) : ∃ nb bs, Leq a (.sl nb (rows encB bs)) ∧ ∀ b, b ∈ bs → 0 ≤ b ∧ b ≤ 255 := by
  obtain ⟨nn, es, e1, _, _, he⟩ := (h.one_inv tabAt_22 rfl).slice_inv tabAt_22 rfl
  have hx : ∀ r, Ty tab 5 r → ∃ x : { n : Int // 0 ≤ n ∧ n ≤ 255 }, r.length = (encB x.1).length ∧ ∀ (j : Nat) (_ : j < (encB x.1).length), Leq (r.getD j .top) ((encB x.1).getD j .top) := by
    intro r hr
    obtain ⟨n, e, hn⟩ := hr.int_inv tabAt_5 rfl
    have hn' : 0 ≤ n ∧ n ≤ 255 := hn
    exact ⟨⟨n, hn'⟩, by rw [e]; rfl, fun j _ => by rw [e]; exact Leq.refl _⟩
  obtain ⟨xs, h1, h2⟩ := ty_rowsC (fun x : { n : Int // 0 ≤ n ∧ n ≤ 255 } => encB x.1) he hx
  have ea : a = .sl (some nn) es := by simpa using e1
  refine ⟨some nn, xs.map (·.1), ?_, fun b hb => ?_⟩
  · rw [ea]
    have := h2 (some nn)
    have e3 : rows (fun x : { n : Int // 0 ≤ n ∧ n ≤ 255 } => encB x.1) xs = rows encB (xs.map (·.1)) := by simp [rows]
    rwa [e3] at this
  · obtain ⟨x, _, rfl⟩ := List.mem_map.1 hb
    exact x.2

/-- A law of a code. -/
theorem law_code {k : FuncId} (h : ∀ nb bs, (∀ b, b ∈ bs → 0 ≤ b ∧ b ≤ 255) → Det Tryz.prog k [.sl nb (rows encB bs)] (.bool true)) {cs : List AV} (hc : TyArgs tab [22] cs) : Det Tryz.prog k cs (.bool true) := by
  match cs, hc with
  | [a], hc =>
    obtain ⟨nb, bs, h1, h2⟩ := ty_code hc.1
    refine FSpec.args (h nb bs h2) rfl fun i hi => ?_
    have : i = 0 := by simp at hi; exact hi
    subst this
    exact h1

end Go.Proofs.YthcfafpjkbbaoaaGreat

