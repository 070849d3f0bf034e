/- Shared texts R (part 2): W56, W58, W59, W63, W68, W71 -/
import Derived.Test.YtmibclbinebnjaaR1

/- Contracts: the block behind a block. -/
set_option linter.unusedSimpArgs false
set_option linter.unusedVariables false
set_option maxRecDepth 20000
set_option maxHeartbeats 4000000
namespace Go.Proofs.Ytmibclbinebnjaa
open Go Go.RowKit

def encBkF (b : Block) : List AV := [.int .i64 b.before, .int .i64 b.height, .int .i64 b.view, .osl false 4 (rows encA b.list), .int .i64 b.root, .int .i64 b.effects]

/-- The block behind a block. -/
def nextBlock (b : Block) (s : List Entry) (v : Int) (l : List Action) : Block × Bool :=
  if blockValid b && (b.height != 100) && storeValid s && inB v (b.view + 1) 1000 && actionsValid l then (⟨blockSum b, b.height + 1, v, l, rootOf (runSerial s l).1, effectsSum (runSerial s l).2⟩, true) else (⟨0, 0, 0, [], 0, 0⟩, false)

theorem nextBlock_len (b : Block) (s : List Entry) (v : Int) (l : List Action) : (nextBlock b s v l).1.list.length ≤ l.length := by
  unfold nextBlock
  split
  · exact Nat.le_refl _
  · simp

theorem runE_rlen (a : Action) (v : List Int) : (runE a v).reads.length ≤ 2 := by
  show ((readsA a).map _).length ≤ 2
  rw [List.length_map]; exact readsA_len _

theorem runAllE_effOk (v : List Int) (l : List Action) : ∀ i, i ≤ l.length → EffOk (runAllE v (l.take i)).2
  | 0, _ => fun e he => by simp [runAllE] at he
  | i + 1, hi => by
    have ih := runAllE_effOk v l i (by omega)
    rw [runAllE_take _ _ _ (by omega)]
    intro e he
    unfold stepR at he
    rcases List.mem_append.1 he with he | he
    · exact ih e he
    · rw [List.mem_singleton.1 he]
      have h1 := runE_rlen l[i] (runAllE v (l.take i)).1
      have h2 := runE_wlen l[i] (runAllE v (l.take i)).1
      omega

theorem runSerial_ok {s : List Entry} {l : List Action} (h1 : storeValid s = true) (h2 : actionsValid l = true) : storeValid (runSerial s l).1 = true ∧ (runSerial s l).2.length = l.length ∧ EffOk (runSerial s l).2 := by
  obtain ⟨ha, h10⟩ := actionsValid_ok h2
  have hV := valuesL_ok h1
  have hO := runAllE_ok ha hV l.length (Nat.le_refl _)
  have hE := runAllE_effOk (valuesL s) l l.length (Nat.le_refl _)
  rw [List.take_length] at hO hE
  unfold runSerial
  rw [h1, h2]
  exact ⟨storeL_valid hO.1, hO.2, hE⟩

theorem blockValid_bd {b : Block} (h : blockValid b = true) : (0 ≤ b.height ∧ b.height ≤ 100) ∧ (0 ≤ b.view ∧ b.view ≤ 1000) ∧ b.list.length ≤ 10 := by
  unfold blockValid at h
  simp only [Bool.and_eq_true] at h
  obtain ⟨⟨⟨⟨⟨_, _⟩, _⟩, h4⟩, h5⟩, h6⟩ := h
  exact ⟨inB_iff.1 h4, inB_iff.1 h5, (actionsValid_ok h6).2⟩

theorem c_impl_Block_clone (n : Option Bool) (b : Block) (hl : b.list.length < 2 ^ 32) : Det Try.prog 85 [.agg (encBk n b)] (.agg (encBkF b)) := by
  refine fspec_det tab_ok Try.call85 Try.func85 rfl 8 Try.ntmps85 (of_decide_eq_true rfl) fun B => codeK_sound tab_ok _ _ _ ?_
  have a1 := all_rows encA AV.flat (fun _ => rfl) b.list
  have a2 := all_rows encA AV.one (fun _ => rfl) b.list
  have a3 := sz0_rows encA 4 (fun _ => rfl) b.list
  simp (config := { maxSteps := 4000000 }) only [go_sem, simprocAttr, ↓dnA, Try.f85, rows_length, encBk, encBkF]
  repeat refine And.intro (by first | omega | (simp; done) | (simp; omega) | assumption) ?_
  omega

theorem c_impl_NextBlock (n n1 n2 : Option Bool) (b : Block) (s : List Entry) (v : Int) (l : List Action) (hb : b.list.length < 2 ^ 32) (hs : s.length < 2 ^ 32) (hl : l.length < 2 ^ 32) :
    Det Try.prog 28 [.agg (encBk n b), .sl n1 (rows encE s), .int .i64 v, .sl n2 (rows encA l)] (.tup [.agg (encBkF (nextBlock b s v l).1), .bool (nextBlock b s v l).2]) := by
  refine fspec_det tab_ok Try.call28 Try.func28 rfl 58 Try.ntmps28 (of_decide_eq_true rfl) fun B => codeK_sound tab_ok _ _ _ ?_
  unfold nextBlock
  simp (config := { maxSteps := 4000000 }) only [go_sem, simprocAttr, ↓dnA, Try.f28, rows_length, encBk]
  refine CallTo.det (c_impl_BlockValid n b (by omega)) fun _ => ?_
  cases h1 : blockValid b with
  | false => simp (config := { maxSteps := 4000000 }) only [go_sem, simprocAttr, ↓dnA, Try.f28, rows_length, encBk, encBkF, h1, rows_nil]
  | true =>
    obtain ⟨b1, b2, b3⟩ := blockValid_bd h1
    cases h2 : (b.height == 100) with
    | true =>
      have h2' : (b.height != 100) = false := by simpa using h2
      simp (config := { maxSteps := 4000000 }) only [go_sem, simprocAttr, ↓dnA, Try.f28, rows_length, encBk, encBkF, h1, h2, h2', rows_nil]
    | false =>
      have h2' : (b.height != 100) = true := by simpa using h2
      simp (config := { maxSteps := 4000000 }) only [go_sem, simprocAttr, ↓dnA, Try.f28, rows_length, encBk, encBkF, h1, h2, h2', rows_nil]
      refine CallTo.det (c_impl_StoreValid n1 s (by omega)) fun _ => ?_
      cases h3 : storeValid s with
      | false => simp (config := { maxSteps := 4000000 }) only [go_sem, simprocAttr, ↓dnA, Try.f28, rows_length, encBk, encBkF, h1, h2, h2', h3, rows_nil]
      | true =>
        have hw : IntKind.i64.wrap (b.view + 1) = b.view + 1 := wrap_small _ (by omega) (by omega)
        simp (config := { maxSteps := 4000000 }) only [go_sem, simprocAttr, ↓dnA, Try.f28, rows_length, encBk, encBkF, h1, h2, h2', h3, hw, rows_nil]
        refine CallTo.det (c_in _ _ _) fun _ => ?_
        cases h4 : inB v (b.view + 1) 1000 with
        | false => simp (config := { maxSteps := 4000000 }) only [go_sem, simprocAttr, ↓dnA, Try.f28, rows_length, encBk, encBkF, h1, h2, h2', h3, h4, hw, rows_nil]
        | true =>
          simp (config := { maxSteps := 4000000 }) only [go_sem, simprocAttr, ↓dnA, Try.f28, rows_length, encBk, encBkF, h1, h2, h2', h3, h4, hw, rows_nil]
          refine CallTo.det (c_impl_ActionsValid n2 l (by omega)) fun _ => ?_
          cases h5 : actionsValid l with
          | false => simp (config := { maxSteps := 4000000 }) only [go_sem, simprocAttr, ↓dnA, Try.f28, rows_length, encBk, encBkF, h1, h2, h2', h3, h4, h5, hw, rows_nil]
          | true =>
            obtain ⟨r1, r2, r3⟩ := runSerial_ok h3 h5
            obtain ⟨_, h10⟩ := actionsValid_ok h5
            have r4 := store_len r1
            simp (config := { maxSteps := 4000000 }) only [go_sem, simprocAttr, ↓dnA, Try.f28, rows_length, encBk, encBkF, h1, h2, h2', h3, h4, h5, hw, rows_nil]
            refine CallTo.det (c_impl_RunSerial n1 n2 s l hs hl) fun _ => ?_
            generalize runSerial s l = p at r1 r2 r3 r4
            obtain ⟨s', es⟩ := p
            dsimp only at r1 r2 r3 r4 ⊢
            simp (config := { maxSteps := 4000000 }) only [go_sem, simprocAttr, ↓dnA, Try.f28, rows_length, encBk, encBkF, h1, h2, h2', h3, h4, h5, hw, rows_nil]
            refine semL_draw tab_ok mixed_ rfl (ord := [(0, []), (2, []), (3, []), (4, []), (5, []), (6, []), (7, []), (9, []), (1, [2, 3, 4, 5, 6, 7, 9]), (8, [2, 3, 4, 5, 6, 9]), (10, [2, 3, 4, 5, 6]), (11, []), (12, []), (13, []), (14, [])]) (by dsimp only; decide +kernel) ?_
            have w1 : IntKind.i64.wrap (b.height + 1) = b.height + 1 := wrap_small _ (by omega) (by omega)
            simp (config := { maxSteps := 4000000 }) only [go_sem, simprocAttr, ↓dnA, Try.f28, rows_length, encBk, w1]
            refine CallTo.det (c_impl_BlockSum n b (by omega)) fun _ => ?_
            simp (config := { maxSteps := 4000000 }) only [go_sem, simprocAttr, ↓dnA, Try.f28, rows_length, encBk, w1]
            refine CallTo.det (c_impl_RootOf none s' (by omega)) fun _ => ?_
            simp (config := { maxSteps := 4000000 }) only [go_sem, simprocAttr, ↓dnA, Try.f28, rows_length, encBk, w1]
            refine CallTo.det (c_impl_EffectsSum none es (by omega) r3) fun _ => ?_
            simp (config := { maxSteps := 4000000 }) only [go_sem, simprocAttr, ↓dnA, Try.f28, rows_length, encBk, w1]
            refine CallTo.det (c_impl_Block_clone n2 ⟨blockSum b, b.height + 1, v, l, rootOf s', effectsSum es⟩ hl) fun _ => ?_
            simp (config := { maxSteps := 4000000 }) only [go_sem, simprocAttr, ↓dnA, Try.f28, rows_length, encBk, encBkF, w1, h2']

theorem c_spec_NextBlock (n n1 n2 : Option Bool) (b : Block) (s : List Entry) (v : Int) (l : List Action) (hb : b.list.length < 2 ^ 32) (hs : s.length < 2 ^ 32) (hl : l.length < 2 ^ 32) :
    Det Try.prog 29 [.agg (encBk n b), .sl n1 (rows encE s), .int .i64 v, .sl n2 (rows encA l)] (.tup [.agg (encBkF (nextBlock b s v l).1), .bool (nextBlock b s v l).2]) := by
  refine fspec_det tab_ok Try.call29 Try.func29 rfl 59 Try.ntmps29 (of_decide_eq_true rfl) fun B => codeK_sound tab_ok _ _ _ ?_
  unfold nextBlock
  simp (config := { maxSteps := 4000000 }) only [go_sem, simprocAttr, ↓dnA, Try.f29, rows_length, encBk]
  refine CallTo.det (c_spec_BlockValid n b (by omega)) fun _ => ?_
  cases h1 : blockValid b with
  | false => simp (config := { maxSteps := 4000000 }) only [go_sem, simprocAttr, ↓dnA, Try.f29, rows_length, encBk, encBkF, h1, rows_nil]
  | true =>
    obtain ⟨b1, b2, b3⟩ := blockValid_bd h1
    cases h2 : (b.height == 100) with
    | true =>
      have h2' : (b.height != 100) = false := by simpa using h2
      simp (config := { maxSteps := 4000000 }) only [go_sem, simprocAttr, ↓dnA, Try.f29, rows_length, encBk, encBkF, h1, h2, h2', rows_nil]
    | false =>
      have h2' : (b.height != 100) = true := by simpa using h2
      simp (config := { maxSteps := 4000000 }) only [go_sem, simprocAttr, ↓dnA, Try.f29, rows_length, encBk, encBkF, h1, h2, h2', rows_nil]
      refine CallTo.det (c_spec_StoreValid n1 s (by omega)) fun _ => ?_
      cases h3 : storeValid s with
      | false => simp (config := { maxSteps := 4000000 }) only [go_sem, simprocAttr, ↓dnA, Try.f29, rows_length, encBk, encBkF, h1, h2, h2', h3, rows_nil]
      | true =>
        have hw : IntKind.i64.wrap (b.view + 1) = b.view + 1 := wrap_small _ (by omega) (by omega)
        simp (config := { maxSteps := 4000000 }) only [go_sem, simprocAttr, ↓dnA, Try.f29, rows_length, encBk, encBkF, h1, h2, h2', h3, hw, rows_nil]
        refine CallTo.det (c_l1In _ _ _) fun _ => ?_
        cases h4 : inB v (b.view + 1) 1000 with
        | false => simp (config := { maxSteps := 4000000 }) only [go_sem, simprocAttr, ↓dnA, Try.f29, rows_length, encBk, encBkF, h1, h2, h2', h3, h4, hw, rows_nil]
        | true =>
          simp (config := { maxSteps := 4000000 }) only [go_sem, simprocAttr, ↓dnA, Try.f29, rows_length, encBk, encBkF, h1, h2, h2', h3, h4, hw, rows_nil]
          refine CallTo.det (c_spec_ActionsValid n2 l (by omega)) fun _ => ?_
          cases h5 : actionsValid l with
          | false => simp (config := { maxSteps := 4000000 }) only [go_sem, simprocAttr, ↓dnA, Try.f29, rows_length, encBk, encBkF, h1, h2, h2', h3, h4, h5, hw, rows_nil]
          | true =>
            obtain ⟨r1, r2, r3⟩ := runSerial_ok h3 h5
            obtain ⟨_, h10⟩ := actionsValid_ok h5
            have r4 := store_len r1
            simp (config := { maxSteps := 4000000 }) only [go_sem, simprocAttr, ↓dnA, Try.f29, rows_length, encBk, encBkF, h1, h2, h2', h3, h4, h5, hw, rows_nil]
            refine CallTo.det (c_spec_RunSerial n1 n2 s l hs hl) fun _ => ?_
            generalize runSerial s l = p at r1 r2 r3 r4
            obtain ⟨s', es⟩ := p
            dsimp only at r1 r2 r3 r4 ⊢
            simp (config := { maxSteps := 4000000 }) only [go_sem, simprocAttr, ↓dnA, Try.f29, rows_length, encBk, encBkF, h1, h2, h2', h3, h4, h5, hw, rows_nil]
            refine semL_draw tab_ok mixed_ rfl (ord := [(0, []), (2, []), (3, []), (4, []), (5, []), (7, []), (9, []), (11, []), (1, [2, 3, 4, 5, 7, 9, 11]), (6, [0, 2, 3, 4, 5, 7, 9, 11]), (8, [2, 3, 4, 5, 9, 11]), (10, [2, 3, 4, 5, 11]), (12, [2, 3, 4, 5]), (13, []), (14, []), (15, [])]) (by dsimp only; decide +kernel) ?_
            have a1 := all_rows encA AV.flat (fun _ => rfl) l
            have a2 := all_rows encA AV.one (fun _ => rfl) l
            have a3 := sz0_rows encA 4 (fun _ => rfl) l
            have w1 : IntKind.i64.wrap (b.height + 1) = b.height + 1 := wrap_small _ (by omega) (by omega)
            simp (config := { maxSteps := 4000000 }) only [go_sem, simprocAttr, ↓dnA, Try.f29, rows_length, encBk, w1]
            refine CallTo.det (c_spec_BlockSum n b (by omega)) fun _ => ?_
            simp (config := { maxSteps := 4000000 }) only [go_sem, simprocAttr, ↓dnA, Try.f29, rows_length, encBk, w1]
            repeat refine And.intro (by first | omega | (simp; done) | (simp; omega) | assumption) ?_
            refine CallTo.det (c_spec_RootOf _ s' (by omega)) fun _ => ?_
            simp (config := { maxSteps := 4000000 }) only [go_sem, simprocAttr, ↓dnA, Try.f29, rows_length, encBk, w1]
            refine CallTo.det (c_spec_EffectsSum _ es (by omega) r3) fun _ => ?_
            simp (config := { maxSteps := 4000000 }) only [go_sem, simprocAttr, ↓dnA, Try.f29, rows_length, encBk, encBkF, w1, h2']

end Go.Proofs.Ytmibclbinebnjaa

/- Contracts: trees of one store, their copies, the values behind a block. -/
set_option linter.unusedSimpArgs false
set_option linter.unusedVariables false
set_option maxRecDepth 20000
set_option maxHeartbeats 4000000
namespace Go.Proofs.Ytmibclbinebnjaa
open Go Go.RowKit

def encTF (t : Tree) : List AV := [.osl false 2 (rows encE t.base), .osl false 6 (rows encB1 t.blocks), .osl false 1 (rows encI t.before)]
def treeOf (s : List Entry) : Tree := if storeValid s then ⟨s, [firstBlock s], [-1]⟩ else ⟨[], [], []⟩

def encBk0 (b : Block) : List AV := [.int .i64 b.before, .int .i64 b.height, .int .i64 b.view, .sl (some false) [], .int .i64 b.root, .int .i64 b.effects]
theorem c_impl_FirstBlock0 (n1 : Option Bool) (s : List Entry) (hx : s.length < 2 ^ 62) : Det Try.prog 70 [.sl n1 (rows encE s)] (.agg (encBk0 (firstBlock s))) := by
  refine fspec_det tab_ok Try.call70 Try.func70 rfl 11 Try.ntmps70 (of_decide_eq_true rfl) fun B => codeK_sound tab_ok _ _ _ ?_
  simp (config := { maxSteps := 4000000 }) only [go_sem, simprocAttr, ↓dnA, Try.f70, rows_length]
  refine CallTo.det (c_impl_StoreValid _ _ hx) fun _ => ?_
  cases h : storeValid s with
  | false => simp (config := { maxSteps := 4000000 }) only [go_sem, simprocAttr, ↓dnA, Try.f70, rows_length, h, firstBlock, encBk0]
  | true =>
    simp (config := { maxSteps := 4000000 }) only [go_sem, simprocAttr, ↓dnA, Try.f70, rows_length, h]
    refine CallTo.det (c_impl_RootOf _ _ hx) fun _ => ?_
    simp (config := { maxSteps := 4000000 }) only [go_sem, simprocAttr, ↓dnA, Try.f70, rows_length, h]
    refine CallTo.det (c_impl_EffectsSum0 _) fun _ => ?_
    simp (config := { maxSteps := 4000000 }) only [go_sem, simprocAttr, ↓dnA, Try.f70, rows_length, h, firstBlock, encBk0]

theorem c_impl_TreeOf (n1 : Option Bool) (s : List Entry) (hs : s.length < 2 ^ 32) : Det Try.prog 17 [.sl n1 (rows encE s)] (.agg (encTF (treeOf s))) := by
  refine fspec_det tab_ok Try.call17 Try.func17 rfl 14 Try.ntmps17 (of_decide_eq_true rfl) fun B => codeK_sound tab_ok _ _ _ ?_
  unfold treeOf
  simp (config := { maxSteps := 4000000 }) only [go_sem, simprocAttr, ↓dnA, Try.f17, rows_length]
  refine CallTo.det (c_impl_StoreValid n1 s (by omega)) fun _ => ?_
  cases h1 : storeValid s with
  | false => simp (config := { maxSteps := 4000000 }) only [go_sem, simprocAttr, ↓dnA, Try.f17, rows_length, h1, encTF, rows_nil]
  | true =>
    simp (config := { maxSteps := 4000000 }) only [go_sem, simprocAttr, ↓dnA, Try.f17, rows_length, h1]
    refine CallTo.det (c_impl_cloneEntries n1 s hs) fun _ => ?_
    simp (config := { maxSteps := 4000000 }) only [go_sem, simprocAttr, ↓dnA, Try.f17, rows_length, h1]
    refine CallTo.det (c_impl_FirstBlock0 n1 s (by omega)) fun _ => ?_
    have hf : encBk none (firstBlock s) = [.int .i64 (firstBlock s).before, .int .i64 (firstBlock s).height, .int .i64 (firstBlock s).view, .sl none [], .int .i64 (firstBlock s).root, .int .i64 (firstBlock s).effects] := by
      unfold encBk
      rw [firstBlock_list]
      rfl
    simp (config := { maxSteps := 4000000 }) only [go_sem, simprocAttr, ↓dnA, Try.f17, rows_length, h1, encBk0]
    simp only [encTF, rows, List.map_cons, List.map_nil, encB1, hf, encI]
    simp [rwL, rwC]

theorem c_impl_Tree_clone (n1 n2 n3 : Option Bool) (t : Tree) (hx : TreeS32 t) : Det Try.prog 72 [.agg (encT n1 n2 n3 t)] (.agg (encTF t)) := by
  refine fspec_det tab_ok Try.call72 Try.func72 rfl 29 Try.ntmps72 (of_decide_eq_true rfl) fun B => codeK_sound tab_ok _ _ _ ?_
  have q1 := hx.base
  have q2 := hx.blocks
  have q3 := hx.before
  have a1 := all_rows encI AV.flat (fun _ => rfl) t.before
  have a2 := all_rows encI AV.one (fun _ => rfl) t.before
  have a3 := sz0_rows encI 1 (fun _ => rfl) t.before
  simp (config := { maxSteps := 4000000 }) only [go_sem, simprocAttr, ↓dnA, Try.f72, rows_length, encT]
  refine semL_draw tab_ok mixed_ rfl (ord := [(0, []), (1, []), (3, []), (4, []), (2, [3, 4]), (5, []), (6, []), (7, [0, 1, 3, 4, 6]), (8, [])]) (by dsimp only; decide +kernel) ?_
  simp (config := { maxSteps := 4000000 }) only [go_sem, simprocAttr, ↓dnA, Try.f72, rows_length, encT]
  refine CallTo.det (c_impl_cloneEntries n1 t.base q1) fun _ => ?_
  simp (config := { maxSteps := 4000000 }) only [go_sem, simprocAttr, ↓dnA, Try.f72, rows_length, encT]
  repeat refine And.intro (by first | omega | (simp; done) | (simp; omega) | assumption) ?_
  refine semL_nilVA 3 1 600 6 true (by rfl) (by simp) (by rfl) (by rfl) (by decide) (by decide) ?_
  refine semL_for tab_ok (fun i : Nat => ⟨29, [(2, .loc 2 0), (3, .loc 3 0), (14, .sl n2 (rows encB1 t.blocks)), (15, .int .i64 t.blocks.length), (16, .int .i64 i)],
      [(2, .var [.sl (some false) [], .sl (some false) [], .sl (some false) []]), (3, .var [.row 9000 t.base.length, .row 600 i, .row 11 t.before.length]),
        (11, .row true false 1 (rows encI t.before)), (9000, .row true false 2 (rows encE t.base)), (600, .row true false 6 (rows encB1 (t.blocks.take i)))]⟩) (fun i => t.blocks.length - i)
    (fun i => i ≤ t.blocks.length) 0 [(2, 2), (3, 3), (11, 11), (9000, 9000), (600, 600)] (Weak.of (by rfl) ?_ ?_ (by rfl)) (by omega) ?_
  · simp (config := { maxSteps := 4000000 }) only [go_sem, simprocAttr, ↓dnA, Try.f72, rows_length, frW, wk2, wk1, wkL, wkB, hpW, List.mem_cons, Prod.mk.injEq, exists_eq_left, exists_eq_right, exists_eq]
    try rfl
  · simp (config := { maxSteps := 4000000 }) only [go_sem, simprocAttr, ↓dnA, Try.f72, rows_length, frW, wk2, wk1, wkL, wkB, hpW, List.mem_cons, Prod.mk.injEq, exists_eq_left, exists_eq_right, exists_eq]
  · rintro i hi
    by_cases h : i < t.blocks.length
    · have hb := hx.list _ (List.getElem_mem h)
      have htk : (rows encB1 (t.blocks.take i)).take i = rows encB1 (t.blocks.take i) := by
        rw [List.take_of_length_le]; rw [rows_length, List.length_take]; omega
      have hl : min i t.blocks.length = i := by omega
      have hw : IntKind.i64.wrap ((i : Int) + 1) = ((i + 1 : Nat) : Int) := wsucc h (by omega)
      simp (config := { maxSteps := 4000000 }) only [go_sem, simprocAttr, ↓dnA, Try.f72, rows_length, nlt h, h, rows_get _ _ _ h, encB1, encBk, nn0]
      refine semL_draw tab_ok mixed_ rfl (ord := [(0, []), (1, []), (2, []), (3, [0, 1]), (4, [0, 1]), (5, []), (6, []), (7, [])]) (by dsimp only; decide +kernel) ?_
      simp (config := { maxSteps := 4000000 }) only [go_sem, simprocAttr, ↓dnA, Try.f72, rows_length, encBk]
      refine CallTo.det (c_impl_Block_clone none t.blocks[i] hb) fun _ => ?_
      simp (config := { maxSteps := 4000000 }) only [go_sem, simprocAttr, ↓dnA, Try.f72, rows_length, List.length_take, hl, htk, hw, encBkF]
      repeat refine And.intro (by first | omega | (simp; done) | (simp; omega) | assumption) ?_
      refine ⟨i + 1, [(2, 2), (3, 3), (11, 11), (9000, 9000), (25, 600)], by omega, by dsimp only; omega, Weak.of (by rfl) ?_ ?_ (by rfl)⟩
      · simp (config := { maxSteps := 4000000 }) only [go_sem, simprocAttr, ↓dnA, Try.f72, rows_length, frW, wk2, wk1, wkL, wkB, hpW, List.mem_cons, Prod.mk.injEq, exists_eq_left, exists_eq_right, exists_eq]
        rw [take_snoc _ _ h, ← rows_snoc]
        rfl
      · simp (config := { maxSteps := 4000000 }) only [go_sem, simprocAttr, ↓dnA, Try.f72, rows_length, frW, wk2, wk1, wkL, wkB, hpW, List.mem_cons, Prod.mk.injEq, exists_eq_left, exists_eq_right, exists_eq]
    · have hi' : i = t.blocks.length := by omega
      subst hi'
      simp (config := { maxSteps := 4000000 }) only [go_sem, simprocAttr, ↓dnA, Try.f72, rows_length, nlf h, encTF, List.take_length]

/-- The values behind the blocks of a way. -/
def wayV (t : Tree) (v : List Int) (p : List Int) : List Int := p.foldl (fun v i => (runAllE v (t.blk i.toNat).list).1) v
def afterV (t : Tree) (n : Int) : List Int := wayV t (valuesL t.base) (pathL t n)
def storeAt (t : Tree) (n : Int) : List Entry := storeL (afterV t n)

theorem blk_acts {t : Tree} (ht : TreeOk t) {i : Nat} (hi : i < t.blocks.length) : (∀ a, a ∈ (t.blk i).list → ActOk a) ∧ (t.blk i).list.length ≤ 10 ∧ actionsValid (t.blk i).list = true := by
  have h := ht.valid i hi
  unfold blockValid at h
  rw [Bool.and_eq_true] at h
  have := actionsValid_ok h.2
  exact ⟨this.1, this.2, h.2⟩

theorem runAllE_valsOk {v : List Int} {l : List Action} (hl : ∀ a, a ∈ l → ActOk a) (hv : ValsOk v) : ValsOk (runAllE v l).1 := by
  have := runAllE_ok hl hv l.length (Nat.le_refl _)
  rw [List.take_length] at this
  exact this.1

theorem wayV_ok {t : Tree} (ht : TreeOk t) : ∀ (p : List Int) {v : List Int}, (∀ x, x ∈ p → 0 ≤ x ∧ x < t.blocks.length) → ValsOk v → ValsOk (wayV t v p)
  | [], v, _, hv => hv
  | x :: p, v, hp, hv => by
    have hx := hp x (List.mem_cons_self ..)
    exact wayV_ok ht p (fun y hy => hp y (List.mem_cons_of_mem _ hy)) (runAllE_valsOk (blk_acts ht (i := x.toNat) (by omega)).1 hv)

theorem wayV_take (t : Tree) (v : List Int) (p : List Int) (i : Nat) (h : i < p.length) : wayV t v (p.take (i + 1)) = (runAllE (wayV t v (p.take i)) (t.blk p[i].toNat).list).1 := by
  unfold wayV
  rw [take_snoc _ _ h, List.foldl_append]
  rfl

theorem c_impl_after (n1 n2 n3 : Option Bool) (t : Tree) (n : Int) (ht : TreeOk t) (hx : TreeSz t) (hn : n < t.blocks.length) :
    Det Try.prog 73 [.agg (encT n1 n2 n3 t), .int .i64 n] (.agg (cellsI (afterV t n))) := by
  refine fspec_det tab_ok Try.call73 Try.func73 rfl 32 Try.ntmps73 (of_decide_eq_true rfl) fun B => codeK_sound tab_ok _ _ _ ?_
  have hV := valuesL_ok ht.store
  have cl : (cellsI (valuesL t.base)).length = 32 := by rw [cellsI_length, hV.1]
  have hcv : (cellsI (valuesL t.base)).take 32 = cellsI (valuesL t.base) := cellsI_take _ 32 hV.1
  obtain ⟨h3, h4⟩ := entOk_spec 1 t.base (-1) ht.store
  simp (config := { maxSteps := 4000000 }) only [go_sem, simprocAttr, ↓dnA, Try.f73, rows_length, cellsI_impL, cellsI_impLB, encT]
  refine CallTo.det (c_impl_valuesOf n1 t.base hx.base (fun e he => by have := h3 e he; omega)) fun _ => ?_
  simp (config := { maxSteps := 4000000 }) only [go_sem, simprocAttr, ↓dnA, Try.f73, rows_length, cellsI_impL, cellsI_impLB, encT, cl, hcv, cellsI_one, cellsI_exp]
  repeat refine And.intro (by first | omega | (simp; done) | (simp; omega) | assumption) ?_
  refine CallTo.det (c_impl_path n1 n2 n3 t n ht hx hn) fun _ => ?_
  have hpl := pathL_len ht hn
  have hpb := pathL_bd ht hn
  have hres : afterV t n = wayV t (valuesL t.base) (pathL t n) := rfl
  rw [hres]
  generalize pathL t n = p at hpl hpb
  simp (config := { maxSteps := 4000000 }) only [go_sem, simprocAttr, ↓dnA, Try.f73, rows_length, cellsI_impL, cellsI_impLB, encT, cl, hcv]
  refine semL_for tab_ok (fun i : Nat => ⟨32, [(2, .loc 2 0), (4, .loc 4 0), (5, .loc 5 0), (13, .row 14000 p.length), (14, .int .i64 p.length), (15, .int .i64 i)],
      [(14000, .row true false 1 (rows encI p)), (2, .var (encT n1 n2 n3 t)), (4, .var (cellsI zeros32)), (5, .var (cellsI (wayV t (valuesL t.base) (p.take i))))]⟩) (fun i => p.length - i)
    (fun i => i ≤ p.length) 0 [(2, 2), (4, 4), (5, 5), (14000, 14000)] (Weak.of (by rfl) ?_ ?_ (by rfl)) (by omega) ?_
  · simp (config := { maxSteps := 4000000 }) only [go_sem, simprocAttr, ↓dnA, Try.f73, rows_length, cellsI_impL, cellsI_impLB, encT, frW, wk2, wk1, wkL, wkB, hpW, List.mem_cons, Prod.mk.injEq, exists_eq_left, exists_eq_right, exists_eq]
    exact ⟨of_eq_true (cellsI_wk _ zeros32), of_eq_true (cellsI_wk _ (valuesL t.base))⟩
  · simp (config := { maxSteps := 4000000 }) only [go_sem, simprocAttr, ↓dnA, Try.f73, rows_length, cellsI_impL, cellsI_impLB, encT, frW, wk2, wk1, wkL, wkB, hpW, List.mem_cons, Prod.mk.injEq, exists_eq_left, exists_eq_right, exists_eq]
  · rintro i hi
    have hU := wayV_ok ht (p.take i) (fun x hx => by have := hpb x (List.mem_of_mem_take hx); omega) hV
    have cu : (cellsI (wayV t (valuesL t.base) (p.take i))).length = 32 := by rw [cellsI_length, hU.1]
    have hcu : (cellsI (wayV t (valuesL t.base) (p.take i))).take 32 = cellsI (wayV t (valuesL t.base) (p.take i)) := cellsI_take _ 32 hU.1
    by_cases h : i < p.length
    · have hb := hpb _ (List.getElem_mem h)
      have hst := wayV_take t (valuesL t.base) p i h
      have hw : IntKind.i64.wrap ((i : Int) + 1) = ((i + 1 : Nat) : Int) := wsucc h (by omega)
      generalize wayV t (valuesL t.base) (p.take i) = u at hU cu hcu hst
      obtain ⟨k, hk⟩ : ∃ k : Nat, p[i] = (k : Int) := ⟨p[i].toNat, by omega⟩
      have hkl : k < t.blocks.length := by omega
      have hbk := t.blk_get k hkl
      obtain ⟨b1, b2, b3⟩ := blk_acts ht hkl
      have hr := runAllE_valsOk b1 hU
      rw [hk, Int.toNat_natCast] at hst
      simp (config := { maxSteps := 4000000 }) only [go_sem, simprocAttr, ↓dnA, Try.f73, rows_length, cellsI_impL, cellsI_impLB, nlt h, h, rows_get _ _ _ h, encI, hk, encT, nn0, hw, cu, hcu]
      refine semL_draw tab_ok mixed_ rfl (ord := [(0, []), (1, []), (2, []), (3, []), (4, []), (5, []), (6, []), (7, []), (8, []), (9, []), (10, []), (11, [10])]) (by dsimp only; decide +kernel) ?_
      simp (config := { maxSteps := 4000000 }) only [go_sem, simprocAttr, ↓dnA, Try.f73, rows_length, cellsI_impL, cellsI_impLB, nlt hkl, hkl, rows_get _ _ _ hkl, hbk, encB1, encBk, encT, nn0, hw, cu, hcu, cellsI_noT, cellsI_argL]
      refine CallTo.det (c_impl_runAll none u (t.blk k).list b1 b2 hU) fun _ => ?_
      generalize runAllE u (t.blk k).list = r at hr hst
      have cr : (cellsI r.1).length = 32 := by rw [cellsI_length, hr.1]
      have hcr : (cellsI r.1).take 32 = cellsI r.1 := cellsI_take _ 32 hr.1
      simp (config := { maxSteps := 4000000 }) only [go_sem, simprocAttr, ↓dnA, Try.f73, rows_length, cellsI_impL, cellsI_impLB, encT, nn0, hw, cu, hcu, cr, hcr, cellsI_noT, cellsI_argL, cellsI_one, cellsI_exp]
      repeat refine And.intro (by first | omega | (simp; done) | (simp; omega) | assumption) ?_
      refine ⟨i + 1, [(2, 2), (4, 4), (5, 5), (14000, 14000)], by omega, by dsimp only; omega, Weak.of (by rfl) ?_ ?_ (by rfl)⟩
      · simp (config := { maxSteps := 4000000 }) only [go_sem, simprocAttr, ↓dnA, Try.f73, rows_length, cellsI_impL, cellsI_impLB, encT, hst, frW, wk2, wk1, wkL, wkB, hpW, List.mem_cons, Prod.mk.injEq, exists_eq_left, exists_eq_right, exists_eq]
        exact ⟨of_eq_true (cellsI_wk _ zeros32), of_eq_true (cellsI_wk _ r.1)⟩
      · simp (config := { maxSteps := 4000000 }) only [go_sem, simprocAttr, ↓dnA, Try.f73, rows_length, cellsI_impL, cellsI_impLB, encT, frW, wk2, wk1, wkL, wkB, hpW, List.mem_cons, Prod.mk.injEq, exists_eq_left, exists_eq_right, exists_eq]
    · have hi' : i = p.length := by omega
      subst hi'
      rw [List.take_length] at cu hcu
      have cz : (cellsI zeros32).length = 32 := rfl
      simp (config := { maxSteps := 4000000 }) only [go_sem, simprocAttr, ↓dnA, Try.f73, rows_length, cellsI_impL, cellsI_impLB, nlf h, List.take_length, cu, hcu, cz, cellsI_exp, cellsI_rw, cellsI_one]


/-- The store behind a block of a tree; none where there is no such block. -/
noncomputable def storeOf (t : Tree) (n : Int) : List Entry := if treeValid t && inB n 0 ((t.blocks.length : Int) - 1) then storeAt t n else []

theorem afterV_ok {t : Tree} (ht : TreeOk t) {n : Int} (hn : n < t.blocks.length) : ValsOk (afterV t n) :=
  wayV_ok ht _ (fun x hx => by have := pathL_bd ht hn x hx; omega) (valuesL_ok ht.store)

theorem c_impl_StoreOf (n1 n2 n3 : Option Bool) (t : Tree) (n : Int) (hx : TreeSz t) :
    Det Try.prog 19 [.agg (encT n1 n2 n3 t), .int .i64 n] (.osl false 2 (rows encE (storeOf t n))) := by
  refine fspec_det tab_ok Try.call19 Try.func19 rfl 18 Try.ntmps19 (of_decide_eq_true rfl) fun B => codeK_sound tab_ok _ _ _ ?_
  unfold storeOf
  simp (config := { maxSteps := 4000000 }) only [go_sem, simprocAttr, ↓dnA, Try.f19, rows_length, cellsI_impL, cellsI_impLB, encT]
  refine CallTo.det (c_impl_BlockTreeValid n1 n2 n3 t hx) fun _ => ?_
  cases h1 : treeValid t with
  | false => simp (config := { maxSteps := 4000000 }) only [go_sem, simprocAttr, ↓dnA, Try.f19, rows_length, cellsI_impL, cellsI_impLB, encT, h1, rows_nil]
  | true =>
    simp (config := { maxSteps := 4000000 }) only [go_sem, simprocAttr, ↓dnA, Try.f19, rows_length, cellsI_impL, cellsI_impLB, encT, h1]
    refine CallTo.det (c_impl_has n1 n2 n3 t n hx) fun _ => ?_
    cases h2 : inB n 0 ((t.blocks.length : Int) - 1) with
    | false => simp (config := { maxSteps := 4000000 }) only [go_sem, simprocAttr, ↓dnA, Try.f19, rows_length, cellsI_impL, cellsI_impLB, encT, h1, h2, rows_nil]
    | true =>
      have hb := inB_iff.1 h2
      have ht := treeOk_of h1
      have hV := afterV_ok ht (n := n) (by omega)
      have cu : (cellsI (afterV t n)).length = 32 := by rw [cellsI_length, hV.1]
      have hcu : (cellsI (afterV t n)).take 32 = cellsI (afterV t n) := cellsI_take _ 32 hV.1
      simp (config := { maxSteps := 4000000 }) only [go_sem, simprocAttr, ↓dnA, Try.f19, rows_length, cellsI_impL, cellsI_impLB, encT, h1, h2]
      refine CallTo.det (c_impl_after n1 n2 n3 t n ht hx (by omega)) fun _ => ?_
      simp (config := { maxSteps := 4000000 }) only [go_sem, simprocAttr, ↓dnA, Try.f19, rows_length, cellsI_impL, cellsI_impLB, encT, h1, h2, cu, hcu, cellsI_noT, cellsI_argL]
      refine CallTo.det (c_impl_store (afterV t n) hV) fun _ => ?_
      simp (config := { maxSteps := 4000000 }) only [go_sem, simprocAttr, ↓dnA, Try.f19, rows_length, cellsI_impL, cellsI_impLB, encT, h1, h2, storeAt]

end Go.Proofs.Ytmibclbinebnjaa

/- Contracts: putting blocks, growing trees. -/
set_option linter.unusedSimpArgs false
set_option linter.unusedVariables false
set_option maxRecDepth 20000
set_option maxHeartbeats 4000000
namespace Go.Proofs.Ytmibclbinebnjaa
open Go Go.RowKit

def putT (t : Tree) (b : Block) : Tree := ⟨t.base, t.blocks ++ [b], t.before ++ [findB t.blocks b.before]⟩
open Classical in
noncomputable def putBlock (t : Tree) (b : Block) : Tree × Bool := if treeValid t then (if treeValid (putT t b) then (putT t b, true) else (t, false)) else (⟨[], [], []⟩, false)

theorem c_impl_PutBlock (n n1 n2 n3 : Option Bool) (t : Tree) (b : Block) (hx : TreeS32 t) (hb : b.list.length < 2 ^ 32) :
    Det Try.prog 35 [.agg (encT n1 n2 n3 t), .agg (encBk n b)] (.tup [.agg (encTF (putBlock t b).1), .bool (putBlock t b).2]) := by
  refine fspec_det tab_ok Try.call35 Try.func35 rfl 35 Try.ntmps35 (of_decide_eq_true rfl) fun B => codeK_sound tab_ok _ _ _ ?_
  unfold putBlock
  simp (config := { maxSteps := 4000000 }) only [go_sem, simprocAttr, ↓dnA, Try.f35, rows_length, encT, encBk]
  refine CallTo.det (c_impl_BlockTreeValid n1 n2 n3 t hx.sz) fun _ => ?_
  cases h1 : treeValid t with
  | false => simp (config := { maxSteps := 4000000 }) only [go_sem, simprocAttr, ↓dnA, Try.f35, rows_length, encT, encTF, h1, rows_nil]
  | true =>
    have ht := treeOk_of h1
    have hlen := ht.len
    have hbl := ht.bef
    simp (config := { maxSteps := 4000000 }) only [go_sem, simprocAttr, ↓dnA, Try.f35, rows_length, encT, encBk, h1]
    refine CallTo.det (c_impl_Tree_clone n1 n2 n3 t hx) fun _ => ?_
    simp (config := { maxSteps := 4000000 }) only [go_sem, simprocAttr, ↓dnA, Try.f35, rows_length, encT, encTF, encBk, h1]
    refine semL_draw tab_ok mixed_ rfl (ord := [(0, []), (1, []), (2, []), (3, [0, 1]), (4, [0, 1]), (5, []), (6, []), (7, [])]) (by dsimp only; decide +kernel) ?_
    simp (config := { maxSteps := 4000000 }) only [go_sem, simprocAttr, ↓dnA, Try.f35, rows_length, encT, encBk, h1]
    refine CallTo.det (c_impl_Block_clone n b hb) fun _ => ?_
    have tk1 : (rows encB1 t.blocks).take t.blocks.length = rows encB1 t.blocks := by rw [List.take_of_length_le]; rw [rows_length]; omega
    have tk2 : (rows encI t.before).take t.before.length = rows encI t.before := by rw [List.take_of_length_le]; rw [rows_length]; omega
    simp (config := { maxSteps := 4000000 }) only [go_sem, simprocAttr, ↓dnA, Try.f35, rows_length, encT, encBk, encBkF, h1, tk1]
    repeat refine And.intro (by first | omega | (simp; done) | (simp; omega) | assumption) ?_
    refine semL_draw tab_ok mixed_ rfl (ord := [(0, []), (1, []), (2, []), (3, []), (4, []), (5, [0, 1]), (6, [0, 1]), (7, []), (8, []), (9, [])]) (by dsimp only; decide +kernel) ?_
    simp (config := { maxSteps := 4000000 }) only [go_sem, simprocAttr, ↓dnA, Try.f35, rows_length, encT, encBk, h1]
    refine CallTo.det (c_impl_find n1 n2 n3 t b.before hx.sz) fun _ => ?_
    have e1 : rows encB1 t.blocks ++ [[AV.int IntKind.i64 b.before, AV.int IntKind.i64 b.height, AV.int IntKind.i64 b.view, AV.sl none (rows encA b.list), AV.int IntKind.i64 b.root, AV.int IntKind.i64 b.effects]] = rows encB1 (t.blocks ++ [b]) := by
      rw [← rows_snoc]; rfl
    have e2 : rows encI t.before ++ [[AV.int IntKind.i64 (findB t.blocks b.before)]] = rows encI (t.before ++ [findB t.blocks b.before]) := by
      rw [← rows_snoc]; rfl
    have l1 : (t.blocks ++ [b]).length = t.blocks.length + 1 := by simp
    have l2 : (t.before ++ [findB t.blocks b.before]).length = t.before.length + 1 := by simp
    have hu : TreeSz (putT t b) := ⟨hx.sz.base, by show (t.blocks ++ [b]).length < _; rw [l1]; omega, by show (t.before ++ [findB t.blocks b.before]).length < _; rw [l2]; omega, fun c hc => by
      rcases List.mem_append.1 hc with e | e
      · exact hx.sz.list c e
      · rw [List.mem_singleton.1 e]; omega⟩
    have hv := c_impl_BlockTreeValid none (some true) (some true) (putT t b) hu
    have hf : encTF (putT t b) = [.osl false 2 (rows encE t.base), .osl false 6 (rows encB1 (t.blocks ++ [b])), .osl false 1 (rows encI (t.before ++ [findB t.blocks b.before]))] := rfl
    simp (config := { maxSteps := 4000000 }) only [go_sem, simprocAttr, ↓dnA, Try.f35, rows_length, encT, encBk, h1, tk2, e1, e2, l1, l2]
    repeat refine And.intro (by first | omega | (simp; done) | (simp; omega) | assumption) ?_
    refine CallTo.det hv fun _ => ?_
    cases h2 : treeValid (putT t b) with
    | false =>
      simp (config := { maxSteps := 4000000 }) only [go_sem, simprocAttr, ↓dnA, Try.f35, rows_length, encT, encBk, h1, h2]
      refine CallTo.det (c_impl_Tree_clone n1 n2 n3 t hx) fun _ => ?_
      simp (config := { maxSteps := 4000000 }) only [go_sem, simprocAttr, ↓dnA, Try.f35, rows_length, encT, encTF, h1, h2]
    | true =>
      simp (config := { maxSteps := 4000000 }) only [go_sem, simprocAttr, ↓dnA, Try.f35, rows_length, encT, encBk, h1, h2, hf, tk2, e1, e2, l1, l2]

open Classical in
/-- A tree with the block behind the block n, of actions on the store there. -/
noncomputable def growTree (t : Tree) (n v : Int) (l : List Action) : Tree × Bool :=
  if treeValid t then (if inB n 0 ((t.blocks.length : Int) - 1) then (if (nextBlock (t.blk n.toNat) (storeOf t n) v l).2 then putBlock t (nextBlock (t.blk n.toNat) (storeOf t n) v l).1 else (t, false)) else (t, false)) else (⟨[], [], []⟩, false)

theorem c_impl_GrowTree (n0 n1 n2 n3 : Option Bool) (t : Tree) (n v : Int) (l : List Action) (hx : TreeS32 t) (hl : l.length < 2 ^ 32) :
    Det Try.prog 18 [.agg (encT n1 n2 n3 t), .int .i64 n, .int .i64 v, .sl n0 (rows encA l)] (.tup [.agg (encTF (growTree t n v l).1), .bool (growTree t n v l).2]) := by
  refine fspec_det tab_ok Try.call18 Try.func18 rfl 45 Try.ntmps18 (of_decide_eq_true rfl) fun B => codeK_sound tab_ok _ _ _ ?_
  unfold growTree
  simp (config := { maxSteps := 4000000 }) only [go_sem, simprocAttr, ↓dnA, Try.f18, rows_length, encT]
  refine CallTo.det (c_impl_BlockTreeValid n1 n2 n3 t hx.sz) fun _ => ?_
  cases h1 : treeValid t with
  | false => simp (config := { maxSteps := 4000000 }) only [go_sem, simprocAttr, ↓dnA, Try.f18, rows_length, encT, encTF, h1, rows_nil]
  | true =>
    have ht := treeOk_of h1
    have hlen := ht.len
    simp (config := { maxSteps := 4000000 }) only [go_sem, simprocAttr, ↓dnA, Try.f18, rows_length, encT, h1]
    refine CallTo.det (c_impl_has n1 n2 n3 t n hx.sz) fun _ => ?_
    cases h2 : inB n 0 ((t.blocks.length : Int) - 1) with
    | false =>
      simp (config := { maxSteps := 4000000 }) only [go_sem, simprocAttr, ↓dnA, Try.f18, rows_length, encT, h1, h2]
      refine CallTo.det (c_impl_Tree_clone n1 n2 n3 t hx) fun _ => ?_
      simp (config := { maxSteps := 4000000 }) only [go_sem, simprocAttr, ↓dnA, Try.f18, rows_length, encT, encTF, h1, h2]
    | true =>
      have hb := inB_iff.1 h2
      obtain ⟨k, hk⟩ : ∃ k : Nat, n = (k : Int) := ⟨n.toNat, by omega⟩
      subst hk
      have hkl : k < t.blocks.length := by omega
      have hbk := t.blk_get k hkl
      have hbl := hx.list _ (List.getElem_mem hkl)
      rw [hbk] at hbl
      have hso : (storeOf t (k : Int)).length ≤ 32 := by
        have := store_len (storeL_valid (afterV_ok ht (n := (k : Int)) (by omega)))
        unfold storeOf
        rw [h1, h2]
        exact this
      rw [Int.toNat_natCast]
      simp (config := { maxSteps := 4000000 }) only [go_sem, simprocAttr, ↓dnA, Try.f18, rows_length, encT, h1, h2]
      refine semL_draw tab_ok mixed_ rfl (ord := [(0, []), (1, []), (2, []), (3, []), (4, []), (5, []), (6, []), (8, []), (9, []), (7, [0, 1, 2, 3, 4, 8, 9]), (10, []), (11, []), (12, []), (13, []), (14, [0, 1, 2, 3, 4, 5, 6, 8, 9, 11, 12, 13]), (15, [13]), (16, [])]) (by dsimp only; decide +kernel) ?_
      simp (config := { maxSteps := 4000000 }) only [go_sem, simprocAttr, ↓dnA, Try.f18, rows_length, encT, h1, h2, nlt hkl, hkl, rows_get _ _ _ hkl, hbk, encB1, encBk, nn0]
      refine CallTo.det (c_impl_StoreOf n1 n2 n3 t k hx.sz) fun _ => ?_
      simp (config := { maxSteps := 4000000 }) only [go_sem, simprocAttr, ↓dnA, Try.f18, rows_length, encT, h1, h2, nlt hkl, hkl, rows_get _ _ _ hkl, hbk, encB1, encBk, nn0]
      have hpl := nextBlock_len (t.blk k) (storeOf t k) v l
      refine CallTo.det (c_impl_NextBlock none none n0 (t.blk k) (storeOf t k) v l hbl (by omega) hl) fun _ => ?_
      generalize nextBlock (t.blk k) (storeOf t k) v l = p at hpl
      obtain ⟨nb, ok⟩ := p
      dsimp only at hpl ⊢
      cases ok with
      | false =>
        simp (config := { maxSteps := 4000000 }) only [go_sem, simprocAttr, ↓dnA, Try.f18, rows_length, encT, h1, h2, nlt hkl, hkl, rows_get _ _ _ hkl, hbk, encB1, encBk, encBkF, nn0]
        refine CallTo.det (c_impl_Tree_clone n1 n2 n3 t hx) fun _ => ?_
        simp (config := { maxSteps := 4000000 }) only [go_sem, simprocAttr, ↓dnA, Try.f18, rows_length, encT, encTF, h1, h2, encBkF]
      | true =>
        simp (config := { maxSteps := 4000000 }) only [go_sem, simprocAttr, ↓dnA, Try.f18, rows_length, encT, h1, h2, nlt hkl, hkl, rows_get _ _ _ hkl, hbk, encB1, encBk, encBkF, nn0]
        refine CallTo.det (c_impl_PutBlock none n1 n2 n3 t nb hx (by omega)) fun _ => ?_
        simp (config := { maxSteps := 4000000 }) only [go_sem, simprocAttr, ↓dnA, Try.f18, rows_length, encT, encTF, h1, h2, encBkF]

end Go.Proofs.Ytmibclbinebnjaa

/- Trees that grow from one store: plain lemmas. -/
set_option linter.unusedSimpArgs false
set_option linter.unusedVariables false
set_option maxRecDepth 20000
set_option maxHeartbeats 4000000
namespace Go.Proofs.Ytmibclbinebnjaa
open Go Go.RowKit

theorem pairUp_bd : ∀ (l : List Int), ∀ x, x ∈ pairUp l → 0 ≤ x ∧ x ≤ 1000002
  | a :: b :: r => by
    intro x hx
    rcases List.mem_cons.1 hx with rfl | hx
    · have := moreI_bd (moreI 19 a) b
      show 0 ≤ moreI (moreI 19 a) b ∧ moreI (moreI 19 a) b ≤ 1000002
      omega
    · exact pairUp_bd r x hx
  | [] => fun x hx => by cases hx
  | [_] => fun x hx => by cases hx

theorem rootOf_bd {s : List Entry} (h : storeValid s = true) : 0 ≤ rootOf s ∧ rootOf s ≤ 1000002 := by
  unfold rootOf
  rw [if_pos h]
  have hl := upN_len1 s
  have hb := pairUp_bd (upN 4 (leaves s))
  rw [← upN_succ 4] at hb
  match hq : upN 5 (leaves s), hl with
  | [x], _ =>
    rw [hq] at hb
    exact hb x (by simp)

theorem firstBlock_valid {s : List Entry} (h : storeValid s = true) : blockValid (firstBlock s) = true := by
  have hr := rootOf_bd h
  unfold firstBlock
  rw [if_pos h]
  unfold blockValid
  simp only [Bool.and_eq_true]
  refine ⟨⟨⟨⟨⟨by decide, inB_iff.2 hr⟩, by decide⟩, by decide⟩, by decide⟩, by decide⟩

theorem treeOf_ok {s : List Entry} (h : storeValid s = true) : TreeOk (treeOf s) := by
  have ht : treeOf s = ⟨s, [firstBlock s], [-1]⟩ := by unfold treeOf; rw [if_pos h]
  rw [ht]
  refine ⟨h, ⟨by simp, by simp⟩, rfl, rfl, rfl, ?_, ?_, ?_⟩
  · intro i hi
    simp only [List.length_cons, List.length_nil] at hi
    obtain rfl : i = 0 := by omega
    exact firstBlock_valid h
  · intro i j hij hj
    simp only [List.length_cons, List.length_nil] at hj
    omega
  · intro k hk hk'
    simp only [List.length_cons, List.length_nil] at hk'
    omega

theorem lsum_le : ∀ (bs : List Block), (∀ b, b ∈ bs → b.list.length ≤ 10) → lsum bs ≤ 10 * bs.length
  | [], _ => Nat.le_refl _
  | b :: r, h => by
    have h1 := h b (List.mem_cons_self ..)
    have h2 := lsum_le r fun c hc => h c (List.mem_cons_of_mem _ hc)
    unfold lsum
    rw [List.length_cons]
    omega

theorem treeOk_s32 {t : Tree} (ht : TreeOk t) : TreeS32 t := by
  have h1 := store_len ht.store
  have h2 := ht.len
  have h3 := ht.bef
  have h4 := lsum_le t.blocks fun b hb => by
    obtain ⟨i, hi, rfl⟩ := List.getElem_of_mem hb
    rw [t.blk_get i hi]
    exact (blk_acts ht hi).2.1
  exact ⟨by unfold tsz; omega⟩

/-- A chain: each block is behind the one before it, and has one action of the list. -/
structure Chain (s : List Entry) (l : List Action) (t : Tree) (i : Nat) : Prop where
  ok : TreeOk t
  base : t.base = s
  len : t.blocks.length = i + 1
  bef : ∀ k, k ≤ i → t.bef k = (k : Int) - 1
  list : ∀ k, k < i → (t.blk (k + 1)).list = (l.drop k).take 1

theorem chain_treeOf {s : List Entry} (l : List Action) (h : storeValid s = true) : Chain s l (treeOf s) 0 := by
  have ht : treeOf s = ⟨s, [firstBlock s], [-1]⟩ := by unfold treeOf; rw [if_pos h]
  refine ⟨treeOf_ok h, by rw [ht], by rw [ht]; rfl, fun k hk => ?_, fun k hk => by omega⟩
  obtain rfl : k = 0 := by omega
  exact (treeOf_ok h).bef0

theorem chain_grow {s : List Entry} {l : List Action} {t : Tree} {i : Nat} (hc : Chain s l t i) {v : Int} (hg : (growTree t i v ((l.drop i).take 1)).2 = true) : Chain s l (growTree t i v ((l.drop i).take 1)).1 (i + 1) := by
  have h1 := treeValid_true hc.ok
  have h2 : inB (i : Int) 0 ((t.blocks.length : Int) - 1) = true := by rw [inB_iff, hc.len]; omega
  unfold growTree at hg ⊢
  rw [if_pos h1, if_pos h2, Int.toNat_natCast] at hg ⊢
  split at hg
  · rename_i hn
    rw [if_pos hn]
    unfold putBlock at hg ⊢
    rw [if_pos h1] at hg ⊢
    split at hg
    · rename_i hv
      rw [if_pos hv]
      have hok := treeOk_of hv
      generalize hnb : (nextBlock (t.blk i) (storeOf t i) v ((l.drop i).take 1)) = p at hn hok
      have hnv : p.1.before = blockSum (t.blk i) ∧ p.1.list = (l.drop i).take 1 := by
        rw [← hnb] at hn ⊢
        unfold nextBlock at hn ⊢
        split at hn
        · rename_i hh
          rw [if_pos hh]
          exact ⟨rfl, rfl⟩
        · cases hn
      have hlb := hc.ok.bef
      have hle : (putT t p.1).blocks.length = i + 2 := by show (t.blocks ++ [p.1]).length = _; rw [List.length_append, hc.len]; rfl
      have hold : ∀ k, k ≤ i → (putT t p.1).blk k = t.blk k := fun k hk => by
        show (t.blocks ++ [p.1]).getD k default = t.blocks.getD k default
        rw [List.getD_eq_getElem?_getD, List.getD_eq_getElem?_getD, List.getElem?_append_left (by rw [hc.len]; omega)]
      have hnew : (putT t p.1).blk (i + 1) = p.1 := by
        show (t.blocks ++ [p.1]).getD (i + 1) default = p.1
        rw [List.getD_eq_getElem?_getD, List.getElem?_append_right (by rw [hc.len]; omega), hc.len]
        simp
      have hbold : ∀ k, k ≤ i → (putT t p.1).bef k = t.bef k := fun k hk => by
        show (t.before ++ [findB t.blocks p.1.before]).getD k 0 = t.before.getD k 0
        rw [List.getD_eq_getElem?_getD, List.getD_eq_getElem?_getD, List.getElem?_append_left (by rw [hlb, hc.len]; omega)]
      refine ⟨hok, hc.base, hle, fun k hk => ?_, fun k hk => ?_⟩
      · by_cases hk' : k ≤ i
        · rw [hbold k hk']; exact hc.bef k hk'
        · obtain rfl : k = i + 1 := by omega
          have hL := hok.link (i + 1) (by omega) (by rw [hle]; omega)
          have hlo := hL.lo
          have hhi := hL.hi
          obtain ⟨m, hm⟩ : ∃ m : Nat, (putT t p.1).bef (i + 1) = (m : Int) := ⟨((putT t p.1).bef (i + 1)).toNat, by omega⟩
          have hsum := hL.sum
          rw [hm, Int.toNat_natCast, hnew, hnv.1, ← hold i (Nat.le_refl _)] at hsum
          rw [hm] at hhi ⊢
          by_cases hmi : m = i
          · rw [hmi]; omega
          · exact absurd hsum (hok.dist m i (by omega) (by rw [hle]; omega))
      · by_cases hk' : k < i
        · rw [hold (k + 1) (by omega)]; exact hc.list k hk'
        · obtain rfl : k = i := by omega
          rw [hnew]; exact hnv.2
    · cases hg
  · cases hg

theorem wayV_append (t : Tree) (v : List Int) (p q : List Int) : wayV t v (p ++ q) = wayV t (wayV t v p) q := by
  unfold wayV; rw [List.foldl_append]

theorem chain_way {s : List Entry} {l : List Action} {t : Tree} {i : Nat} (hc : Chain s l t i) (hl : i ≤ l.length) : ∀ k, k ≤ i → wayV t (valuesL s) (pathL t (k : Int)) = (runAllE (valuesL s) (l.take k)).1
  | 0, _ => by
    obtain ⟨h1, _, _⟩ := back_cons hc.ok 0 (by rw [hc.len]; omega)
    have hp : pathL t ((0 : Nat) : Int) = [0] := by
      unfold pathL
      rw [h1, hc.bef 0 (by omega), back_neg _ _ (by omega)]
      rfl
    rw [hp]
    show (runAllE (valuesL s) (t.blk 0).list).1 = _
    rw [hc.ok.first, firstBlock_list]
    rfl
  | k + 1, hk => by
    have ih := chain_way hc hl k (by omega)
    obtain ⟨h1, _, _⟩ := back_cons hc.ok (k + 1) (by rw [hc.len]; omega)
    have hp : pathL t ((k + 1 : Nat) : Int) = pathL t (k : Int) ++ [((k + 1 : Nat) : Int)] := by
      unfold pathL
      rw [h1, hc.bef (k + 1) hk, show (((k + 1 : Nat) : Int) - 1) = (k : Int) by omega, List.reverse_cons]
    rw [hp, wayV_append, ih]
    show (runAllE _ (t.blk (((k + 1 : Nat) : Int)).toNat).list).1 = _
    rw [Int.toNat_natCast, hc.list k (by omega)]
    have hd : (l.drop k).take 1 = [l[k]] := by
      rw [List.drop_eq_getElem_cons (by omega)]
      rfl
    rw [hd, runAllE_take _ _ _ (by omega)]
    rfl

theorem chain_store {s : List Entry} {l : List Action} {t : Tree} (hc : Chain s l t l.length) (h1 : storeValid s = true) (h2 : actionsValid l = true) : storeOf t (l.length : Int) = (runSerial s l).1 := by
  have hv := treeValid_true hc.ok
  have hb : inB (l.length : Int) 0 ((t.blocks.length : Int) - 1) = true := by rw [inB_iff, hc.len]; omega
  unfold storeOf runSerial storeAt afterV
  rw [hv, hb, h1, h2, hc.base, chain_way hc (Nat.le_refl _) l.length (Nat.le_refl _), List.take_length]
  rfl

end Go.Proofs.Ytmibclbinebnjaa

/- How much a tree is: plain. -/
set_option linter.unusedSimpArgs false
set_option linter.unusedVariables false
set_option maxRecDepth 20000
set_option maxHeartbeats 4000000
namespace Go.Proofs.Ytmibclbinebnjaa
open Go Go.RowKit

theorem stT_le (t : Tree) : stT t ≤ 5 * tsz t := by
  unfold stT tsz
  rw [stepS_const stE 2 (fun _ => rfl), stepS_const stI 1 (fun _ => rfl), stB_sum]
  omega
theorem tsz_sz {t : Tree} {m : Nat} (h : tsz t ≤ m) (hm : m < 2 ^ 62) : TreeSz t :=
  ⟨by unfold tsz at h; omega, by unfold tsz at h; omega, by unfold tsz at h; omega, fun b hb => by have := lsum_mem t.blocks b hb; unfold tsz at h; omega⟩
theorem lsum_snoc : ∀ (bs : List Block) (b : Block), lsum (bs ++ [b]) = lsum bs + b.list.length
  | [], b => by simp [lsum]
  | c :: r, b => by
    simp only [List.cons_append, lsum, lsum_snoc r b]
    omega

end Go.Proofs.Ytmibclbinebnjaa

/- Contracts: the reference's copies of trees, putting blocks. -/
set_option linter.unusedSimpArgs false
set_option linter.unusedVariables false
set_option maxRecDepth 20000
set_option maxHeartbeats 4000000
namespace Go.Proofs.Ytmibclbinebnjaa
open Go Go.RowKit

theorem putT_tsz (t : Tree) (b : Block) : tsz (putT t b) = tsz t + b.list.length + 2 := by
  unfold tsz putT
  simp only [lsum_snoc, List.length_append, List.length_singleton]
  omega
theorem putBlock_tsz (t : Tree) (b : Block) : tsz (putBlock t b).1 ≤ tsz t + b.list.length + 2 := by
  unfold putBlock
  split
  · split
    · exact Nat.le_of_eq (putT_tsz t b)
    · show tsz t ≤ _; omega
  · show tsz ⟨[], [], []⟩ ≤ _; simp [tsz, lsum]

theorem growTree_tsz (t : Tree) (n v : Int) (l : List Action) : tsz (growTree t n v l).1 ≤ tsz t + l.length + 2 := by
  unfold growTree
  split
  · split
    · split
      · have := putBlock_tsz t (nextBlock (t.blk n.toNat) (storeOf t n) v l).1
        have := nextBlock_len (t.blk n.toNat) (storeOf t n) v l
        omega
      · show tsz t ≤ _; omega
    · show tsz t ≤ _; omega
  · show tsz ⟨[], [], []⟩ ≤ _; simp [tsz, lsum]

theorem putBlock_ok {t : Tree} (ht : TreeOk t) (b : Block) : TreeOk (putBlock t b).1 := by
  unfold putBlock
  rw [if_pos (treeValid_true ht)]
  split
  · rename_i h; exact treeOk_of h
  · exact ht

theorem growTree_ok {t : Tree} (ht : TreeOk t) (n v : Int) (l : List Action) : TreeOk (growTree t n v l).1 := by
  unfold growTree
  rw [if_pos (treeValid_true ht)]
  split
  · split
    · exact putBlock_ok ht _
    · exact ht
  · exact ht

theorem values_storeL {v : List Int} (h : ValsOk v) : valuesL (storeL v) = v := by
  have hs := storeL_valid h
  apply List.ext_getElem?
  intro k
  by_cases hk : k < 32
  · obtain ⟨h1, h2⟩ := valuesL_get hs k hk
    have h3 := storeL_at h (k : Int) (by omega)
    rw [← h2] at h3
    unfold valK at h3
    rw [Int.toNat_natCast] at h3
    rw [List.getElem?_eq_getElem (by rw [h1]; exact hk), List.getElem?_eq_getElem (by rw [h.1]; exact hk)]
    rw [List.getD_eq_getElem?_getD, List.getD_eq_getElem?_getD, List.getElem?_eq_getElem (by rw [h1]; exact hk), List.getElem?_eq_getElem (by rw [h.1]; exact hk)] at h3
    exact congrArg some h3
  · have h1 := (valuesL_get hs 0 (by omega)).1
    rw [List.getElem?_eq_none (by rw [h1]; omega), List.getElem?_eq_none (by rw [h.1]; omega)]

theorem runSerial_storeL {v : List Int} {l : List Action} (h : ValsOk v) (hl : actionsValid l = true) : (runSerial (storeL v) l).1 = storeL (runAllE v l).1 := by
  unfold runSerial
  rw [storeL_valid h, hl, values_storeL h]
  rfl

theorem c_spec_l13Copy (n1 n2 n3 : Option Bool) (t : Tree) (hx : TreeS32 t) : Det Try.prog 94 [.agg (encT n1 n2 n3 t)] (.agg (encTF t)) := by
  refine fspec_det tab_ok Try.call94 Try.func94 rfl 39 Try.ntmps94 (of_decide_eq_true rfl) fun B => codeK_sound tab_ok _ _ _ ?_
  have q1 := hx.base
  have q2 := hx.blocks
  have q3 := hx.before
  have a1 := all_rows encI AV.flat (fun _ => rfl) t.before
  have a2 := all_rows encI AV.one (fun _ => rfl) t.before
  have a3 := sz0_rows encI 1 (fun _ => rfl) t.before
  have b1 := all_rows encE AV.flat (fun _ => rfl) t.base
  have b2 := all_rows encE AV.one (fun _ => rfl) t.base
  have b3 := sz0_rows encE 2 (fun _ => rfl) t.base
  simp (config := { maxSteps := 4000000 }) only [go_sem, simprocAttr, ↓dnA, Try.f94, rows_length, encT]
  refine semL_draw tab_ok mixed_ rfl (ord := [(1, []), (2, []), (5, []), (6, []), (0, [1, 2, 5, 6]), (3, [5, 6]), (4, [1, 2, 5, 6]), (7, []), (8, []), (9, [1, 2, 5, 6, 8]), (10, [])]) (by dsimp only; decide +kernel) ?_
  simp (config := { maxSteps := 4000000 }) only [go_sem, simprocAttr, ↓dnA, Try.f94, rows_length, encT]
  repeat refine And.intro (by first | omega | (simp; done) | (simp; omega) | assumption) ?_
  refine semL_nilVA 3 1 600 6 true (by rfl) (by simp) (by rfl) (by rfl) (by decide) (by decide) ?_
  refine semL_for tab_ok (fun i : Nat => ⟨39, [(1, .loc 1 0), (2, .loc 2 0), (3, .loc 3 0), (4, .int .i64 i)],
      [(1, .var (encT n1 n2 n3 t)), (2, .var [.sl (some false) [], .sl (some false) [], .sl (some false) []]), (3, .var [.row 9 t.base.length, .row 600 i, .row 13 t.before.length]),
        (13, .row true true 1 (rows encI t.before)), (9, .row true true 2 (rows encE t.base)), (600, .row true false 6 (rows encB1 (t.blocks.take i)))]⟩) (fun i => t.blocks.length - i)
    (fun i => i ≤ t.blocks.length) 0 [(1, 1), (2, 2), (3, 3), (9, 9), (13, 13), (600, 600)] (Weak.of (by rfl) ?_ ?_ (by rfl)) (by omega) ?_
  · simp (config := { maxSteps := 4000000 }) only [go_sem, simprocAttr, ↓dnA, Try.f94, rows_length, encT, frW, wk2, wk1, wkL, wkB, hpW, List.mem_cons, Prod.mk.injEq, exists_eq_left, exists_eq_right, exists_eq]
    try rfl
  · simp (config := { maxSteps := 4000000 }) only [go_sem, simprocAttr, ↓dnA, Try.f94, rows_length, frW, wk2, wk1, wkL, wkB, hpW, List.mem_cons, Prod.mk.injEq, exists_eq_left, exists_eq_right, exists_eq]
  · rintro i hi
    by_cases h : i < t.blocks.length
    · have hb := hx.list _ (List.getElem_mem h)
      have htk : (rows encB1 (t.blocks.take i)).take i = rows encB1 (t.blocks.take i) := by
        rw [List.take_of_length_le]; rw [rows_length, List.length_take]; omega
      have hl : min i t.blocks.length = i := by omega
      have hw : IntKind.i64.wrap ((i : Int) + 1) = ((i + 1 : Nat) : Int) := wsucc h (by omega)
      have c1 := all_rows encA AV.flat (fun _ => rfl) t.blocks[i].list
      have c2 := all_rows encA AV.one (fun _ => rfl) t.blocks[i].list
      have c3 := sz0_rows encA 4 (fun _ => rfl) t.blocks[i].list
      simp (config := { maxSteps := 4000000 }) only [go_sem, simprocAttr, ↓dnA, Try.f94, rows_length, encT, nlt h, h, rows_get _ _ _ h, encB1, encBk, nn0, List.length_take, hl, htk, hw]
      repeat refine And.intro (by first | omega | (simp; done) | (simp; omega) | assumption) ?_
      refine ⟨i + 1, [(1, 1), (2, 2), (3, 3), (13, 13), (9, 9), (36, 600)], by omega, by dsimp only; omega, Weak.of (by rfl) ?_ ?_ (by rfl)⟩
      · simp (config := { maxSteps := 4000000 }) only [go_sem, simprocAttr, ↓dnA, Try.f94, rows_length, encT, frW, wk2, wk1, wkL, wkB, hpW, List.mem_cons, Prod.mk.injEq, exists_eq_left, exists_eq_right, exists_eq]
        rw [take_snoc _ _ h, ← rows_snoc]
        rfl
      · simp (config := { maxSteps := 4000000 }) only [go_sem, simprocAttr, ↓dnA, Try.f94, rows_length, frW, wk2, wk1, wkL, wkB, hpW, List.mem_cons, Prod.mk.injEq, exists_eq_left, exists_eq_right, exists_eq]
    · have hi' : i = t.blocks.length := by omega
      subst hi'
      simp (config := { maxSteps := 4000000 }) only [go_sem, simprocAttr, ↓dnA, Try.f94, rows_length, encT, nlf h, encTF, List.take_length]

theorem c_spec_StoreOf (n1 n2 n3 : Option Bool) (t : Tree) (n : Int) (hx : TreeS32 t) :
    Det Try.prog 92 [.agg (encT n1 n2 n3 t), .int .i64 n] (.osl false 2 (rows encE (storeOf t n))) := by
  refine fspec_det tab_ok Try.call92 Try.func92 rfl 43 Try.ntmps92 (of_decide_eq_true rfl) fun B => codeK_sound tab_ok _ _ _ ?_
  have hpn := pathTo_len t n
  simp (config := { maxSteps := 4000000 }) only [go_sem, simprocAttr, ↓dnA, Try.f92, rows_length, encT]
  refine CallTo.det (c_spec_PathTo n1 n2 n3 t n hx.sz) fun _ => ?_
  by_cases hok : treeValid t = true ∧ 0 ≤ n ∧ n < t.blocks.length
  · obtain ⟨h0, hn0, hn⟩ := hok
    have ht := treeOk_of h0
    have hp0 : pathTo t n = pathL t n := pathTo_in h0 hn0 hn
    have hso : storeOf t n = storeL (wayV t (valuesL t.base) (pathL t n)) := by
      unfold storeOf
      rw [h0, inB_iff.2 (by omega)]
      rfl
    have hbd := pathL_bd ht hn
    have hpl := pathL_len ht hn
    have hpos : 0 < (pathL t n).length := by
      unfold pathL
      obtain ⟨k, rfl⟩ : ∃ k : Nat, n = (k : Int) := ⟨n.toNat, by omega⟩
      rw [List.length_reverse, (back_cons ht k (by omega)).1, List.length_cons]
      omega
    rw [hp0, hso]
    generalize pathL t n = p at hbd hpl hpos
    have hV := valuesL_ok ht.store
    have hsv := storeL_values ht.store
    have hsl := store_len ht.store
    have b1 := all_rows encE AV.flat (fun _ => rfl) t.base
    have b2 := all_rows encE AV.one (fun _ => rfl) t.base
    have b3 := sz0_rows encE 2 (fun _ => rfl) t.base
    have hgt : decide ((p.length : Int) > 0) = true := by simp; omega
    simp (config := { maxSteps := 4000000 }) only [go_sem, simprocAttr, ↓dnA, Try.f92, rows_length, encT, hgt]
    repeat refine And.intro (by first | omega | (simp; done) | (simp; omega) | assumption) ?_
    refine semL_for tab_ok (fun i : Nat => ⟨43, [(2, .loc 2 0), (5, .row 13000 p.length), (6, .row 600 (storeL (wayV t (valuesL t.base) (p.take i))).length), (7, .int .i64 i)],
        [(2, .var (encT n1 n2 n3 t)), (13000, .row true true 1 (rows encI p)), (600, .row true true 2 (rows encE (storeL (wayV t (valuesL t.base) (p.take i)))))]⟩) (fun i => p.length - i)
      (fun i => i ≤ p.length) 0 [(2, 2), (13000, 13000), (20, 600)] (Weak.of (by rfl) ?_ ?_ (by rfl)) (by omega) ?_
    · simp (config := { maxSteps := 4000000 }) only [go_sem, simprocAttr, ↓dnA, Try.f92, rows_length, encT, frW, wk2, wk1, wkL, wkB, hpW, List.mem_cons, Prod.mk.injEq, exists_eq_left, exists_eq_right, exists_eq]
      exact congrArg (rows encE) hsv
    · simp (config := { maxSteps := 4000000 }) only [go_sem, simprocAttr, ↓dnA, Try.f92, rows_length, frW, wk2, wk1, wkL, wkB, hpW, List.mem_cons, Prod.mk.injEq, exists_eq_left, exists_eq_right, exists_eq]
      exact congrArg (fun x : List Entry => AV.row 20 x.length) hsv.symm
    · rintro i hi
      have hU := wayV_ok ht (p.take i) (fun x hx => by have := hbd x (List.mem_of_mem_take hx); omega) hV
      by_cases h : i < p.length
      · have hb := hbd _ (List.getElem_mem h)
        have hst := wayV_take t (valuesL t.base) p i h
        have hw : IntKind.i64.wrap ((i : Int) + 1) = ((i + 1 : Nat) : Int) := wsucc h (by omega)
        generalize wayV t (valuesL t.base) (p.take i) = u at hU hst
        obtain ⟨k, hk⟩ : ∃ k : Nat, p[i] = (k : Int) := ⟨p[i].toNat, by omega⟩
        have hkl : k < t.blocks.length := by omega
        have hbk := t.blk_get k hkl
        obtain ⟨a1, a2, a3⟩ := blk_acts ht hkl
        have hul := store_len (storeL_valid hU)
        rw [hk, Int.toNat_natCast] at hst
        simp (config := { maxSteps := 4000000 }) only [go_sem, simprocAttr, ↓dnA, Try.f92, rows_length, encT, nlt h, h, rows_get _ _ _ h, encI, hk, nn0]
        refine semL_draw tab_ok mixed_ rfl (ord := [(0, []), (1, []), (2, []), (3, []), (4, []), (5, []), (6, []), (7, []), (8, []), (9, []), (10, []), (11, []), (12, []), (13, []), (14, []), (15, [])]) (by dsimp only; decide +kernel) ?_
        simp (config := { maxSteps := 4000000 }) only [go_sem, simprocAttr, ↓dnA, Try.f92, rows_length, encT, nlt h, h, rows_get _ _ _ h, encI, hk, nn0, nlt hkl, hkl, rows_get _ _ _ hkl, hbk, encB1, encBk]
        refine CallTo.det (c_spec_RunSerial _ none (storeL u) (t.blk k).list (by omega) (by omega)) fun _ => ?_
        have hrs := runSerial_storeL hU a3
        rw [← hst] at hrs
        generalize runSerial (storeL u) (t.blk k).list = r at hrs
        obtain ⟨r1, r2⟩ := r
        dsimp only at hrs
        subst hrs
        simp (config := { maxSteps := 4000000 }) only [go_sem, simprocAttr, ↓dnA, Try.f92, rows_length, encT, nlt h, h, rows_get _ _ _ h, encI, hk, nn0, nlt hkl, hkl, rows_get _ _ _ hkl, hbk, encB1, encBk, hw]
        refine ⟨i + 1, [(2, 2), (13000, 13000), (39000, 600)], by omega, by dsimp only; omega, Weak.of (by rfl) ?_ ?_ (by rfl)⟩
        · simp (config := { maxSteps := 4000000 }) only [go_sem, simprocAttr, ↓dnA, Try.f92, rows_length, encT, frW, wk2, wk1, wkL, wkB, hpW, List.mem_cons, Prod.mk.injEq, exists_eq_left, exists_eq_right, exists_eq]
        · simp (config := { maxSteps := 4000000 }) only [go_sem, simprocAttr, ↓dnA, Try.f92, rows_length, encT, frW, wk2, wk1, wkL, wkB, hpW, List.mem_cons, Prod.mk.injEq, exists_eq_left, exists_eq_right, exists_eq]
      · have hi' : i = p.length := by omega
        subst hi'
        simp (config := { maxSteps := 4000000 }) only [go_sem, simprocAttr, ↓dnA, Try.f92, rows_length, encT, nlf h, List.take_length]
  · have hp0 : pathTo t n = [] := by unfold pathTo; rw [if_neg hok]
    have hso : storeOf t n = [] := by
      unfold storeOf
      cases h1 : treeValid t with
      | false => rfl
      | true =>
        cases h2 : inB n 0 ((t.blocks.length : Int) - 1) with
        | false => rfl
        | true =>
          have := inB_iff.1 h2
          exact absurd ⟨h1, by omega, by omega⟩ hok
    rw [hp0, hso]
    simp (config := { maxSteps := 4000000 }) only [go_sem, simprocAttr, ↓dnA, Try.f92, rows_length, encT, rows_nil, List.length_nil]
    refine semL_for tab_ok (fun _ : Nat => ⟨43, [(5, .row 13000 0), (6, .row 600 0), (7, .int .i64 0)],
        [(13000, .row true true 1 []), (600, .row true true 2 [])]⟩) (fun i => i) (fun _ => True) 0 [(13000, 13000), (13, 600)] (Weak.of (by rfl) ?_ ?_ (by rfl)) trivial ?_
    · simp (config := { maxSteps := 4000000 }) only [go_sem, simprocAttr, ↓dnA, Try.f92, rows_length, frW, wk2, wk1, wkL, wkB, hpW, List.mem_cons, Prod.mk.injEq, exists_eq_left, exists_eq_right, exists_eq]
      try rfl
    · simp (config := { maxSteps := 4000000 }) only [go_sem, simprocAttr, ↓dnA, Try.f92, rows_length, frW, wk2, wk1, wkL, wkB, hpW, List.mem_cons, Prod.mk.injEq, exists_eq_left, exists_eq_right, exists_eq]
    · rintro i -
      simp (config := { maxSteps := 4000000 }) only [go_sem, simprocAttr, ↓dnA, Try.f92, rows_length, rows_nil, List.length_nil]

theorem c_spec_PutBlock (n1 n2 n3 n : Option Bool) (t : Tree) (b : Block) (hx : TreeS32 t) (hb : b.list.length < 2 ^ 32) :
    Det Try.prog 36 [.agg (encT n1 n2 n3 t), .agg (encBk n b)] (.tup [.agg (encTF (putBlock t b).1), .bool (putBlock t b).2]) := by
  refine fspec_det tab_ok Try.call36 Try.func36 rfl 39 Try.ntmps36 (of_decide_eq_true rfl) fun B => codeK_sound tab_ok _ _ _ ?_
  unfold putBlock
  simp (config := { maxSteps := 4000000 }) only [go_sem, simprocAttr, ↓dnA, Try.f36, rows_length, encT, encBk]
  refine CallTo.det (c_spec_BlockTreeValid n1 n2 n3 t hx.sz) fun _ => ?_
  cases h1 : treeValid t with
  | false => simp (config := { maxSteps := 4000000 }) only [go_sem, simprocAttr, ↓dnA, Try.f36, rows_length, encT, encTF, h1, rows_nil]
  | true =>
    have ht := treeOk_of h1
    have hlen := ht.len
    have hbl := ht.bef
    have c1 := all_rows encA AV.flat (fun _ => rfl) b.list
    have c2 := all_rows encA AV.one (fun _ => rfl) b.list
    have c3 := sz0_rows encA 4 (fun _ => rfl) b.list
    simp (config := { maxSteps := 4000000 }) only [go_sem, simprocAttr, ↓dnA, Try.f36, rows_length, encT, encBk, h1]
    refine CallTo.det (c_spec_l13Copy n1 n2 n3 t hx) fun _ => ?_
    have tk1 : (rows encB1 t.blocks).take t.blocks.length = rows encB1 t.blocks := by rw [List.take_of_length_le]; rw [rows_length]; omega
    have tk2 : (rows encI t.before).take t.before.length = rows encI t.before := by rw [List.take_of_length_le]; rw [rows_length]; omega
    simp (config := { maxSteps := 4000000 }) only [go_sem, simprocAttr, ↓dnA, Try.f36, rows_length, encT, encTF, encBk, h1, tk1]
    repeat refine And.intro (by first | omega | (simp; done) | (simp; omega) | assumption) ?_
    refine semL_draw tab_ok mixed_ rfl (ord := [(0, []), (1, []), (2, []), (3, []), (4, []), (5, [0, 1]), (6, [0, 1]), (7, []), (8, []), (9, [])]) (by dsimp only; decide +kernel) ?_
    simp (config := { maxSteps := 4000000 }) only [go_sem, simprocAttr, ↓dnA, Try.f36, rows_length, encT, encTF, encBk, h1]
    refine CallTo.det (c_spec_find n1 n2 n3 t b.before hx.sz) fun _ => ?_
    have e1 : rows encB1 t.blocks ++ [[AV.int IntKind.i64 b.before, AV.int IntKind.i64 b.height, AV.int IntKind.i64 b.view, AV.sl none (rows encA b.list), AV.int IntKind.i64 b.root, AV.int IntKind.i64 b.effects]] = rows encB1 (t.blocks ++ [b]) := by
      rw [← rows_snoc]; rfl
    have e2 : rows encI t.before ++ [[AV.int IntKind.i64 (findB t.blocks b.before)]] = rows encI (t.before ++ [findB t.blocks b.before]) := by
      rw [← rows_snoc]; rfl
    have l1 : (t.blocks ++ [b]).length = t.blocks.length + 1 := by simp
    have l2 : (t.before ++ [findB t.blocks b.before]).length = t.before.length + 1 := by simp
    have hu : TreeSz (putT t b) := ⟨hx.sz.base, by show (t.blocks ++ [b]).length < _; rw [l1]; omega, by show (t.before ++ [findB t.blocks b.before]).length < _; rw [l2]; omega, fun c hc => by
      rcases List.mem_append.1 hc with e | e
      · exact hx.sz.list c e
      · rw [List.mem_singleton.1 e]; omega⟩
    have hv := c_spec_BlockTreeValid none (some true) (some true) (putT t b) hu
    have hf : encTF (putT t b) = [.osl false 2 (rows encE t.base), .osl false 6 (rows encB1 (t.blocks ++ [b])), .osl false 1 (rows encI (t.before ++ [findB t.blocks b.before]))] := rfl
    simp (config := { maxSteps := 4000000 }) only [go_sem, simprocAttr, ↓dnA, Try.f36, rows_length, encT, encTF, encBk, h1, tk2, e1, e2, l1, l2]
    repeat refine And.intro (by first | omega | (simp; done) | (simp; omega) | assumption) ?_
    refine CallTo.det hv fun _ => ?_
    cases h2 : treeValid (putT t b) with
    | false =>
      simp (config := { maxSteps := 4000000 }) only [go_sem, simprocAttr, ↓dnA, Try.f36, rows_length, encT, encBk, h1, h2]
      refine CallTo.det (c_spec_l13Copy n1 n2 n3 t hx) fun _ => ?_
      simp (config := { maxSteps := 4000000 }) only [go_sem, simprocAttr, ↓dnA, Try.f36, rows_length, encT, encTF, h1, h2]
    | true =>
      simp (config := { maxSteps := 4000000 }) only [go_sem, simprocAttr, ↓dnA, Try.f36, rows_length, encT, encBk, h1, h2, hf, tk2, e1, e2, l1, l2]

theorem c_spec_GrowTree (n1 n2 n3 n0 : Option Bool) (t : Tree) (n v : Int) (l : List Action) (hx : TreeS32 t) (hl : l.length < 2 ^ 32) :
    Det Try.prog 146 [.agg (encT n1 n2 n3 t), .int .i64 n, .int .i64 v, .sl n0 (rows encA l)] (.tup [.agg (encTF (growTree t n v l).1), .bool (growTree t n v l).2]) := by
  refine fspec_det tab_ok Try.call146 Try.func146 rfl 48 Try.ntmps146 (of_decide_eq_true rfl) fun B => codeK_sound tab_ok _ _ _ ?_
  unfold growTree
  simp (config := { maxSteps := 4000000 }) only [go_sem, simprocAttr, ↓dnA, Try.f146, rows_length, encT]
  refine CallTo.det (c_spec_BlockTreeValid n1 n2 n3 t hx.sz) fun _ => ?_
  cases h1 : treeValid t with
  | false => simp (config := { maxSteps := 4000000 }) only [go_sem, simprocAttr, ↓dnA, Try.f146, rows_length, encT, encTF, h1, rows_nil]
  | true =>
    have ht := treeOk_of h1
    have hlen := ht.len
    have hw : IntKind.i64.wrap ((t.blocks.length : Int) - 1) = (t.blocks.length : Int) - 1 := wrap_small _ (by omega) (by omega)
    simp (config := { maxSteps := 4000000 }) only [go_sem, simprocAttr, ↓dnA, Try.f146, rows_length, encT, h1, hw]
    refine CallTo.det (c_l1In _ _ _) fun _ => ?_
    cases h2 : inB n 0 ((t.blocks.length : Int) - 1) with
    | false =>
      simp (config := { maxSteps := 4000000 }) only [go_sem, simprocAttr, ↓dnA, Try.f146, rows_length, encT, h1, h2, hw]
      refine CallTo.det (c_spec_l13Copy n1 n2 n3 t hx) fun _ => ?_
      simp (config := { maxSteps := 4000000 }) only [go_sem, simprocAttr, ↓dnA, Try.f146, rows_length, encT, encTF, h1, h2, hw]
    | true =>
      have hb := inB_iff.1 h2
      obtain ⟨k, hk⟩ : ∃ k : Nat, n = (k : Int) := ⟨n.toNat, by omega⟩
      subst hk
      have hkl : k < t.blocks.length := by omega
      have hbk := t.blk_get k hkl
      have hbl := hx.list _ (List.getElem_mem hkl)
      rw [hbk] at hbl
      have hso : (storeOf t (k : Int)).length ≤ 32 := by
        have := store_len (storeL_valid (afterV_ok ht (n := (k : Int)) (by omega)))
        unfold storeOf
        rw [h1, h2]
        exact this
      rw [Int.toNat_natCast]
      simp (config := { maxSteps := 4000000 }) only [go_sem, simprocAttr, ↓dnA, Try.f146, rows_length, encT, h1, h2, hw]
      refine semL_draw tab_ok mixed_ rfl (ord := [(0, []), (1, []), (2, []), (3, []), (4, []), (5, []), (6, []), (8, []), (9, []), (7, [0, 1, 2, 3, 4, 8, 9]), (10, []), (11, []), (12, []), (13, []), (14, [0, 1, 2, 3, 4, 5, 6, 8, 9, 11, 12, 13]), (15, [13]), (16, [])]) (by dsimp only; decide +kernel) ?_
      simp (config := { maxSteps := 4000000 }) only [go_sem, simprocAttr, ↓dnA, Try.f146, rows_length, encT, h1, h2, hw, nlt hkl, hkl, rows_get _ _ _ hkl, hbk, encB1, encBk, nn0]
      refine CallTo.det (c_spec_StoreOf n1 n2 n3 t k hx) fun _ => ?_
      simp (config := { maxSteps := 4000000 }) only [go_sem, simprocAttr, ↓dnA, Try.f146, rows_length, encT, h1, h2, hw, nlt hkl, hkl, rows_get _ _ _ hkl, hbk, encB1, encBk, nn0]
      have hpl := nextBlock_len (t.blk k) (storeOf t k) v l
      refine CallTo.det (c_spec_NextBlock none none n0 (t.blk k) (storeOf t k) v l hbl (by omega) hl) fun _ => ?_
      generalize nextBlock (t.blk k) (storeOf t k) v l = p at hpl
      obtain ⟨nb, ok⟩ := p
      dsimp only at hpl ⊢
      cases ok with
      | false =>
        simp (config := { maxSteps := 4000000 }) only [go_sem, simprocAttr, ↓dnA, Try.f146, rows_length, encT, h1, h2, hw, nlt hkl, hkl, rows_get _ _ _ hkl, hbk, encB1, encBk, encBkF, encBkO, nn0]
        refine CallTo.det (c_spec_l13Copy n1 n2 n3 t hx) fun _ => ?_
        simp (config := { maxSteps := 4000000 }) only [go_sem, simprocAttr, ↓dnA, Try.f146, rows_length, encT, encTF, h1, h2, hw, encBkF, encBkO]
      | true =>
        simp (config := { maxSteps := 4000000 }) only [go_sem, simprocAttr, ↓dnA, Try.f146, rows_length, encT, h1, h2, hw, nlt hkl, hkl, rows_get _ _ _ hkl, hbk, encB1, encBk, encBkF, encBkO, nn0]
        refine CallTo.det (c_spec_PutBlock n1 n2 n3 none t nb hx (by omega)) fun _ => ?_
        simp (config := { maxSteps := 4000000 }) only [go_sem, simprocAttr, ↓dnA, Try.f146, rows_length, encT, encTF, h1, h2, hw, encBkF, encBkO]

end Go.Proofs.Ytmibclbinebnjaa

