/- Variables, aggregates and small operations: what each gives, and that the machine gives it. -/
import Derived.Test.YtdaemhaecjldaaaAi14
namespace Go.Proofs.Ytdaemhaecjldaaa
open Go Go.RowKit

/-- The cells of a value. -/
def partCells : AV → Option (List AV)
  | .agg cs => some cs
  | a => if a.one then some [a] else none

theorem VRel.cells {X : Ctx} {kd : Nat → Kd} {w : World} {v : Value} {a : AV} {cs : List AV} (h : VRel X kd w v a) (hc : partCells a = some cs) :
    v.cells.size = cs.length ∧ ∀ (i : Nat) (_ : i < cs.length), VRel X kd w (v.cells.getD i undef) (cs.getD i .top) := by
  unfold partCells at hc
  split at hc
  · cases hc
    obtain ⟨vs, rfl, h1, h2⟩ := h.agg_inv
    exact ⟨h1, h2⟩
  · split at hc
    · rename_i h1
      cases hc
      have h2 := h.one h1
      have e : v.cells = #[v] := by cases v <;> first | rfl | cases h2
      rw [e]
      refine ⟨rfl, fun i hi => ?_⟩
      have : i = 0 := by simpa using hi
      subst this
      exact h
    · cases hc

def AV.oneAll (cs : List AV) : Bool := cs.all AV.one

/-- Cells, some of them set anew. -/
def setCells : List AV → Nat → List AV → List AV
  | cs, _, [] => cs
  | cs, o, v :: vs => setCells (cs.set o v) (o + 1) vs

def spliceL (cs : List AV) (o : Nat) (vs : List AV) : List AV := if o = 0 ∧ vs.length = cs.length then vs else setCells cs o vs

theorem setCells_length : ∀ (vs cs : List AV) (o : Nat), (setCells cs o vs).length = cs.length
  | [], cs, o => rfl
  | v :: vs, cs, o => by
    show (setCells (cs.set o v) (o + 1) vs).length = _
    rw [setCells_length vs]; simp

theorem setCells_getD : ∀ (vs cs : List AV) (o j : Nat), o + vs.length ≤ cs.length → (setCells cs o vs).getD j .top = if o ≤ j ∧ j < o + vs.length then vs.getD (j - o) .top else cs.getD j .top
  | [], cs, o, j, _ => by
    show cs.getD j .top = _
    rw [if_neg (by simp)]
  | v :: vs, cs, o, j, h => by
    show (setCells (cs.set o v) (o + 1) vs).getD j .top = _
    simp only [List.length_cons] at h ⊢
    rw [setCells_getD vs _ (o + 1) j (by rw [List.length_set]; omega)]
    by_cases h1 : o + 1 ≤ j ∧ j < o + 1 + vs.length
    · rw [if_pos h1, if_pos (by omega), show j - o = (j - (o + 1)) + 1 by omega, getD_succ]
    · rw [if_neg h1]
      by_cases h2 : j = o
      · subst h2
        rw [if_pos (by omega), Nat.sub_self, getD_zero, List.getD_eq_getElem?_getD, List.getElem?_set_self (by omega)]
        simp only [Option.getD_some]
      · rw [if_neg (by omega), List.getD_eq_getElem?_getD, List.getD_eq_getElem?_getD, List.getElem?_set_ne (fun e => h2 e.symm)]

theorem spliceL_length (vs cs : List AV) (o : Nat) : (spliceL cs o vs).length = cs.length := by
  unfold spliceL; split
  · rename_i h; exact h.2
  · exact setCells_length _ _ _

theorem spliceL_getD (vs cs : List AV) (o j : Nat) (h : o + vs.length ≤ cs.length) (hj : j < cs.length) : (spliceL cs o vs).getD j .top = if o ≤ j ∧ j < o + vs.length then vs.getD (j - o) .top else cs.getD j .top := by
  unfold spliceL; split
  · rename_i h1
    rw [if_pos (by omega), h1.1, Nat.sub_zero]
  · exact setCells_getD _ _ _ _ h

/-! ### alloc, box, store into a variable -/

def allocK (T : Tab) (s : AState) (d : Option Nat) (t : TypeId) (K : AV → List (Nat × ABlk) → Prop) : Prop :=
  match d, T t with
  | some d, some i => (s.blk d = .none ∧ d ≠ 900) ∧ K (.loc d 0) [(d, .var i.zc)]
  | _, _ => False

def boxOpK (s : AState) (d : Option Nat) (x : AV) (K : AV → List (Nat × ABlk) → Prop) : Prop :=
  match d, partCells x with
  | some d, some cs => (s.blk d = .none ∧ d ≠ 900) ∧ K (.loc d 0) [(d, .var cs)]
  | _, _ => False

def storeVarK (s : AState) (size : Nat) (x y : AV) (K : AV → List (Nat × ABlk) → Prop) : Prop :=
  match x with
  | .loc id off => (match s.blk id with
    | .var cs => (match partCells y with
      | some vs => vs.length = size ∧ AV.oneAll vs = true ∧ off + size ≤ cs.length ∧ K .top [(id, .var (spliceL cs off vs))]
      | none => False)
    | _ => False)
  | _ => False

theorem zCell_rel {v : Value} {a : AV} (h : zCell v a = true) (X : Ctx) (kd : Nat → Kd) (w : World) : VRel X kd w v a := by
  unfold zCell at h
  split at h
  · simp only [Bool.and_eq_true, beq_iff_eq] at h; rw [h.1, h.2]; exact .pure (.int _ _)
  · simp only [beq_iff_eq] at h; rw [h]; exact .pure (.bool _)
  · exact .pure (.nil _ (by simp))
  · exact .top _
  · cases h

theorem zCells_rel : ∀ (vs : List Value) (as : List AV), zCells vs as = true → ∀ (X : Ctx) (kd : Nat → Kd) (w : World), vs.length = as.length ∧ ∀ (i : Nat) (_ : i < as.length), VRel X kd w (vs.getD i undef) (as.getD i .top)
  | [], [], _, _, _, _ => ⟨rfl, fun i hi => by simp at hi⟩
  | [], _ :: _, h, _, _, _ => by cases h
  | _ :: _, [], h, _, _, _ => by cases h
  | v :: vs, a :: as, h, X, kd, w => by
    simp only [zCells, Bool.and_eq_true] at h
    obtain ⟨h1, h2⟩ := zCells_rel vs as h.2 X kd w
    refine ⟨by simp [h1], fun i hi => ?_⟩
    cases i with
    | zero => exact zCell_rel h.1 X kd w
    | succ i => rw [getD_succ, getD_succ]; exact h2 i (by simp at hi; omega)

theorem arr_getD (c : Array Value) (i : Nat) : c.toList.getD i undef = c.getD i undef := by
  simp [Array.getD_eq_getD_getElem?, List.getD_eq_getElem?_getD]

theorem allocK_sound {P : Program} {T : Tab} (hT : TabOk P T) {X : Ctx} {s : AState} {a : Act} {w : World} {d : Option Nat} {t : TypeId} {K : AV → List (Nat × ABlk) → Prop} (h : R X s a w) (hK : allocK T s d t K) :
    ∃ r ar ups X' w', (Instr.alloc t true (.tuple #[])).run P w = .ok r w' ∧ X'.base = X.base ∧ R X' { s with hp := ups ++ s.hp } a w' ∧ VRel X' ({ s with hp := ups ++ s.hp } : AState).kds w' r ar ∧ K ar ups := by
  unfold allocK at hK
  split at hK
  · rename_i d i hi
    obtain ⟨⟨h1, h9⟩, hK⟩ := hK
    obtain ⟨nf, dd, z, ok⟩ := hT.get hi
    obtain ⟨g1, g2⟩ := zCells_rel _ _ ok.zc X s.kds w
    obtain ⟨X', hX, hR, hV, _⟩ := h.newVar h9 h1 z.cells t i.zc (by simpa using g1) (fun j hj => by have := g2 j hj; rwa [arr_getD] at this)
    refine ⟨_, _, [(d, .var i.zc)], X', _, ?_, hX, hR, hV, hK⟩
    simp only [Instr.alloc, Sem.run_bind, ok.run_zero, Result.andThen_ok, newVar, newRow, run_newObj, Sem.run_pure]
    rfl
  · exact hK.elim

theorem boxOpK_sound {P : Program} {X : Ctx} {s : AState} {a : Act} {w : World} {d : Option Nat} {t : TypeId} {x : AV} {v : Value} {K : AV → List (Nat × ABlk) → Prop} (h : R X s a w) (hv : VRel X s.kds w v x) (hK : boxOpK s d x K) :
    ∃ r ar ups X' w', (Instr.box t v).run P w = .ok r w' ∧ X'.base = X.base ∧ R X' { s with hp := ups ++ s.hp } a w' ∧ VRel X' ({ s with hp := ups ++ s.hp } : AState).kds w' r ar ∧ K ar ups := by
  unfold boxOpK at hK
  split at hK
  · rename_i d cs hc
    obtain ⟨⟨h1, h9⟩, hK⟩ := hK
    obtain ⟨g1, g2⟩ := hv.cells hc
    obtain ⟨X', hX, hR, hV, _⟩ := h.newVar h9 h1 v.cells t cs g1 g2
    refine ⟨_, _, [(d, .var cs)], X', _, ?_, hX, hR, hV, hK⟩
    simp only [Instr.box, Sem.run_bind, newVar, newRow, run_newObj, Sem.run_pure, Result.andThen_ok]
    rfl
  · exact hK.elim

theorem storeVarK_sound {P : Program} {X : Ctx} {s : AState} {a : Act} {w : World} {t : TypeId} {size : Nat} {x y : AV} {v u : Value} {K : AV → List (Nat × ABlk) → Prop} (h : R X s a w) (hv : VRel X s.kds w v x) (hu : VRel X s.kds w u y)
    (hsz : (sizeOf t).run P w = .ok size w) (hK : storeVarK s size x y K) :
    ∃ ups w', (Instr.storeAt t v u).run P w = .ok () w' ∧ R X { s with hp := ups ++ s.hp } a w' ∧ K .top ups := by
  unfold storeVarK at hK
  split at hK
  · rename_i id off
    split at hK
    · rename_i cs hb
      split at hK
      · rename_i vs hc
        obtain ⟨hl, h1, hle, hK⟩ := hK
        obtain ⟨g1, g2⟩ := hu.cells hc
        have hkd : s.kds id = .var := by unfold AState.kds; rw [hb]; rfl
        obtain ⟨b, rfl, hi⟩ := hv.loc_inv hkd
        have hB := h.bl id
        rw [hb] at hB
        obtain ⟨b', c, ty, e1, e2, e3, e4, e5⟩ := hB
        rw [hi] at e1; cases e1
        have hone : ∀ q ∈ u.cells.toList, q.oneCell' = true := by
          intro q hq
          obtain ⟨j, hj, rfl⟩ := List.getElem_of_mem hq
          have hj' : j < vs.length := by simpa [g1] using hj
          have := (g2 j hj').one (List.all_eq_true.1 h1 _ (getD_mem _ _ _ hj'))
          rw [← arr_getD, List.getD_eq_getElem?_getD, List.getElem?_eq_getElem hj] at this
          exact this
        have hst := run_storeCells_at P b off ty u.cells.toList 0 c w e2 (by simp; omega) hone
        obtain ⟨c', hc'⟩ : ∃ c', c' = (c.toList.take (off + 0) ++ u.cells.toList ++ c.toList.drop (off + 0 + u.cells.toList.length)).toArray := ⟨_, rfl⟩
        rw [← hc'] at hst
        refine ⟨[(id, .var (spliceL cs off vs))], w.setRow b c', ?_, (h.setVar hb hi c' _ ?_ ?_).1, hK⟩
        · simp only [Instr.storeAt, Instr.sureAddr, Sem.run_bind, Sem.run_pure, Result.andThen_ok, storeVar, hsz, Sem.run_ite]
          rw [if_neg (by omega)]
          exact hst
        · rw [hc']
          simp only [Nat.add_zero, List.size_toArray, List.length_append, List.length_take, List.length_drop, Array.length_toList, spliceL_length]
          omega
        · intro j hj
          rw [spliceL_length] at hj
          rw [spliceL_getD _ _ _ _ (by omega) hj]
          have hval : ((c.toList.take (off + 0) ++ u.cells.toList ++ c.toList.drop (off + 0 + u.cells.toList.length)).toArray).getD j undef = if off ≤ j ∧ j < off + vs.length then u.cells.getD (j - off) undef else c.getD j undef := by
            simp only [Nat.add_zero, Array.length_toList, g1]
            rw [← arr_getD]
            simp only [List.getD_eq_getElem?_getD]
            by_cases hj1 : j < off
            · rw [if_neg (by omega), List.append_assoc, List.getElem?_append_left (by simp; omega), List.getElem?_take_of_lt hj1, ← arr_getD, List.getD_eq_getElem?_getD]
            · by_cases hj2 : j < off + vs.length
              · rw [if_pos (by omega), List.append_assoc, List.getElem?_append_right (by simp; omega), List.getElem?_append_left (by simp; omega), ← arr_getD, List.getD_eq_getElem?_getD]
                simp only [List.length_take, Array.length_toList]
                rw [show min off c.size = off by omega]
              · rw [if_neg (by omega), List.getElem?_append_right (by simp; omega), List.getElem?_drop, ← arr_getD, List.getD_eq_getElem?_getD]
                simp only [List.length_append, List.length_take, Array.length_toList, g1]
                rw [show off + vs.length + (j - (min off c.size + vs.length)) = j by omega]
          rw [hc', hval]
          split
          · exact g2 (j - off) (by omega)
          · exact e5 j hj
      · exact hK.elim
    · exact hK.elim
  · exact hK.elim

end Go.Proofs.Ytdaemhaecjldaaa
