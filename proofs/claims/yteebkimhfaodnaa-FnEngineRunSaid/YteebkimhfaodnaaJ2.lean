/- Shared texts J (part 2): Ai15, Ai16, Ai17, Ai18, Ai19, Ai29, Ai30, Ai31, Ai32, Ai33, Ai34, Ai35, Ai36, Ai45, Ai52, Ai20 -/
import Derived.Test.YteebkimhfaodnaaJ1

set_option linter.unusedSimpArgs false
set_option linter.unusedVariables false

/- Variables, aggregates and small operations: what each gives, and that the machine gives it. -/
namespace Go.Proofs.Yteebkimhfaodnaa
open Go Go.RowKit

/-- The cells of a value. -/
def partCells : AV → Option (List AV)
  | .agg cs => some cs
  | a => if a.one then some [a] else none

theorem VRel.cells {X : Ctx} {kd : Nat → Kd} {w : World} {v : Value} {a : AV} {cs : List AV} (h : VRel X kd w v a) (hc : partCells a = some cs) :
    v.cells.size = cs.length ∧ ∀ (i : Nat) (_ : i < cs.length), VRel X kd w (v.cells.getD i undef) (cs.getD i .top) := by
  unfold partCells at hc
  split at hc
  · cases hc
    obtain ⟨vs, rfl, h1, h2⟩ := h.agg_inv
    exact ⟨h1, h2⟩
  · split at hc
    · rename_i h1
      cases hc
      have h2 := h.one h1
      have e : v.cells = #[v] := by cases v <;> first | rfl | cases h2
      rw [e]
      refine ⟨rfl, fun i hi => ?_⟩
      have : i = 0 := by simpa using hi
      subst this
      exact h
    · cases hc

def AV.oneAll (cs : List AV) : Bool := cs.all AV.one

/-- Cells, some of them set anew. -/
def setCells : List AV → Nat → List AV → List AV
  | cs, _, [] => cs
  | cs, o, v :: vs => setCells (cs.set o v) (o + 1) vs

def spliceL (cs : List AV) (o : Nat) (vs : List AV) : List AV := if o = 0 ∧ vs.length = cs.length then vs else setCells cs o vs

theorem setCells_length : ∀ (vs cs : List AV) (o : Nat), (setCells cs o vs).length = cs.length
  | [], cs, o => rfl
  | v :: vs, cs, o => by
    show (setCells (cs.set o v) (o + 1) vs).length = _
    rw [setCells_length vs]; simp

theorem setCells_getD : ∀ (vs cs : List AV) (o j : Nat), o + vs.length ≤ cs.length → (setCells cs o vs).getD j .top = if o ≤ j ∧ j < o + vs.length then vs.getD (j - o) .top else cs.getD j .top
  | [], cs, o, j, _ => by
    show cs.getD j .top = _
    rw [if_neg (by simp)]
  | v :: vs, cs, o, j, h => by
    show (setCells (cs.set o v) (o + 1) vs).getD j .top = _
    simp only [List.length_cons] at h ⊢
    rw [setCells_getD vs _ (o + 1) j (by rw [List.length_set]; omega)]
    by_cases h1 : o + 1 ≤ j ∧ j < o + 1 + vs.length
    · rw [if_pos h1, if_pos (by omega), show j - o = (j - (o + 1)) + 1 by omega, getD_succ]
    · rw [if_neg h1]
      by_cases h2 : j = o
      · subst h2
        rw [if_pos (by omega), Nat.sub_self, getD_zero, List.getD_eq_getElem?_getD, List.getElem?_set_self (by omega)]
        simp only [Option.getD_some]
      · rw [if_neg (by omega), List.getD_eq_getElem?_getD, List.getD_eq_getElem?_getD, List.getElem?_set_ne (fun e => h2 e.symm)]

theorem spliceL_length (vs cs : List AV) (o : Nat) : (spliceL cs o vs).length = cs.length := by
  unfold spliceL; split
  · rename_i h; exact h.2
  · exact setCells_length _ _ _

theorem spliceL_getD (vs cs : List AV) (o j : Nat) (h : o + vs.length ≤ cs.length) (hj : j < cs.length) : (spliceL cs o vs).getD j .top = if o ≤ j ∧ j < o + vs.length then vs.getD (j - o) .top else cs.getD j .top := by
  unfold spliceL; split
  · rename_i h1
    rw [if_pos (by omega), h1.1, Nat.sub_zero]
  · exact setCells_getD _ _ _ _ h

/-! ### alloc, box, store into a variable -/

def allocK (T : Tab) (s : AState) (d : Option Nat) (t : TypeId) (K : AV → List (Nat × ABlk) → Prop) : Prop :=
  match d, T t with
  | some d, some i => (s.blk d = .none ∧ nF d) ∧ K (.loc d 0) [(d, .var i.zc)]
  | _, _ => False

def boxOpK (s : AState) (d : Option Nat) (x : AV) (K : AV → List (Nat × ABlk) → Prop) : Prop :=
  match d, partCells x with
  | some d, some cs => (s.blk d = .none ∧ nF d) ∧ K (.loc d 0) [(d, .var cs)]
  | _, _ => False

def storeVarK (s : AState) (size : Nat) (x y : AV) (K : AV → List (Nat × ABlk) → Prop) : Prop :=
  match x with
  | .loc id off => (match s.blk id with
    | .var cs => (match partCells y with
      | some vs => vs.length = size ∧ AV.oneAll vs = true ∧ off + size ≤ cs.length ∧ K .top [(id, .var (spliceL cs off vs))]
      | none => False)
    | _ => False)
  | _ => False

theorem zCell_rel {v : Value} {a : AV} (h : zCell v a = true) (X : Ctx) (kd : Nat → Kd) (w : World) : VRel X kd w v a := by
  unfold zCell at h
  split at h
  · simp only [Bool.and_eq_true, beq_iff_eq] at h; rw [h.1, h.2]; exact .pure (.int _ _)
  · simp only [beq_iff_eq] at h; rw [h]; exact .pure (.bool _)
  · exact .pure (.nil _ (by simp))
  · exact .top _
  · cases h

theorem zCells_rel : ∀ (vs : List Value) (as : List AV), zCells vs as = true → ∀ (X : Ctx) (kd : Nat → Kd) (w : World), vs.length = as.length ∧ ∀ (i : Nat) (_ : i < as.length), VRel X kd w (vs.getD i undef) (as.getD i .top)
  | [], [], _, _, _, _ => ⟨rfl, fun i hi => by simp at hi⟩
  | [], _ :: _, h, _, _, _ => by cases h
  | _ :: _, [], h, _, _, _ => by cases h
  | v :: vs, a :: as, h, X, kd, w => by
    simp only [zCells, Bool.and_eq_true] at h
    obtain ⟨h1, h2⟩ := zCells_rel vs as h.2 X kd w
    refine ⟨by simp [h1], fun i hi => ?_⟩
    cases i with
    | zero => exact zCell_rel h.1 X kd w
    | succ i => rw [getD_succ, getD_succ]; exact h2 i (by simp at hi; omega)

theorem arr_getD (c : Array Value) (i : Nat) : c.toList.getD i undef = c.getD i undef := by
  simp [Array.getD_eq_getD_getElem?, List.getD_eq_getElem?_getD]

theorem allocK_sound {P : Program} {T : Tab} (hT : TabOk P T) {X : Ctx} {s : AState} {a : Act} {w : World} {d : Option Nat} {t : TypeId} {K : AV → List (Nat × ABlk) → Prop} (h : R X s a w) (hK : allocK T s d t K) :
    ∃ r ar ups X' w', (Instr.alloc t true (.tuple #[])).run P w = .ok r w' ∧ X'.base = X.base ∧ R X' { s with hp := ups ++ s.hp } a w' ∧ VRel X' ({ s with hp := ups ++ s.hp } : AState).kds w' r ar ∧ K ar ups := by
  unfold allocK at hK
  split at hK
  · rename_i d i hi
    obtain ⟨⟨h1, h9⟩, hK⟩ := hK
    obtain ⟨nf, dd, z, ok⟩ := hT.get hi
    obtain ⟨g1, g2⟩ := zCells_rel _ _ ok.zc X s.kds w
    obtain ⟨X', hX, hR, hV, _⟩ := h.newVar h9 h1 z.cells t i.zc (by simpa using g1) (fun j hj => by have := g2 j hj; rwa [arr_getD] at this)
    refine ⟨_, _, [(d, .var i.zc)], X', _, ?_, hX, hR, hV, hK⟩
    simp only [Instr.alloc, Sem.run_bind, ok.run_zero, Result.andThen_ok, newVar, newRow, run_newObj, Sem.run_pure]
    rfl
  · exact hK.elim

theorem boxOpK_sound {P : Program} {X : Ctx} {s : AState} {a : Act} {w : World} {d : Option Nat} {t : TypeId} {x : AV} {v : Value} {K : AV → List (Nat × ABlk) → Prop} (h : R X s a w) (hv : VRel X s.kds w v x) (hK : boxOpK s d x K) :
    ∃ r ar ups X' w', (Instr.box t v).run P w = .ok r w' ∧ X'.base = X.base ∧ R X' { s with hp := ups ++ s.hp } a w' ∧ VRel X' ({ s with hp := ups ++ s.hp } : AState).kds w' r ar ∧ K ar ups := by
  unfold boxOpK at hK
  split at hK
  · rename_i d cs hc
    obtain ⟨⟨h1, h9⟩, hK⟩ := hK
    obtain ⟨g1, g2⟩ := hv.cells hc
    obtain ⟨X', hX, hR, hV, _⟩ := h.newVar h9 h1 v.cells t cs g1 g2
    refine ⟨_, _, [(d, .var cs)], X', _, ?_, hX, hR, hV, hK⟩
    simp only [Instr.box, Sem.run_bind, newVar, newRow, run_newObj, Sem.run_pure, Result.andThen_ok]
    rfl
  · exact hK.elim

theorem storeVarK_sound {P : Program} {X : Ctx} {s : AState} {a : Act} {w : World} {t : TypeId} {size : Nat} {x y : AV} {v u : Value} {K : AV → List (Nat × ABlk) → Prop} (h : R X s a w) (hv : VRel X s.kds w v x) (hu : VRel X s.kds w u y)
    (hsz : (sizeOf t).run P w = .ok size w) (hK : storeVarK s size x y K) :
    ∃ ups w', (Instr.storeAt t v u).run P w = .ok () w' ∧ R X { s with hp := ups ++ s.hp } a w' ∧ K .top ups := by
  unfold storeVarK at hK
  split at hK
  · rename_i id off
    split at hK
    · rename_i cs hb
      split at hK
      · rename_i vs hc
        obtain ⟨hl, h1, hle, hK⟩ := hK
        obtain ⟨g1, g2⟩ := hu.cells hc
        have hkd : s.kds id = .var := by unfold AState.kds; rw [hb]; rfl
        obtain ⟨b, rfl, hi⟩ := hv.loc_inv hkd
        have hB := h.bl id
        rw [hb] at hB
        obtain ⟨b', c, ty, e1, e2, e3, e4, e5⟩ := hB
        rw [hi] at e1; cases e1
        have hone : ∀ q ∈ u.cells.toList, q.oneCell' = true := by
          intro q hq
          obtain ⟨j, hj, rfl⟩ := List.getElem_of_mem hq
          have hj' : j < vs.length := by simpa [g1] using hj
          have := (g2 j hj').one (List.all_eq_true.1 h1 _ (getD_mem _ _ _ hj'))
          rw [← arr_getD, List.getD_eq_getElem?_getD, List.getElem?_eq_getElem hj] at this
          exact this
        have hst := run_storeCells_at P b off ty u.cells.toList 0 c w e2 (by simp; omega) hone
        obtain ⟨c', hc'⟩ : ∃ c', c' = (c.toList.take (off + 0) ++ u.cells.toList ++ c.toList.drop (off + 0 + u.cells.toList.length)).toArray := ⟨_, rfl⟩
        rw [← hc'] at hst
        refine ⟨[(id, .var (spliceL cs off vs))], w.setRow b c', ?_, (h.setVar hb hi c' _ ?_ ?_).1, hK⟩
        · simp only [Instr.storeAt, Instr.sureAddr, Sem.run_bind, Sem.run_pure, Result.andThen_ok, storeVar, hsz, Sem.run_ite]
          rw [if_neg (by omega)]
          exact hst
        · rw [hc']
          simp only [Nat.add_zero, List.size_toArray, List.length_append, List.length_take, List.length_drop, Array.length_toList, spliceL_length]
          omega
        · intro j hj
          rw [spliceL_length] at hj
          rw [spliceL_getD _ _ _ _ (by omega) hj]
          have hval : ((c.toList.take (off + 0) ++ u.cells.toList ++ c.toList.drop (off + 0 + u.cells.toList.length)).toArray).getD j undef = if off ≤ j ∧ j < off + vs.length then u.cells.getD (j - off) undef else c.getD j undef := by
            simp only [Nat.add_zero, Array.length_toList, g1]
            rw [← arr_getD]
            simp only [List.getD_eq_getElem?_getD]
            by_cases hj1 : j < off
            · rw [if_neg (by omega), List.append_assoc, List.getElem?_append_left (by simp; omega), List.getElem?_take_of_lt hj1, ← arr_getD, List.getD_eq_getElem?_getD]
            · by_cases hj2 : j < off + vs.length
              · rw [if_pos (by omega), List.append_assoc, List.getElem?_append_right (by simp; omega), List.getElem?_append_left (by simp; omega), ← arr_getD, List.getD_eq_getElem?_getD]
                simp only [List.length_take, Array.length_toList]
                rw [show min off c.size = off by omega]
              · rw [if_neg (by omega), List.getElem?_append_right (by simp; omega), List.getElem?_drop, ← arr_getD, List.getD_eq_getElem?_getD]
                simp only [List.length_append, List.length_take, Array.length_toList, g1]
                rw [show off + vs.length + (j - (min off c.size + vs.length)) = j by omega]
          rw [hc', hval]
          split
          · exact g2 (j - off) (by omega)
          · exact e5 j hj
      · exact hK.elim
    · exact hK.elim
  · exact hK.elim

end Go.Proofs.Yteebkimhfaodnaa

/- Small operations on values: parts of tuples, aggregates, conversions. -/
namespace Go.Proofs.Yteebkimhfaodnaa
open Go Go.RowKit

def extractK (x : AV) (i : Nat) (K : AV → Prop) : Prop :=
  match x with
  | .tup vs => i < vs.length ∧ K (vs.getD i .top)
  | _ => False

/-- The kind of integers of a type. -/
def intKd (T : Tab) (t : TypeId) : Option IntKind := match T t with
  | some i => (match i.k with | .int k => some k | _ => none)
  | none => none

def convertK (T : Tab) (src dst : TypeId) (x : AV) (K : AV → Prop) : Prop :=
  match x, intKd T dst, T src with
  | .int _ n, some k, some _ => K (.int k (k.wrap n))
  | _, _, _ => False

def fieldK (T : Tab) (t : TypeId) (x : AV) (f : Nat) (K : AV → Prop) : Prop :=
  match x with
  | .agg cs => (match T t with
    | some i => (match i.k with
      | .struct fs => (match fs[f]? with
        | some (o, ft) => (match tyShape T ft with
          | some (true, size, _) => o + size ≤ cs.length ∧ K (.agg ((cs.drop o).take size))
          | some (false, _, _) => o < cs.length ∧ K (cs.getD o .top)
          | none => False)
        | none => False)
      | _ => False)
    | none => False)
  | _ => False

/-- The type of an array's element: is it an aggregate, its cells; and the array's length. -/
def arrShape (T : Tab) (t : TypeId) : Option (Nat × Bool × Nat) := match T t with
  | some i => (match i.k with | .arr n e => (tyShape T e).map fun q => (n, q.1, q.2.1) | _ => none)
  | none => none

def indexK (T : Tab) (t : TypeId) (x y : AV) (K : AV → Prop) : Prop :=
  match x, y with
  | .agg cs, .int _ n => (match arrShape T t with
    | some (m, true, sz) => (0 ≤ n ∧ n < m) ∧ n.toNat * sz + sz ≤ cs.length ∧ K (.agg ((cs.drop (n.toNat * sz)).take sz))
    | some (m, false, sz) => (0 ≤ n ∧ n < m) ∧ n.toNat * sz < cs.length ∧ K (cs.getD (n.toNat * sz) .top)
    | none => False)
  | _, _ => False

def buildL (T : Tab) (s : AState) (t : TypeId) : List AV → List (Nat × Operand) → (List AV → Prop) → Prop
  | cs, [], K => K cs
  | cs, (f, x) :: r, K => (match fieldOff T t f, partCells (s.ev x) with
    | some (o, sz), some vs => vs.length = sz ∧ o + sz ≤ cs.length ∧ buildL T s t (setCells cs o vs) r K
    | _, _ => False)

def buildK (T : Tab) (s : AState) (t : TypeId) (parts : List (Nat × Operand)) (K : AV → Prop) : Prop :=
  match T t with
  | some i => (match i.k with
    | .struct _ => buildL T s t i.zc parts fun cs => K (.agg cs)
    | _ => False)
  | none => False

def maxK : AV → List AV → (AV → Prop) → Prop
  | x, [], K => K x
  | .int k a, .int k' b :: r, K => k = k' ∧ maxK (.int k (if b > a then b else a)) r K
  | _, _, _ => False

def minK : AV → List AV → (AV → Prop) → Prop
  | x, [], K => K x
  | .int k a, .int k' b :: r, K => k = k' ∧ minK (.int k (if b < a then b else a)) r K
  | _, _, _ => False

theorem extractK_sound {P : Program} {X : Ctx} {kd : Nat → Kd} {w : World} {x : AV} {i : Nat} {v : Value} {K : AV → Prop} (hx : VRel X kd w v x) (h : extractK x i K) :
    ∃ r ar, (Instr.extract v i).run P w = .ok r w ∧ VRel X kd w r ar ∧ K ar := by
  unfold extractK at h
  split at h
  · rename_i vs
    obtain ⟨us, rfl, h1, h2⟩ := hx.tup_inv
    have hi : i < us.size := by omega
    have h3 := h2 i h.1
    rw [Array.getD_eq_getD_getElem?, Array.getElem?_eq_getElem hi, Option.getD_some] at h3
    exact ⟨us[i], _, by simp [Instr.extract, hi], h3, h.2⟩
  · exact h.elim

theorem convertK_sound {P : Program} {T : Tab} (hT : TabOk P T) {X : Ctx} {kd : Nat → Kd} {w : World} {src dst : TypeId} {x : AV} {v : Value} {K : AV → Prop} (hx : VRel X kd w v x) (h : convertK T src dst x K) :
    ∃ r ar, (convert src dst v).run P w = .ok r w ∧ VRel X kd w r ar ∧ K ar := by
  unfold convertK at h
  split at h
  · rename_i k0 n k i hk hi
    cases hx.int_inv
    obtain ⟨nf, d, z, ok⟩ := hT.get hi
    have hd : P.underlying dst = some (.int k) := by
      unfold intKd at hk
      split at hk
      · rename_i j hj
        obtain ⟨nf', d', z', ok'⟩ := hT.get hj
        have := ok'.tk
        split at hk
        · rename_i k' hk'
          rw [hk'] at this
          cases hk
          rw [ok'.und]
          cases d' <;> simp_all [tkOk]
        · cases hk
      · cases hk
    have hin : P.intKind dst = k := by simp [Program.intKind, hd]
    have := run_convert_int (P := P) w src dst k0 n (by rw [ok.und]; rfl) (by rw [hin]; exact hd)
    rw [hin] at this
    exact ⟨_, _, this, .pure (.int _ _), h⟩
  · exact h.elim

theorem fill_foldl (v : Array Value) (o : Nat) (cells : Array Value) (h : o + v.size ≤ cells.size) :
    (v.zipIdx.foldl (fun cs (c, j) => cs.setIfInBounds (o + j) c) cells).size = cells.size ∧
    ∀ j, (v.zipIdx.foldl (fun cs (c, j) => cs.setIfInBounds (o + j) c) cells).getD j undef = if o ≤ j ∧ j < o + v.size then v.getD (j - o) undef else cells.getD j undef := by
  have key : ∀ (l : List Value) (k : Nat) (cells : Array Value), o + k + l.length ≤ cells.size →
      ((l.zipIdx k).foldl (fun cs (c, j) => cs.setIfInBounds (o + j) c) cells).size = cells.size ∧
      ∀ j, ((l.zipIdx k).foldl (fun cs (c, j) => cs.setIfInBounds (o + j) c) cells).getD j undef = if o + k ≤ j ∧ j < o + k + l.length then l.getD (j - (o + k)) undef else cells.getD j undef := by
    intro l
    induction l with
    | nil => intro k cells _; exact ⟨rfl, fun j => by rw [if_neg (by simp)]; rfl⟩
    | cons x l ih =>
      intro k cells hk
      simp only [List.length_cons] at hk
      obtain ⟨h1, h2⟩ := ih (k + 1) (cells.setIfInBounds (o + k) x) (by simp; omega)
      refine ⟨by simpa using h1, fun j => ?_⟩
      simp only [List.zipIdx_cons, List.foldl_cons, List.length_cons]
      rw [h2 j]
      by_cases hj : o + (k + 1) ≤ j ∧ j < o + (k + 1) + l.length
      · rw [if_pos hj, if_pos (by omega), show j - (o + k) = (j - (o + (k + 1))) + 1 by omega, getD_succ]
      · rw [if_neg hj]
        by_cases hj2 : j = o + k
        · subst hj2
          rw [if_pos (by omega), Nat.sub_self, getD_zero]
          simp [Array.getD_eq_getD_getElem?, show o + k < cells.size by omega]
        · rw [if_neg (by omega)]
          simp only [Array.getD_eq_getD_getElem?]
          rw [Array.getElem?_setIfInBounds_ne (fun e => hj2 e.symm)]
  have hv := key v.toList 0 cells (by simpa using h)
  have e : v.zipIdx.foldl (fun cs (c, j) => cs.setIfInBounds (o + j) c) cells = (v.toList.zipIdx 0).foldl (fun cs (c, j) => cs.setIfInBounds (o + j) c) cells := by
    rw [← Array.foldl_toList, Array.toList_zipIdx]
  rw [e]
  refine ⟨hv.1, fun j => ?_⟩
  rw [hv.2 j]
  simp only [Nat.add_zero, Array.length_toList, arr_getD]

theorem mapM_get {α β : Type} (g : α → Option β) : ∀ (l : List α) (ps : List β), l.mapM g = some ps → ∀ (f : Nat) (x : α), l[f]? = some x → ∀ y, g x = some y → ps[f]? = some y
  | [], ps, h, f, x, hx, _, _ => by simp at hx
  | z :: l, ps, h, f, x, hx, y, hy => by
    rw [List.mapM_cons] at h
    cases hz : g z with
    | none => simp [hz] at h
    | some q =>
      cases hl : l.mapM g with
      | none => simp [hz, hl] at h
      | some qs =>
        simp only [hz, hl, Option.bind_eq_bind, Option.bind_some, Option.pure_def, Option.some.injEq] at h
        subst h
        cases f with
        | zero =>
          simp only [List.getElem?_cons_zero, Option.some.injEq] at hx
          subst hx
          rw [hz] at hy
          simpa using hy
        | succ f =>
          rw [List.getElem?_cons_succ] at hx ⊢
          exact mapM_get g l qs hl f x hx y hy

theorem buildL_sound {P : Program} {T : Tab} (hT : TabOk P T) {X : Ctx} {s : AState} {a : Act} {w : World} {t : TypeId} {fields : Array Field} {places : List (Nat × Nat)} (h : R X s a w) (hu : P.underlying t = some (.struct fields))
    (hpl : fields.toList.mapM (fun f => (P.info? f.type).map fun i => (f.offset, i.size)) = some places) :
    ∀ (parts : List (Nat × Operand)) (cs : List AV) (cells : Array Value) (K : List AV → Prop), cells.size = cs.length → (∀ (i : Nat) (_ : i < cs.length), VRel X s.kds w (cells.getD i undef) (cs.getD i .top)) → buildL T s t cs parts K →
    ∃ (cells' : Array Value) (cs' : List AV), Instr.fill (places.toArray[·]?) cells (parts.map fun (i, x) => (i, a.eval x)) = some cells' ∧ cells'.size = cs'.length ∧
      (∀ (i : Nat) (_ : i < cs'.length), VRel X s.kds w (cells'.getD i undef) (cs'.getD i .top)) ∧ K cs'
  | [], cs, cells, K, hl, hr, hK => ⟨cells, cs, rfl, hl, hr, hK⟩
  | (f, x) :: r, cs, cells, K, hl, hr, hK => by
    unfold buildL at hK
    split at hK
    · rename_i o sz vs hf hc
      obtain ⟨h1, h2, hK⟩ := hK
      obtain ⟨fs, fd, fi, nf, d, z, hu', hfd, ho, hsz, ok⟩ := fieldOff_und hT hf
      rw [hu] at hu'; cases hu'
      obtain ⟨g1, g2⟩ := (h.ev x).cells hc
      have hplace : places.toArray[f]? = some (o, sz) := by
        have := mapM_get _ _ _ hpl f fd (by simpa using hfd) (o, sz) (by rw [ok.info, Option.map_some, ho, ok.size, hsz])
        simpa using this
      obtain ⟨k1, k2⟩ := fill_foldl (a.eval x).cells o cells (by omega)
      obtain ⟨cells', cs', m1, m2, m3, m4⟩ := buildL_sound hT h hu hpl r (setCells cs o vs) ((a.eval x).cells.zipIdx.foldl (fun cs (c, j) => cs.setIfInBounds (o + j) c) cells) K (by rw [k1, setCells_length]; exact hl) (fun i hi => by
        rw [setCells_length] at hi
        rw [k2 i, setCells_getD _ _ _ _ (by omega), g1]
        split
        · exact g2 _ (by omega)
        · exact hr i hi) hK
      refine ⟨cells', cs', ?_, m2, m3, m4⟩
      simp only [List.map_cons, Instr.fill, hplace]
      rw [if_neg (by simp; omega)]
      exact m1
    · exact hK.elim

theorem mapM_ex {α β : Type} (g : α → Option β) : ∀ (l : List α), (∀ x, x ∈ l → (g x).isSome = true) → ∃ ps, l.mapM g = some ps
  | [], _ => ⟨[], rfl⟩
  | z :: l, h => by
    obtain ⟨y, hy⟩ := Option.isSome_iff_exists.1 (h z (by simp))
    obtain ⟨ps, hp⟩ := mapM_ex g l (fun x hx => h x (by simp [hx]))
    exact ⟨y :: ps, by rw [List.mapM_cons, hy, hp]; rfl⟩

theorem buildK_sound {P : Program} {T : Tab} (hT : TabOk P T) {X : Ctx} {s : AState} {a : Act} {w : World} {t : TypeId} {parts : Array (Nat × Operand)} {K : AV → Prop} (h : R X s a w) (hK : buildK T s t parts.toList K) :
    ∃ r ar, (Instr.build t (parts.map fun (i, x) => (i, a.eval x))).run P w = .ok r w ∧ VRel X s.kds w r ar ∧ K ar := by
  unfold buildK at hK
  split at hK
  · rename_i i hi
    obtain ⟨nf, d, z, ok⟩ := hT.get hi
    split at hK
    · rename_i gs hk
      have htk := ok.tk
      rw [hk] at htk
      obtain ⟨fields, hd⟩ : ∃ fields, d = .struct fields := by
        cases d <;> simp_all [tkOk]
      subst hd
      obtain ⟨places, hpl⟩ := mapM_ex (fun f : Field => (P.info? f.type).map fun i => (f.offset, i.size)) fields.toList (fun f hf => by
        have := ok.fields fields rfl f hf
        rw [Option.isSome_map]; exact this)
      obtain ⟨g1, g2⟩ := zCells_rel _ _ ok.zc X s.kds w
      obtain ⟨cells', cs', m1, m2, m3, m4⟩ := buildL_sound hT h ok.und hpl parts.toList i.zc z.cells _ (by simpa using g1) (fun j hj => by have := g2 j hj; rwa [arr_getD] at this) hK
      refine ⟨.agg cells', .agg cs', ?_, .agg _ _ m2 m3, m4⟩
      refine run_build w t _ cells' ?_
      unfold Program.built
      rw [ok.info, ok.und]
      simp only [ok.zero, hpl]
      simpa using m1
    · exact hK.elim
  · exact hK.elim

theorem maxK_sound {P : Program} {X : Ctx} {kd : Nat → Kd} {w : World} : ∀ (vs : List Value) (as : List AV) (v : Value) (x : AV) (K : AV → Prop), VRel X kd w v x → vs.length = as.length → (∀ (i : Nat) (_ : i < as.length), VRel X kd w (vs.getD i undef) (as.getD i .top)) → maxK x as K →
    ∃ r ar, (vs.foldlM Builtin.max2 v).run P w = .ok r w ∧ VRel X kd w r ar ∧ K ar
  | [], [], v, x, K, hx, _, _, hK => ⟨v, x, rfl, hx, hK⟩
  | [], _ :: _, _, _, _, _, hl, _, _ => by simp at hl
  | _ :: _, [], _, _, _, _, hl, _, _ => by simp at hl
  | u :: vs, y :: as, v, x, K, hx, hl, hv, hK => by
    have h0 := hv 0 (by simp)
    rw [getD_zero, getD_zero] at h0
    have hK2 : ∃ k a b, x = .int k a ∧ y = .int k b ∧ maxK (.int k (if b > a then b else a)) as K := by
      cases x <;> cases y <;> first | exact hK.elim | exact ⟨_, _, _, rfl, by rw [hK.1], hK.2⟩
    clear hK
    obtain ⟨k, p, q, rfl, rfl, hK⟩ := hK2
    · cases hx.int_inv
      cases h0.int_inv
      obtain ⟨r, ar, h1, h2, h3⟩ := maxK_sound vs as (.int k (if q > p then q else p)) (.int k (if q > p then q else p)) K (.pure (.int _ _)) (by simpa using hl) (fun i hi => by
        have := hv (i + 1) (by simp; omega)
        rwa [getD_succ, getD_succ] at this) hK
      refine ⟨r, ar, ?_, h2, h3⟩
      rw [List.foldlM_cons, Sem.run_bind]
      exact h1

theorem minK_sound {P : Program} {X : Ctx} {kd : Nat → Kd} {w : World} : ∀ (vs : List Value) (as : List AV) (v : Value) (x : AV) (K : AV → Prop), VRel X kd w v x → vs.length = as.length → (∀ (i : Nat) (_ : i < as.length), VRel X kd w (vs.getD i undef) (as.getD i .top)) → minK x as K →
    ∃ r ar, (vs.foldlM Builtin.min2 v).run P w = .ok r w ∧ VRel X kd w r ar ∧ K ar
  | [], [], v, x, K, hx, _, _, hK => ⟨v, x, rfl, hx, hK⟩
  | [], _ :: _, _, _, _, _, hl, _, _ => by simp at hl
  | _ :: _, [], _, _, _, _, hl, _, _ => by simp at hl
  | u :: vs, y :: as, v, x, K, hx, hl, hv, hK => by
    have h0 := hv 0 (by simp)
    rw [getD_zero, getD_zero] at h0
    have hK2 : ∃ k a b, x = .int k a ∧ y = .int k b ∧ minK (.int k (if b < a then b else a)) as K := by
      cases x <;> cases y <;> first | exact hK.elim | exact ⟨_, _, _, rfl, by rw [hK.1], hK.2⟩
    clear hK
    obtain ⟨k, p, q, rfl, rfl, hK⟩ := hK2
    · cases hx.int_inv
      cases h0.int_inv
      obtain ⟨r, ar, h1, h2, h3⟩ := minK_sound vs as (.int k (if q < p then q else p)) (.int k (if q < p then q else p)) K (.pure (.int _ _)) (by simpa using hl) (fun i hi => by
        have := hv (i + 1) (by simp; omega)
        rwa [getD_succ, getD_succ] at this) hK
      refine ⟨r, ar, ?_, h2, h3⟩
      rw [List.foldlM_cons, Sem.run_bind]
      exact h1

theorem run_part {P : Program} {T : Tab} (hT : TabOk P T) {X : Ctx} {kd : Nat → Kd} {w : World} {t : TypeId} {vs : Array Value} {cs : List AV} {o size : Nat} {ag fl : Bool} (hs : tyShape T t = some (ag, size, fl)) (hl : vs.size = cs.length)
    (hv : ∀ (i : Nat) (_ : i < cs.length), VRel X kd w (vs.getD i undef) (cs.getD i .top)) :
    (ag = true → o + size ≤ cs.length → ∃ r, (part t vs o).run P w = .ok r w ∧ VRel X kd w r (.agg ((cs.drop o).take size))) ∧
    (ag = false → o < cs.length → ∃ r, (part t vs o).run P w = .ok r w ∧ VRel X kd w r (cs.getD o .top)) := by
  unfold tyShape at hs
  cases hi : T t with
  | none => simp [hi] at hs
  | some i =>
    obtain ⟨nf, d, z, ok⟩ := hT.get hi
    simp only [hi, Option.some.injEq, Prod.mk.injEq] at hs
    obtain ⟨h1, h2, _⟩ := hs
    refine ⟨fun e hle => ?_, fun e hlt => ?_⟩
    · refine ⟨.agg (vs.extract o (o + size)), ?_, .agg _ _ (by simp; omega) (fun j hj => ?_)⟩
      · simp [part, ok.run_agg, h1, e, ok.run_size, h2]
      · have hj' : j < size := by simp at hj; omega
        rw [take_drop_getD _ _ _ _ _ hj']
        have : (vs.extract o (o + size)).getD j undef = vs.getD (o + j) undef := by
          simp only [Array.getD_eq_getD_getElem?, Array.getElem?_extract]
          rw [if_pos (by omega)]
        rw [this]
        exact hv _ (by omega)
    · have hlt' : o < vs.size := by omega
      refine ⟨vs.getD o undef, ?_, hv o hlt⟩
      simp [part, ok.run_agg, h1, e, hlt', Array.getD_eq_getD_getElem?]

theorem fieldK_sound {P : Program} {T : Tab} (hT : TabOk P T) {X : Ctx} {kd : Nat → Kd} {w : World} {t : TypeId} {x : AV} {f : Nat} {v : Value} {K : AV → Prop} (hx : VRel X kd w v x) (h : fieldK T t x f K) :
    ∃ r ar, (Instr.field t v f).run P w = .ok r w ∧ VRel X kd w r ar ∧ K ar := by
  unfold fieldK at h
  split at h
  · rename_i cs
    obtain ⟨us, rfl, hl, hv⟩ := hx.agg_inv
    split at h
    · rename_i i hi
      obtain ⟨nf, d, z, ok⟩ := hT.get hi
      have htk := ok.tk
      split at h
      · rename_i gs hk
        rw [hk] at htk
        cases d <;> simp only [tkOk, Bool.false_eq_true] at htk
        rename_i fs
        simp only [beq_iff_eq] at htk
        split at h
        · rename_i o ft hg
          rw [← htk] at hg
          simp only [List.getElem?_map, Array.getElem?_toList, Option.map_eq_some_iff, Prod.mk.injEq] at hg
          obtain ⟨fd, h1, h2, h3⟩ := hg
          have hrun : ∀ r, (part ft us o).run P w = .ok r w → (Instr.field t (.agg us) f).run P w = .ok r w := by
            intro r hr
            simp only [Instr.field, Sem.run_bind, run_underlying ok.und, Result.andThen_ok, h1, asAgg, Sem.run_pure, h2, h3, hr]
          split at h
          · rename_i size fl hs
            obtain ⟨r, hr, hvr⟩ := (run_part hT hs hl hv).1 rfl h.1
            exact ⟨r, _, hrun r hr, hvr, h.2⟩
          · rename_i size fl hs
            obtain ⟨r, hr, hvr⟩ := (run_part hT hs hl hv).2 rfl h.1
            exact ⟨r, _, hrun r hr, hvr, h.2⟩
          · exact h.elim
        · exact h.elim
      · exact h.elim
    · exact h.elim
  · exact h.elim

theorem indexK_sound {P : Program} {T : Tab} (hT : TabOk P T) {X : Ctx} {kd : Nat → Kd} {w : World} {t : TypeId} {x y : AV} {v u : Value} {K : AV → Prop} (hx : VRel X kd w v x) (hy : VRel X kd w u y) (h : indexK T t x y K) :
    ∃ r ar, (Instr.index t v u).run P w = .ok r w ∧ VRel X kd w r ar ∧ K ar := by
  unfold indexK at h
  split at h
  · rename_i cs k n
    obtain ⟨us, rfl, hl, hv⟩ := hx.agg_inv
    cases hy.int_inv
    have hsh : ∀ m ag sz, arrShape T t = some (m, ag, sz) → ∃ e fl, P.underlying t = some (.array m e) ∧ tyShape T e = some (ag, sz, fl) ∧ (sizeOf e).run P w = .ok sz w := by
      intro m ag sz hs
      unfold arrShape at hs
      split at hs
      · rename_i i hi
        obtain ⟨nf, d, z, ok⟩ := hT.get hi
        have := ok.tk
        split at hs
        · rename_i n' e hk
          rw [hk] at this
          cases hte : tyShape T e with
          | none => simp [hte] at hs
          | some q =>
            obtain ⟨ag', sz', fl⟩ := q
            simp only [hte, Option.map_some, Option.some.injEq, Prod.mk.injEq] at hs
            obtain ⟨h1, h2, h3⟩ := hs
            refine ⟨e, fl, ?_, by rw [hte, h2, h3], ?_⟩
            · rw [ok.und, ← h1]; cases d <;> simp_all [tkOk]
            · unfold tyShape at hte
              split at hte
              · rename_i ie hie
                obtain ⟨nf', d', z', ok'⟩ := hT.get hie
                simp only [Option.some.injEq, Prod.mk.injEq] at hte
                rw [ok'.run_size, hte.2.1, h3]
              · cases hte
        · cases hs
      · cases hs
    split at h
    · rename_i m sz hs
      obtain ⟨e, fl, hu, hte, hsz⟩ := hsh _ _ _ hs
      obtain ⟨hb, hle, hK⟩ := h
      obtain ⟨r, hr, hvr⟩ := (run_part hT hte hl hv).1 rfl hle
      refine ⟨r, _, ?_, hvr, hK⟩
      simp only [Instr.index, asIntOf, Sem.run_bind, Sem.run_pure, Result.andThen_ok, run_underlying hu, Sem.run_ite]
      rw [if_pos hb, hsz]
      exact hr
    · rename_i m sz hs
      obtain ⟨e, fl, hu, hte, hsz⟩ := hsh _ _ _ hs
      obtain ⟨hb, hle, hK⟩ := h
      obtain ⟨r, hr, hvr⟩ := (run_part hT hte hl hv).2 rfl hle
      refine ⟨r, _, ?_, hvr, hK⟩
      simp only [Instr.index, asIntOf, Sem.run_bind, Sem.run_pure, Result.andThen_ok, run_underlying hu, Sem.run_ite]
      rw [if_pos hb, hsz]
      exact hr
    · exact h.elim
  · exact h.elim

end Go.Proofs.Yteebkimhfaodnaa

/- Rows: making them, growing them, writing them. First: what is put into a row, and what becomes of the names in it. -/
namespace Go.Proofs.Yteebkimhfaodnaa
open Go Go.RowKit

/-- A cell as it goes into a row: the pure value, the names used up, whether it is owned. -/
def purK (s : AState) (c : AV) (K : AV → List Nat → Bool → Prop) : Prop :=
  match c with
  | .int k n => K (.int k n) [] true
  | .bool b => K (.bool b) [] true
  | .sl (some false) [] => K (.sl none []) [] true
  | .sl nn es => K (.sl none es) [] false
  | .row id n => (match s.blk id with
    | .row own nn _ es => n = es.length ∧ K (.sl none es) [id] own
    | .fro _ es => n = es.length ∧ K (.sl none es) [] false
    | _ => False)
  | _ => False

def purLK (s : AState) : List AV → (List AV → List Nat → Bool → Prop) → Prop
  | [], K => K [] [] true
  | c :: cs, K => purK s c fun c' u o => purLK s cs fun cs' us os => K (c' :: cs') (u ++ us) (o && os)

def purLLK (s : AState) : List (List AV) → (List (List AV) → List Nat → Bool → Prop) → Prop
  | [], K => K [] [] true
  | r :: rs, K => purLK s r fun r' u o => purLLK s rs fun rs' us os => K (r' :: rs') (u ++ us) (o && os)

/-- What may be read of values that go into a row while the names u are used up. -/
def PSet (X : Ctx) (u : List Nat) (x : Nat) : Prop := X.Sh x ∨ ∃ t, t ∈ u ∧ X.own x = some t

theorem PSet.mono {X : Ctx} {u u' : List Nat} (h : ∀ i, i ∈ u → i ∈ u') {x : Nat} (hx : PSet X u x) : PSet X u' x :=
  hx.imp id (fun ⟨t, h1, h2⟩ => ⟨t, h t h1, h2⟩)

theorem Reads.anon1 {w : World} {S : Nat → Prop} {v : Value} {nn : Option Bool} {es : List (List AV)} (h : Reads w S v (.sl nn es)) : Reads w S v (.sl none es) := by
  generalize hb : AV.sl nn es = bb at h
  cases h with
  | nil nn hn => cases hb; exact .nil _ (by simp)
  | empty a cap nn hn => cases hb; exact .empty _ _ _ (by simp)
  | slice b o cap sz nn es f hn hsz hz hS hcap hc hh => cases hb; exact .slice b o cap sz none es f (by simp) hsz hz hS hcap hc hh
  | _ => cases hb

theorem purK_sound {X : Ctx} {s : AState} {a : Act} {w : World} {c : AV} {v : Value} {K : AV → List Nat → Bool → Prop} (h : R X s a w) (hv : VRel X s.kds w v c) (hK : purK s c K) :
    ∃ (c' : AV) (u : List Nat) (o : Bool), K c' u o ∧ (∀ i, i ∈ u → ∃ own nn sz es, s.blk i = .row own nn sz es) ∧ v.oneCell' = true ∧ Reads w (PSet X u) v c' ∧
      (o = true → ∃ F : Nat → Prop, OwnV w v c' F ∧ ∀ x, F x → ∃ t, t ∈ u ∧ X.own x = some t) := by
  unfold purK at hK
  split at hK
  · refine ⟨_, _, _, hK, by simp, ?_, ?_, fun _ => ⟨fun _ => False, ?_, fun _ e => e.elim⟩⟩
    · rw [hv.int_inv]; rfl
    · rw [hv.int_inv]; exact .int _ _
    · rw [hv.int_inv]; exact .int _ _ _ (fun _ e => e)
  · refine ⟨_, _, _, hK, by simp, ?_, ?_, fun _ => ⟨fun _ => False, ?_, fun _ e => e.elim⟩⟩
    · rw [hv.bool_inv]; rfl
    · rw [hv.bool_inv]; exact .bool _
    · rw [hv.bool_inv]; exact .bool _ _ (fun _ e => e)
  · have hr := hv.sl_inv
    have e : v = .slice none 0 0 := by
      generalize ha : AV.sl (some false) [] = aa at hr
      cases hr with
      | nil => rfl
      | empty a cap nn hn => cases ha; exact absurd rfl hn
      | slice b o cap sz nn es f hn => cases ha; exact absurd rfl hn
      | _ => cases ha
    subst e
    exact ⟨_, _, _, hK, by simp, rfl, .nil _ (by simp), fun _ => ⟨fun _ => False, .nil _ (by simp) _ (fun _ e => e), fun _ e => e.elim⟩⟩
  · have hr := hv.sl_inv
    refine ⟨_, _, _, hK, by simp, hv.one rfl, (hr.mono fun x hx => .inl hx).anon1, fun e => by cases e⟩
  · rename_i id n
    split at hK
    · rename_i own nn sz es hb
      obtain ⟨hn, hK⟩ := hK
      have hkd : s.kds id = .row sz := by unfold AState.kds; rw [hb]; rfl
      have hB := h.bl id
      rw [hb] at hB
      obtain ⟨hz, hl, hB⟩ := hB
      refine ⟨_, _, _, hK, fun i hi => ?_, hv.one rfl, ?_⟩
      · rw [List.mem_singleton] at hi; subst hi; exact ⟨_, _, _, _, hb⟩
      · rcases hB with ⟨h1, h2, h3, h4⟩ | ⟨b, c, ty, h1, h2, h3, h4, h6⟩
        · rcases hv.row_inv hkd with ⟨b, _, hi⟩ | ⟨e, _, _⟩
          · rw [h1] at hi; cases hi
          · rw [e, h3]
            exact ⟨.nil _ (by simp), fun _ => ⟨fun _ => False, .nil _ (by simp) _ (fun _ e => e), fun _ e => e.elim⟩⟩
        · rcases hv.row_inv hkd with ⟨b', e, hi⟩ | ⟨_, _, hi⟩
          · rw [h1] at hi; cases hi
            rw [e]
            have hnn : (none : Option Bool) ≠ some false := by simp
            rcases h6.2 with ⟨ho, FF, h7, h8, h9, h10⟩ | ⟨ho, h8, h9⟩
            · have hO : OwnV w (.slice (some ⟨b, 0, none⟩) n (X.cap id)) (.sl none es) (fun x => X.own x = some id) := by
                rw [hn]
                exact .slice b (X.cap id) sz none es c ty FF _ hnn hl hz h4 h6.1 h2 h3 h7 h8 h9 h10
              exact ⟨hO.reads.mono fun x hx => .inr ⟨id, List.mem_singleton.2 rfl, hx⟩, fun _ => ⟨_, hO, fun x hx => ⟨id, List.mem_singleton.2 rfl, hx⟩⟩⟩
            · refine ⟨rowReads h2 h3 h4 hz hl hn hnn (.inr ⟨id, List.mem_singleton.2 rfl, (h8 b).2 rfl⟩) (fun i j hi hj => (h9 i j hi hj).mono fun x hx => .inl hx), fun e => ?_⟩
              rw [ho] at e; cases e
          · rw [h1] at hi; cases hi
    · rename_i sz es hb
      obtain ⟨hn, hK⟩ := hK
      have hkd : s.kds id = .row sz := by unfold AState.kds; rw [hb]; rfl
      have hB := h.bl id
      rw [hb] at hB
      obtain ⟨hz, hl, ho, hB⟩ := hB
      refine ⟨_, _, _, hK, by simp, hv.one rfl, ?_, fun e => by cases e⟩
      rcases hB with ⟨h1, h2⟩ | ⟨b, c, ty, h1, h2, h3, h4, h6, h7⟩
      · rcases hv.row_inv hkd with ⟨b, _, hi⟩ | ⟨e, _, _⟩
        · rw [h1] at hi; cases hi
        · rw [e, h2]; exact .nil _ (by simp)
      · rcases hv.row_inv hkd with ⟨b', e, hi⟩ | ⟨_, _, hi⟩
        · rw [h1] at hi; cases hi
          rw [e]
          exact rowReads h2 h3 h4 hz hl hn (by simp) (.inl h6) (fun i j hi hj => (h7 i j hi hj).mono fun x hx => .inl hx)
        · rw [h1] at hi; cases hi
    · exact hK.elim
  · exact hK.elim

theorem purLK_sound {X : Ctx} {s : AState} {a : Act} {w : World} (h : R X s a w) : ∀ (cs : List AV) (vs : Nat → Value) (K : List AV → List Nat → Bool → Prop),
    (∀ (i : Nat) (_ : i < cs.length), VRel X s.kds w (vs i) (cs.getD i .top)) → purLK s cs K →
    ∃ (cs' : List AV) (us : List Nat) (o : Bool), K cs' us o ∧ cs'.length = cs.length ∧ (∀ i, i ∈ us → ∃ own nn sz es, s.blk i = .row own nn sz es) ∧ (∀ (i : Nat) (_ : i < cs'.length), (vs i).oneCell' = true) ∧
      (∀ (i : Nat) (_ : i < cs'.length), Reads w (PSet X us) (vs i) (cs'.getD i .top)) ∧
      (o = true → us.Nodup → ∃ FF : Nat → Nat → Prop, (∀ (i : Nat) (_ : i < cs'.length), OwnV w (vs i) (cs'.getD i .top) (FF i)) ∧ (∀ (i x : Nat) (_ : i < cs'.length), FF i x → ∃ t, t ∈ us ∧ X.own x = some t) ∧
        ∀ (i j x : Nat) (_ : i < cs'.length) (_ : j < cs'.length), FF i x → FF j x → i = j)
  | [], vs, K, _, hK => ⟨[], [], true, hK, rfl, by simp, by simp, by simp, fun _ _ => ⟨fun _ _ => False, by simp, by simp, by simp⟩⟩
  | c :: cs, vs, K, hv, hK => by
    have h0 := hv 0 (by simp)
    rw [getD_zero] at h0
    obtain ⟨c', u, o, hK, hu, h1, hR, hO⟩ := purK_sound h h0 hK
    obtain ⟨cs', us, os, hK, hl, hus, hones, hRs, hOs⟩ := purLK_sound h cs (fun i => vs (i + 1)) _ (fun i hi => by
      have := hv (i + 1) (by simp; omega)
      rwa [getD_succ] at this) hK
    refine ⟨c' :: cs', u ++ us, o && os, hK, by simp [hl], ?_, ?_, ?_, ?_⟩
    · intro i hi
      rcases List.mem_append.1 hi with e | e
      · exact hu i e
      · exact hus i e
    · intro i hi
      cases i with
      | zero => exact h1
      | succ i => exact hones i (by simp at hi; omega)
    · intro i hi
      cases i with
      | zero => exact hR.mono fun x hx => hx.mono fun t ht => List.mem_append.2 (.inl ht)
      | succ i => exact (hRs i (by simp at hi; omega)).mono fun x hx => hx.mono fun t ht => List.mem_append.2 (.inr ht)
    · intro ho hnd
      rw [Bool.and_eq_true] at ho
      obtain ⟨hnd1, hnd2, hnd3⟩ := List.nodup_append.1 hnd
      obtain ⟨F, f1, f2⟩ := hO ho.1
      obtain ⟨FF, g1, g2, g3⟩ := hOs ho.2 hnd2
      refine ⟨fun i => match i with | 0 => F | i + 1 => FF i, ?_, ?_, ?_⟩
      · intro i hi
        cases i with
        | zero => exact f1
        | succ i => exact g1 i (by simp at hi; omega)
      · intro i x hi hx
        cases i with
        | zero => obtain ⟨t, e1, e2⟩ := f2 x hx; exact ⟨t, List.mem_append.2 (.inl e1), e2⟩
        | succ i => obtain ⟨t, e1, e2⟩ := g2 i x (by simp at hi; omega) hx; exact ⟨t, List.mem_append.2 (.inr e1), e2⟩
      · intro i j x hi hj hx hy
        cases i with
        | zero =>
          cases j with
          | zero => rfl
          | succ j =>
            obtain ⟨t, e1, e2⟩ := f2 x hx
            obtain ⟨t', e3, e4⟩ := g2 j x (by simp at hj; omega) hy
            rw [e2] at e4; cases e4
            exact absurd rfl (hnd3 t e1 t e3)
        | succ i =>
          cases j with
          | zero =>
            obtain ⟨t, e1, e2⟩ := f2 x hy
            obtain ⟨t', e3, e4⟩ := g2 i x (by simp at hi; omega) hx
            rw [e2] at e4; cases e4
            exact absurd rfl (hnd3 t e1 t e3)
          | succ j => rw [g3 i j x (by simp at hi; omega) (by simp at hj; omega) hx hy]

theorem purLLK_sound {X : Ctx} {s : AState} {a : Act} {w : World} (h : R X s a w) : ∀ (rs : List (List AV)) (vs : Nat → Nat → Value) (K : List (List AV) → List Nat → Bool → Prop),
    (∀ (i j : Nat) (_ : i < rs.length) (_ : j < (rs.getD i []).length), VRel X s.kds w (vs i j) ((rs.getD i []).getD j .top)) → purLLK s rs K →
    ∃ (rs' : List (List AV)) (us : List Nat) (o : Bool), K rs' us o ∧ rs'.length = rs.length ∧ (∀ (i : Nat) (_ : i < rs.length), (rs'.getD i []).length = (rs.getD i []).length) ∧ (∀ i, i ∈ us → ∃ own nn sz es, s.blk i = .row own nn sz es) ∧
      (∀ (i j : Nat) (_ : i < rs'.length) (_ : j < (rs'.getD i []).length), (vs i j).oneCell' = true) ∧
      (∀ (i j : Nat) (_ : i < rs'.length) (_ : j < (rs'.getD i []).length), Reads w (PSet X us) (vs i j) ((rs'.getD i []).getD j .top)) ∧
      (o = true → us.Nodup → ∃ FF : Nat → Nat → Nat → Prop, (∀ (i j : Nat) (_ : i < rs'.length) (_ : j < (rs'.getD i []).length), OwnV w (vs i j) ((rs'.getD i []).getD j .top) (FF i j)) ∧
        (∀ (i j x : Nat) (_ : i < rs'.length) (_ : j < (rs'.getD i []).length), FF i j x → ∃ t, t ∈ us ∧ X.own x = some t) ∧
        ∀ (i j i' j' x : Nat) (_ : i < rs'.length) (_ : j < (rs'.getD i []).length) (_ : i' < rs'.length) (_ : j' < (rs'.getD i' []).length), FF i j x → FF i' j' x → i = i' ∧ j = j')
  | [], vs, K, _, hK => ⟨[], [], true, hK, rfl, by simp, by simp, by simp, by simp, fun _ _ => ⟨fun _ _ _ => False, by simp, by simp, by simp⟩⟩
  | r :: rs, vs, K, hv, hK => by
    have h0 := fun j hj => hv 0 j (by simp) hj
    rw [getD_zero] at h0
    obtain ⟨r', u, o, hK, hrl, hu, h1, hR, hO⟩ := purLK_sound h r (vs 0) _ h0 hK
    obtain ⟨rs', us, os, hK, hl, hll, hus, hones, hRs, hOs⟩ := purLLK_sound h rs (fun i => vs (i + 1)) _ (fun i j hi hj => by
      have := hv (i + 1) j (by simp; omega) (by rw [getD_succ]; exact hj)
      rwa [getD_succ] at this) hK
    refine ⟨r' :: rs', u ++ us, o && os, hK, by simp [hl], ?_, ?_, ?_, ?_, ?_⟩
    · intro i hi
      cases i with
      | zero => exact hrl
      | succ i => rw [getD_succ, getD_succ]; exact hll i (by simp at hi; omega)
    · intro i hi
      rcases List.mem_append.1 hi with e | e
      · exact hu i e
      · exact hus i e
    · intro i j hi hj
      cases i with
      | zero => exact h1 j hj
      | succ i => exact hones i j (by simp at hi; omega) hj
    · intro i j hi hj
      cases i with
      | zero => exact (hR j hj).mono fun x hx => hx.mono fun t ht => List.mem_append.2 (.inl ht)
      | succ i => exact (hRs i j (by simp at hi; omega) hj).mono fun x hx => hx.mono fun t ht => List.mem_append.2 (.inr ht)
    · intro ho hnd
      rw [Bool.and_eq_true] at ho
      obtain ⟨hnd1, hnd2, hnd3⟩ := List.nodup_append.1 hnd
      obtain ⟨F, f1, f2, f3⟩ := hO ho.1 hnd1
      obtain ⟨FF, g1, g2, g3⟩ := hOs ho.2 hnd2
      refine ⟨fun i => match i with | 0 => F | i + 1 => FF i, ?_, ?_, ?_⟩
      · intro i j hi hj
        cases i with
        | zero => exact f1 j hj
        | succ i => exact g1 i j (by simp at hi; omega) hj
      · intro i j x hi hj hx
        cases i with
        | zero => obtain ⟨t, e1, e2⟩ := f2 j x hj hx; exact ⟨t, List.mem_append.2 (.inl e1), e2⟩
        | succ i => obtain ⟨t, e1, e2⟩ := g2 i j x (by simp at hi; omega) hj hx; exact ⟨t, List.mem_append.2 (.inr e1), e2⟩
      · intro i j i' j' x hi hj hi' hj' hx hy
        cases i with
        | zero =>
          cases i' with
          | zero => exact ⟨rfl, f3 j j' x hj hj' hx hy⟩
          | succ i' =>
            obtain ⟨t, e1, e2⟩ := f2 j x hj hx
            obtain ⟨t', e3, e4⟩ := g2 i' j' x (by simp at hi'; omega) hj' hy
            rw [e2] at e4; cases e4
            exact absurd rfl (hnd3 t e1 t e3)
        | succ i =>
          cases i' with
          | zero =>
            obtain ⟨t, e1, e2⟩ := f2 j' x hj' hy
            obtain ⟨t', e3, e4⟩ := g2 i j x (by simp at hi; omega) hj hx
            rw [e2] at e4; cases e4
            exact absurd rfl (hnd3 t e1 t e3)
          | succ i' =>
            obtain ⟨e1, e2⟩ := g3 i j i' j' x (by simp at hi; omega) hj (by simp at hi'; omega) hj' hx hy
            exact ⟨by rw [e1], e2⟩

end Go.Proofs.Yteebkimhfaodnaa

/- Rows that are written out: []T{..}. -/
namespace Go.Proofs.Yteebkimhfaodnaa
open Go Go.RowKit

/-- The parts of a slice literal, all of them, in order. -/
def partsL (s : AState) (sz : Nat) : Nat → List (Nat × Operand) → (List (List AV) → Prop) → Prop
  | _, [], K => K []
  | n, (i, x) :: r, K => i = n ∧ (match partCells (s.ev x) with
    | some cs => cs.length = sz ∧ partsL s sz (n + 1) r fun rs => K (cs :: rs)
    | none => False)

def buildSliceK (T : Tab) (s : AState) (d : Option Nat) (t : TypeId) (len : Nat) (parts : List (Nat × Operand)) (K : AV → List (Nat × ABlk) → Prop) : Prop :=
  match d, elemSize T t with
  | some d, some sz => 0 < sz ∧ len * sz ≤ 16777216 ∧ parts.length = len ∧ (s.blk d = .none ∧ nF d) ∧
      partsL s sz 0 parts fun rows => purLLK s rows fun rows us own => us.Nodup ∧ K (.row d len) ((d, .row own true sz rows) :: us.map fun i => (i, ABlk.dead))
  | _, _ => False

theorem partsL_sound {X : Ctx} {s : AState} {a : Act} {w : World} (h : R X s a w) (sz : Nat) : ∀ (parts : List (Nat × Operand)) (n : Nat) (cells : Array Value) (K : List (List AV) → Prop), partsL s sz n parts K → (n + parts.length) * sz ≤ cells.size →
    ∃ (rows : List (List AV)) (cells' : Array Value), K rows ∧ rows.length = parts.length ∧ (∀ r, r ∈ rows → r.length = sz) ∧ Instr.fill (fun i => some (i * sz, sz)) cells (parts.map fun (i, x) => (i, a.eval x)) = some cells' ∧ cells'.size = cells.size ∧
      (∀ x, x < n * sz → cells'.getD x undef = cells.getD x undef) ∧ ∀ (k j : Nat) (_ : k < rows.length) (_ : j < sz), VRel X s.kds w (cells'.getD ((n + k) * sz + j) undef) ((rows.getD k []).getD j .top)
  | [], n, cells, K, hK, _ => ⟨[], cells, hK, rfl, by simp, rfl, rfl, fun _ _ => rfl, by simp⟩
  | (i, x) :: r, n, cells, K, hK, hsz => by
    obtain ⟨rfl, hK⟩ := hK
    split at hK
    · rename_i cs hcs
      obtain ⟨hl, hK⟩ := hK
      obtain ⟨hv1, hv2⟩ := (h.ev x).cells hcs
      have hle : i * sz + (a.eval x).cells.size ≤ cells.size := by
        rw [hv1, hl]
        have : (i + ((i, x) :: r).length) * sz = i * sz + sz + r.length * sz := by
          rw [List.length_cons, show i + (r.length + 1) = i + 1 + r.length by omega, Nat.add_mul, Nat.add_mul, Nat.one_mul]
        omega
      obtain ⟨f1, f2⟩ := fill_foldl (a.eval x).cells (i * sz) cells hle
      obtain ⟨rows, cells', hK, g1, g2, g3, g4, g5, g6⟩ := partsL_sound h sz r (i + 1) _ _ hK (by
        rw [f1]
        have : i + 1 + r.length = i + ((i, x) :: r).length := by rw [List.length_cons]; omega
        rw [this]; exact hsz)
      have hrow : ∀ y, y < (i + 1) * sz → cells'.getD y undef = if i * sz ≤ y ∧ y < i * sz + (a.eval x).cells.size then (a.eval x).cells.getD (y - i * sz) undef else cells.getD y undef :=
        fun y hy => (g5 y hy).trans (f2 y)
      have hm : (i + 1) * sz = i * sz + sz := by rw [Nat.add_mul, Nat.one_mul]
      refine ⟨cs :: rows, cells', hK, by simp [g1], ?_, ?_, g4.trans f1, ?_, ?_⟩
      · intro r hr
        rcases List.mem_cons.1 hr with e | e
        · rw [e]; exact hl
        · exact g2 r e
      · show Instr.fill _ cells ((i, a.eval x) :: _) = _
        unfold Instr.fill
        simp only
        rw [if_neg (by simp only [Bool.or_eq_true, decide_eq_true_eq, not_or]; exact ⟨by rw [hv1, hl]; simp, by omega⟩)]
        exact g3
      · intro y hy
        rw [hrow y (by omega), if_neg (by omega)]
      · intro k j hk hj
        cases k with
        | zero =>
          rw [Nat.add_zero, hrow _ (by omega), if_pos ⟨by omega, by rw [hv1, hl]; omega⟩, show i * sz + j - i * sz = j by omega]
          exact hv2 j (by rw [hl]; exact hj)
        | succ k =>
          have := g6 k j (by simpa using hk) hj
          rw [show i + 1 + k = i + (k + 1) by omega] at this
          exact this
    · exact hK.elim

theorem buildSliceK_sound {P : Program} {T : Tab} (hT : TabOk P T) {X : Ctx} {s : AState} {a : Act} {w : World} {d : Option Nat} {t : TypeId} {len : Nat} {parts : Array (Nat × Operand)} {K : AV → List (Nat × ABlk) → Prop} (h : R X s a w)
    (hK : buildSliceK T s d t len parts.toList K) :
    ∃ r ar ups X' w', (Instr.buildSlice t len (parts.map fun (i, x) => (i, a.eval x))).run P w = .ok r w' ∧ X'.base = X.base ∧ R X' { s with hp := ups ++ s.hp } a w' ∧ VRel X' ({ s with hp := ups ++ s.hp } : AState).kds w' r ar ∧ K ar ups := by
  unfold buildSliceK at hK
  split at hK
  · rename_i d sz he
    obtain ⟨hz, hcap, hpl, ⟨hd, h9⟩, hK⟩ := hK
    obtain ⟨e, ei, nf, dd, z, hu, hTe, hsz, ok⟩ := elemSize_und hT he
    -- the cells ahead of the parts
    generalize hc0 : ((Array.range (len * sz)).map fun i => (if len * sz = 0 then (#[] : Array Value) else z.cells)[i % (if len * sz = 0 then (#[] : Array Value) else z.cells).size]!) = c0
    have hc0s : c0.size = len * sz := by rw [← hc0]; simp
    obtain ⟨rows, cells', hK, g1, g2, g3, g4, g5, g6⟩ := partsL_sound h sz parts.toList 0 c0 _ hK (by rw [hc0s, Nat.zero_add, hpl]; exact Nat.le_refl _)
    obtain ⟨rows', us, own, hK, p1, p2, p3, p4, p5, p6⟩ := purLLK_sound h rows (fun i j => cells'.getD (i * sz + j) undef) _ (fun i j hi hj => by
      have hj' : j < sz := by
        have hm : rows.getD i [] ∈ rows := getD_mem rows i [] hi
        rwa [g2 _ hm] at hj
      have := g6 i j hi hj'
      rwa [Nat.zero_add] at this) hK
    obtain ⟨hnd, hK⟩ := hK
    have hlen : ∀ (i : Nat), i < rows'.length → (rows'.getD i []).length = sz := by
      intro i hi
      rw [p2 i (by omega)]
      exact g2 _ (getD_mem rows i [] (by omega))
    have hrl : rows'.length = len := by omega
    have hdus : d ∉ us := by
      intro hm
      obtain ⟨_, _, _, _, e⟩ := p3 d hm
      rw [hd] at e; cases e
    have hrun : (Instr.buildSlice t len (parts.map fun (i, x) => (i, a.eval x))).run P w = .ok (.slice (some ⟨w.heap.size, 0, none⟩) len len) (w.alloc (.cells cells' e)) := by
      have hps : (parts.map fun (i, x) => (i, a.eval x)).toList = parts.toList.map fun (i, x) => (i, a.eval x) := by simp
      have hbig : ¬ len * sz > 2 ^ 24 := by omega
      simp only [Instr.buildSlice, Sem.run_bind, run_underlying hu, Result.andThen_ok, ok.run_size, hsz, hps]
      rw [if_neg hbig]
      by_cases h0 : len * sz = 0
      · simp only [h0, if_true] at hc0 g3 ⊢
        simp only [Sem.run_bind, Sem.run_pure, Result.andThen_ok, hc0, g3]
        rfl
      · simp only [h0, if_false] at hc0 g3 ⊢
        simp only [Sem.run_bind, ok.run_zero, Sem.run_pure, Result.andThen_ok, hc0, g3]
        rfl
    have hblk : ∀ i, ({ s with hp := ((d, ABlk.row own true sz rows') :: us.map fun i => (i, ABlk.dead)) ++ s.hp } : AState).blk i = if i = d then .row own true sz rows' else if i ∈ us then .dead else s.blk i := by
      intro i
      have := getL_append ABlk.none ((d, ABlk.row own true sz rows') :: us.map fun i => (i, ABlk.dead)) s.hp i
      show getL ABlk.none _ i = _
      rw [this]
      by_cases e1 : i = d
      · subst e1
        rw [if_pos (by simp), if_pos rfl, getL_cons, if_pos rfl]
      · rw [if_neg e1]
        by_cases e2 : i ∈ us
        · rw [if_pos (by simp [e2]), if_pos e2, getL_cons, if_neg e1]
          clear this p5 p6 p3 p4 hK hdus
          induction us with
          | nil => cases e2
          | cons u us ih =>
            rw [List.map_cons, getL_cons]
            split
            · rfl
            · rename_i hne
              rcases List.mem_cons.1 e2 with e | e
              · exact absurd e hne
              · exact ih (List.nodup_cons.1 hnd).2 e
        · rw [if_neg (by simp [e1, e2]), if_neg e2]
          rfl
    have hnb : ∀ x, x < w.heap.size → (w.alloc (.cells cells' e)).heap[x]? = w.heap[x]? := fun x hx => Below.heap_alloc w _ x hx
    have hFFl : ∀ (F : Nat → Prop), (∀ x, F x → ∃ t, t ∈ us ∧ X.own x = some t) → ∀ x, F x → x < w.heap.size := fun F hF x hx => by
      obtain ⟨t, _, ht⟩ := hF x hx
      exact (h.ow x t ht).1
    have hset := h.setRow (s' := { s with hp := ((d, ABlk.row own true sz rows') :: us.map fun i => (i, ABlk.dead)) ++ s.hp }) (w' := w.alloc (.cells cells' e)) (T := fun i => i = d ∨ i ∈ us) (id := d) (b := w.heap.size) (cap := len) (sz := sz) (own := own) (nn := true) (es := rows') (c := cells') (ty := e)
      (.inl h9) (.inl rfl) (by rw [hblk, if_pos rfl]) (fun i hi => by
        rcases hi with e | e
        · exact .inl e
        · refine .inr ?_
          rw [hblk, if_neg (fun e' : i = d => hdus (by rw [← e']; exact e)), if_pos e])
      (fun i hi => by rw [hblk, if_neg (fun e => hi (.inl e)), if_neg (fun e => hi (.inr e))]) rfl rfl
      (.inl (by unfold AState.kds; rw [hd]; rfl)) rfl rfl rfl (by simp) (fun x hx _ _ => hnb x hx)
      (by show (w.heap.push _)[w.heap.size]? = _; simp) (.inl rfl) (by omega) (by omega) (fun e => by have e1 := congrArg List.length e; rw [List.length_nil] at e1; omega) hz
      (fun r hr => by
        obtain ⟨k, hk1, hk2⟩ := List.getElem_of_mem hr
        have := hlen k hk1
        rw [List.getD_eq_getElem?_getD, List.getElem?_eq_getElem hk1, hk2] at this
        exact this)
    have hfin : ∃ FF : Nat → Nat → Nat → Prop, (own = true → (∀ (i j : Nat) (_ : i < rows'.length) (_ : j < sz), OwnV (w.alloc (.cells cells' e)) (cells'.getD (i * sz + j) undef) ((rows'.getD i []).getD j .top) (FF i j)) ∧
      (∀ (i j i' j' x : Nat) (_ : i < rows'.length) (_ : j < sz) (_ : i' < rows'.length) (_ : j' < sz), FF i j x → FF i' j' x → i = i' ∧ j = j') ∧
      (∀ (i j : Nat) (_ : i < rows'.length) (_ : j < sz), ¬ FF i j w.heap.size) ∧ ∀ (i j x : Nat) (_ : i < rows'.length) (_ : j < sz), FF i j x → ∃ t, (t = d ∨ t ∈ us) ∧ X.own x = some t) := by
      by_cases ho : own = true
      · obtain ⟨FF, q1, q2, q3⟩ := p6 ho hnd
        refine ⟨FF, fun _ => ⟨fun i j hi hj => (q1 i j hi (by rw [hlen i hi]; exact hj)).step (fun x hx => hnb x (hFFl _ (fun y hy => q2 i j y hi (by rw [hlen i hi]; exact hj) hy) x hx)), fun i j i' j' x hi hj hi' hj' => q3 i j i' j' x hi (by rw [hlen i hi]; exact hj) hi' (by rw [hlen i' hi']; exact hj'), ?_, ?_⟩⟩
        · intro i j hi hj hx
          have := hFFl _ (fun y hy => q2 i j y hi (by rw [hlen i hi]; exact hj) hy) _ hx
          omega
        · intro i j x hi hj hx
          obtain ⟨t, t1, t2⟩ := q2 i j x hi (by rw [hlen i hi]; exact hj) hx
          exact ⟨t, .inr t1, t2⟩
      · exact ⟨fun _ _ _ => False, fun e => absurd e ho⟩
    obtain ⟨FF, hfin⟩ := hfin
    obtain ⟨X', x1, x2, x3, x4, x5⟩ := hset FF hfin (fun _ i j hi hj => by
      refine (p5 i j hi (by rw [hlen i hi]; exact hj)).step (fun x hx hlt => ⟨rfl, by omega, ?_⟩)
      rcases hx with hx | ⟨t, t1, t2⟩
      · exact .inl hx
      · exact .inr ⟨t, .inr t1, t2⟩)
    refine ⟨_, _, _, X', _, hrun, x1, x2, ?_, hK⟩
    have := VRel.row (X := X') (w := w.alloc (.cells cells' e)) (kd := ({ s with hp := ((d, ABlk.row own true sz rows') :: us.map fun i => (i, ABlk.dead)) ++ s.hp } : AState).kds) d len sz w.heap.size (by unfold AState.kds; rw [hblk, if_pos rfl]; rfl) x3
    rwa [x4] at this
  · exact hK.elim

end Go.Proofs.Yteebkimhfaodnaa

/- Small operations on rows and slices: parts of a slice, checks for nil, functions as values. -/
namespace Go.Proofs.Yteebkimhfaodnaa
open Go Go.RowKit

def nilCheckK (s : AState) (x : AV) (K : AV → Prop) : Prop :=
  match x with
  | .loc id _ => (match s.blk id with | .var _ => True | _ => False) ∧ K x
  | .elt id _ _ => (match s.blk id with | .row _ _ _ _ => True | .fro _ _ => True | .hole _ _ _ _ _ _ => True | _ => False) ∧ K x
  | .pel _ => K x
  | .fn _ _ => K x
  | _ => False

/-- A bound of a slice expression. -/
def boundK (x : Option AV) (dflt : Nat) : Option Int := match x with
  | none => some dflt
  | some (.int _ n) => some n
  | some _ => none

def sliceK (T : Tab) (s : AState) (t : TypeId) (x : AV) (lo hi : Option AV) (K : AV → Prop) : Prop :=
  match x with
  | .sl nn es => (match elemSize T t, boundK lo 0, boundK hi es.length with
    | some sz, some l, some h => (0 ≤ l ∧ l ≤ h ∧ h ≤ es.length) ∧ (l ≠ 0 → l < h → (es.getD 0 []).length = sz) ∧ K (.sl nn ((es.take h.toNat).drop l.toNat))
    | _, _, _ => False)
  | .row id n => (match lo, boundK hi n, elemSize T t with
    | none, some h, some _ => (match s.blk id with | .row _ _ _ es => h ≤ es.length | .fro _ es => h ≤ es.length | _ => False) ∧ (0 ≤ h ∧ h ≤ n) ∧ K (.row id h.toNat)
    | _, _, _ => False)
  | _ => False

/-- A part of an own row, for append alone: the row stays as it is. -/
def viewK (T : Tab) (s : AState) (t : TypeId) (id n : Nat) (lo hi : Option AV) (K : AV → Prop) : Prop :=
  match s.blk id with
  | .row _ _ sz es => (match elemSize T t, boundK lo 0, boundK hi n with
    | some sz', some l, some h => sz' = sz ∧ (0 ≤ l ∧ l ≤ h ∧ h ≤ n ∧ n ≤ es.length) ∧ K (.vw id l.toNat (h - l).toNat)
    | _, _, _ => False)
  | _ => False

theorem nilCheckK_sound {X : Ctx} {s : AState} {w : World} {x : AV} {v : Value} {K : AV → Prop} (hv : VRel X s.kds w v x) (hK : nilCheckK s x K) :
    ((∃ a, v = .pointer (some a)) ∨ ∃ f c, v = .func (.func f) #[] c) ∧ K x := by
  unfold nilCheckK at hK
  split at hK
  · rename_i id off
    obtain ⟨hk, hK⟩ := hK
    have hkd : s.kds id = .var := by
      unfold AState.kds
      split at hk
      · rename_i hb; rw [hb]; rfl
      · exact hk.elim
    obtain ⟨b, e, _⟩ := hv.loc_inv hkd
    exact ⟨.inl ⟨_, e⟩, hK⟩
  · rename_i id i off
    obtain ⟨hk, hK⟩ := hK
    have hkd : ∃ sz, s.kds id = .row sz := by
      unfold AState.kds
      split at hk
      · rename_i sz _ hb; rw [hb]; exact ⟨_, rfl⟩
      · rename_i sz _ hb; rw [hb]; exact ⟨_, rfl⟩
      · rename_i hb; rw [hb]; exact ⟨_, rfl⟩
      · exact hk.elim
    obtain ⟨sz, hkd⟩ := hkd
    obtain ⟨b, e, _⟩ := hv.elt_inv hkd
    exact ⟨.inl ⟨_, e⟩, hK⟩
  · obtain ⟨b, o, f, e, _⟩ := hv.pel_inv
    exact ⟨.inl ⟨_, e⟩, hK⟩
  · have := hv.fn_inv
    cases this with
    | fn f vs cs hl h => exact ⟨.inr ⟨_, _, rfl⟩, hK⟩
  · exact hK.elim

theorem bounds_run {P : Program} {w : World} {len cap : Nat} {lo hi : Option Value} {alo ahi : Option AV} {l h : Int} {X : Ctx} {kd : Nat → Kd}
    (h1 : ∀ v, lo = some v → ∃ a, alo = some a ∧ VRel X kd w v a) (h1' : lo = none → alo = none) (h2 : ∀ v, hi = some v → ∃ a, ahi = some a ∧ VRel X kd w v a) (h2' : hi = none → ahi = none)
    (e1 : boundK alo 0 = some l) (e2 : boundK ahi len = some h) (g1 : 0 ≤ l) (g2 : l ≤ h) (g3 : h ≤ cap) :
    (Instr.sliceBounds true len cap lo hi none).run P w = .ok (l.toNat, h.toNat, cap) w := by
  have hl : (lo = none ∧ l = 0) ∨ ∃ k, lo = some (.int k l) := by
    cases lo with
    | none =>
      rw [h1' rfl] at e1
      simp only [boundK, Option.some.injEq] at e1
      exact .inl ⟨rfl, e1.symm⟩
    | some v =>
      obtain ⟨a, rfl, hv⟩ := h1 v rfl
      cases a <;> simp only [boundK, Option.some.injEq, reduceCtorEq] at e1
      subst e1
      rw [hv.int_inv]
      exact .inr ⟨_, rfl⟩
  have hh : (hi = none ∧ h = len) ∨ ∃ k, hi = some (.int k h) := by
    cases hi with
    | none =>
      rw [h2' rfl] at e2
      simp only [boundK, Option.some.injEq] at e2
      exact .inl ⟨rfl, e2.symm⟩
    | some v =>
      obtain ⟨a, rfl, hv⟩ := h2 v rfl
      cases a <;> simp only [boundK, Option.some.injEq, reduceCtorEq] at e2
      subst e2
      rw [hv.int_inv]
      exact .inr ⟨_, rfl⟩
  clear h1 h1' h2 h2' e1 e2
  have gh : 0 ≤ h := by omega
  have eh : (h.toNat : Int) = h := Int.toNat_of_nonneg gh
  rcases hl with ⟨rfl, rfl⟩ | ⟨k, rfl⟩ <;> rcases hh with ⟨rfl, rfl⟩ | ⟨k', rfl⟩ <;> simp [Instr.sliceBounds, run_sliceBound, *]

/-- A part of an immutable slice. -/
theorem part_reads {w : World} {S : Nat → Prop} {a : Option Addr} {cap n : Nat} {nn : Option Bool} {es : List (List AV)} {sz l h : Nat} (hr : Reads w S (.slice a n cap) (.sl nn es)) (g1 : l ≤ h) (g2 : h ≤ es.length)
    (hsz : l ≠ 0 → l < h → (es.getD 0 []).length = sz) : Reads w S (.slice (if cap = l then a else a.map (·.add (l * sz))) (h - l) (cap - l)) (.sl nn ((es.take h).drop l)) := by
  generalize hv : Value.slice a n cap = v at hr
  generalize ha : AV.sl nn es = av at hr
  cases hr with
  | nil nn' hn =>
    cases ha; cases hv
    have h0 : h = 0 := by simpa using g2
    have l0 : l = 0 := by omega
    subst h0; subst l0
    exact .nil nn hn
  | empty a' cap' nn' hn =>
    cases ha; cases hv
    have h0 : h = 0 := by simpa using g2
    have l0 : l = 0 := by omega
    subst h0; subst l0
    split <;> exact .empty _ _ nn hn
  | slice b o cap' sz' nn' es' f hn hs hz hS hcap hc hrr =>
    cases ha; cases hv
    have hlen : ((es.take h).drop l).length = h - l := by rw [List.length_drop, List.length_take]; omega
    have hget : ∀ i, i < h - l → ((es.take h).drop l).getD i [] = es.getD (l + i) [] := by
      intro i hi
      rw [List.getD_eq_getElem?_getD, List.getD_eq_getElem?_getD, List.getElem?_drop, List.getElem?_take, if_pos (by omega)]
    by_cases hlt : l < h
    · have hne : es ≠ [] := fun e => by rw [e] at g2; simp at g2; omega
      have hmem : es.getD 0 [] ∈ es := getD_mem es 0 [] (by omega)
      have hadd : (if cap = l then (some ⟨b, o, none⟩ : Option Addr) else (some (⟨b, o, none⟩ : Addr)).map (·.add (l * sz))) = some ⟨b, o + l * sz', none⟩ := by
        rw [if_neg (by omega), Option.map_some, addr_add]
        by_cases l0 : l = 0
        · subst l0; simp
        · rw [← hsz l0 hlt, hs _ hmem]
      rw [hadd, ← hlen]
      refine .slice b (o + l * sz') (cap - l) sz' nn _ (fun i j => f (l + i) j) hn ?_ hz (fun _ => hS hne) (by omega) ?_ ?_
      · intro e he
        exact hs e (List.mem_of_mem_take (List.mem_of_mem_drop he))
      · intro i j hi hj
        have := hc (l + i) j (by omega) hj
        rw [show o + l * sz' + i * sz' + j = o + (l + i) * sz' + j by rw [Nat.add_mul]; omega]
        exact this
      · intro i j hi hj
        have := hrr (l + i) j (by omega) hj
        rw [hget i (by omega)]
        exact this
    · have e : (es.take h).drop l = [] := List.length_eq_zero_iff.1 (by rw [hlen]; omega)
      rw [e, show h - l = 0 by omega]
      split
      · exact .empty _ _ nn hn
      · exact .empty _ _ nn hn
  | _ => cases ha

theorem sliceK_sound {P : Program} {T : Tab} (hT : TabOk P T) {X : Ctx} {s : AState} {a : Act} {w : World} (hR : R X s a w) {t : TypeId} {x : AV} {v : Value} {alo ahi : Option AV} {lo hi : Option Value} {K : AV → Prop} (hv : VRel X s.kds w v x)
    (h1 : ∀ v, lo = some v → ∃ a, alo = some a ∧ VRel X s.kds w v a) (h1' : lo = none → alo = none) (h2 : ∀ v, hi = some v → ∃ a, ahi = some a ∧ VRel X s.kds w v a) (h2' : hi = none → ahi = none)
    (hK : sliceK T s t x alo ahi K) : ∃ r ar, (Instr.sliceAt t v lo hi none).run P w = .ok r w ∧ VRel X s.kds w r ar ∧ K ar := by
  unfold sliceK at hK
  split at hK
  · rename_i nn es
    split at hK
    · rename_i sz l h he hl hh
      obtain ⟨⟨g1, g2, g3⟩, hsz, hK⟩ := hK
      obtain ⟨e, ei, nf, d, z, hu, hTe, hszi, ok⟩ := elemSize_und hT he
      obtain ⟨a, c, rfl⟩ := hv.sl_inv.sl_shape
      have hle : es.length ≤ c := by
        have hr := hv.sl_inv
        generalize hvv : Value.slice a es.length c = vv at hr
        generalize haa : AV.sl nn es = aa at hr
        cases hr with
        | nil => cases haa; simp
        | empty => cases haa; simp
        | slice b o cap' sz' nn' es' f hn hs hz hS hcap => cases haa; cases hvv; exact hcap
        | _ => cases haa
      have hrun := bounds_run (P := P) (w := w) (cap := c) h1 h1' h2 h2' hl hh g1 g2 (by omega)
      refine ⟨_, _, ?_, .pure (part_reads (sz := sz) hv.sl_inv (l := l.toNat) (h := h.toNat) (by omega) (by omega) (fun a b => hsz (by omega) (by omega))), hK⟩
      simp only [Instr.sliceAt, Instr.slice, Sem.run_bind, run_underlying hu, Result.andThen_ok, hrun, ok.run_size, hszi]
      rfl
    · exact hK.elim
  · rename_i id n
    split at hK
    · rename_i h sz hh he
      obtain ⟨hk, ⟨g1, g2⟩, hK⟩ := hK
      obtain ⟨e, ei, nf, d, z, hu, hTe, hszi, ok⟩ := elemSize_und hT he
      have hkd : (∃ sz, s.kds id = .row sz) ∧ (X.at_ id ≠ none → h ≤ X.cap id) := by
        have hB := hR.bl id
        unfold AState.kds
        split at hk
        · rename_i own nn sz es hb
          rw [hb] at hB ⊢
          refine ⟨⟨_, rfl⟩, fun hne => ?_⟩
          obtain ⟨_, _, hB⟩ := hB
          rcases hB with ⟨e1, _⟩ | ⟨_, _, _, _, _, _, e2, _⟩
          · exact absurd e1 hne
          · omega
        · rename_i sz es hb
          rw [hb] at hB ⊢
          refine ⟨⟨_, rfl⟩, fun hne => ?_⟩
          obtain ⟨_, _, _, hB⟩ := hB
          rcases hB with ⟨e1, _⟩ | ⟨_, _, _, _, _, _, e2, _⟩
          · exact absurd e1 hne
          · omega
        · exact hk.elim
      obtain ⟨⟨sz', hkd⟩, hcap⟩ := hkd
      have hlo : lo = none := by
        cases lo with
        | none => rfl
        | some v => obtain ⟨a, e, _⟩ := h1 v rfl; cases e
      subst hlo
      rcases hv.row_inv hkd with ⟨b, rfl, hi'⟩ | ⟨rfl, rfl, hi'⟩
      · have hrun := bounds_run (P := P) (w := w) (cap := X.cap id) (len := n) (lo := none) (alo := none) (l := 0) (fun v e => by cases e) (fun _ => rfl) h2 h2' rfl hh (by omega) (by omega) (hcap (by rw [hi']; simp))
        refine ⟨_, _, ?_, .row id h.toNat sz' b hkd hi', hK⟩
        simp only [Instr.sliceAt, Instr.slice, Sem.run_bind, run_underlying hu, Result.andThen_ok, hrun, ok.run_size, hszi]
        have : (if X.cap id = Int.toNat 0 then (some ⟨b, 0, none⟩ : Option Addr) else (some (⟨b, 0, none⟩ : Addr)).map (·.add (Int.toNat 0 * sz))) = some ⟨b, 0, none⟩ := by
          split <;> simp [Addr.add]
        rw [this]
        rfl
      · have h0 : h = 0 := by omega
        subst h0
        have hrun := bounds_run (P := P) (w := w) (cap := 0) (len := 0) (lo := none) (alo := none) (l := 0) (fun v e => by cases e) (fun _ => rfl) h2 h2' rfl hh (by omega) (by omega) (by omega)
        refine ⟨_, _, ?_, .rowN id sz' hkd hi', hK⟩
        simp only [Instr.sliceAt, Instr.slice, Sem.run_bind, run_underlying hu, Result.andThen_ok, hrun, ok.run_size, hszi]
        rfl
    · exact hK.elim
  · exact hK.elim

theorem viewK_sound {P : Program} {T : Tab} (hT : TabOk P T) {X : Ctx} {s : AState} {a : Act} {w : World} (hR : R X s a w) {t : TypeId} {id n : Nat} {v : Value} {alo ahi : Option AV} {lo hi : Option Value} {K : AV → Prop} (hv : VRel X s.kds w v (.row id n))
    (h1 : ∀ v, lo = some v → ∃ a, alo = some a ∧ VRel X s.kds w v a) (h1' : lo = none → alo = none) (h2 : ∀ v, hi = some v → ∃ a, ahi = some a ∧ VRel X s.kds w v a) (h2' : hi = none → ahi = none)
    (hK : viewK T s t id n alo ahi K) : ∃ r ar, (Instr.sliceAt t v lo hi none).run P w = .ok r w ∧ VRel X s.kds w r ar ∧ K ar := by
  unfold viewK at hK
  split at hK
  · rename_i own nn sz es hb
    split at hK
    · rename_i sz' l h he hl hh
      obtain ⟨rfl, ⟨g1, g2, g3, g4⟩, hK⟩ := hK
      obtain ⟨e, ei, nf, d, z, hu, hTe, hszi, ok⟩ := elemSize_und hT he
      have hkd : s.kds id = .row sz' := by unfold AState.kds; rw [hb]; rfl
      have hB := hR.bl id
      rw [hb] at hB
      obtain ⟨_, _, hB⟩ := hB
      rcases hv.row_inv hkd with ⟨b, rfl, hi'⟩ | ⟨rfl, rfl, hi'⟩
      · have hcap : n ≤ X.cap id := by
          rcases hB with ⟨e1, _⟩ | ⟨_, _, _, _, _, _, e2, _⟩
          · rw [hi'] at e1; cases e1
          · omega
        have hrun := bounds_run (P := P) (w := w) (cap := X.cap id) (len := n) h1 h1' h2 h2' hl hh g1 g2 (by omega)
        refine ⟨_, _, ?_, .vw id l.toNat (h - l).toNat sz' b hkd hi', hK⟩
        simp only [Instr.sliceAt, Instr.slice, Sem.run_bind, run_underlying hu, Result.andThen_ok, hrun, ok.run_size, hszi]
        have e2 : (if X.cap id = l.toNat then (some ⟨b, 0, none⟩ : Option Addr) else (some (⟨b, 0, none⟩ : Addr)).map (·.add (l.toNat * sz'))) = if X.cap id = l.toNat then some ⟨b, 0, none⟩ else some ⟨b, l.toNat * sz', none⟩ := by
          split
          · rfl
          · rw [Option.map_some, addr_add, Nat.zero_add]
        rw [e2, show h.toNat - l.toNat = (h - l).toNat by omega]
        rfl
      · have h0 : h = 0 := by omega
        have l0 : l = 0 := by omega
        subst h0; subst l0
        have hrun := bounds_run (P := P) (w := w) (cap := 0) (len := 0) h1 h1' h2 h2' hl hh (by omega) (by omega) (by omega)
        refine ⟨_, _, ?_, .vwN id sz' hkd hi', hK⟩
        simp only [Instr.sliceAt, Instr.slice, Sem.run_bind, run_underlying hu, Result.andThen_ok, hrun, ok.run_size, hszi]
        rfl
    · exact hK.elim
  · exact hK.elim

end Go.Proofs.Yteebkimhfaodnaa

/- make([]T, n). -/
namespace Go.Proofs.Yteebkimhfaodnaa
open Go Go.RowKit

/-- A cell as it stands in a row. -/
def canC : AV → AV
  | .sl _ es => .sl none es
  | a => a

/-- The zero of a cell that a made row may hold. -/
def madeZ : AV → Bool
  | .int _ _ => true
  | .bool _ => true
  | .sl (some false) [] => true
  | _ => false

def elemInfo (T : Tab) (t : TypeId) : Option TI := match T t with
  | some i => (match i.k with | .slice e => T e | _ => none)
  | none => none

def makeSliceK (T : Tab) (s : AState) (d : Option Nat) (t : TypeId) (x y : AV) (K : AV → List (Nat × ABlk) → Prop) : Prop :=
  match d, elemInfo T t, x, y with
  | some d, some ei, .int _ n, .int _ m => m = n ∧ 0 < ei.size ∧ (0 ≤ n ∧ n ≤ 9223372036854775807) ∧ ei.bytes * n.toNat ≤ 281474976710656 ∧ ei.zc.all madeZ = true ∧ (s.blk d = .none ∧ nF d) ∧
      K (.row d n.toNat) [(d, .row true true ei.size (List.replicate n.toNat (ei.zc.map canC)))]
  | _, _, _, _ => False

theorem zCells_get : ∀ (vs : List Value) (cs : List AV), zCells vs cs = true → vs.length = cs.length ∧ ∀ i, i < cs.length → zCell (vs.getD i undef) (cs.getD i .top) = true
  | [], [], _ => ⟨rfl, by simp⟩
  | v :: vs, c :: cs, h => by
    simp only [zCells, Bool.and_eq_true] at h
    obtain ⟨g1, g2⟩ := zCells_get vs cs h.2
    refine ⟨by simp [g1], fun i hi => ?_⟩
    cases i with
    | zero => exact h.1
    | succ i => exact g2 i (by simpa using hi)
  | [], _ :: _, h => by simp [zCells] at h
  | _ :: _, [], h => by simp [zCells] at h

theorem map_canC (l : List AV) (j : Nat) (h : j < l.length) : (l.map canC).getD j .top = canC (l.getD j .top) := by
  simp [List.getD_eq_getElem?_getD, h]

theorem zCell_own {w : World} {v : Value} {c : AV} (h : zCell v c = true) (hm : madeZ c = true) : OwnV w v (canC c) (fun _ => False) := by
  unfold zCell at h
  split at h
  · simp only [Bool.and_eq_true, beq_iff_eq] at h
    rw [h.1, h.2]
    exact .int _ _ _ (fun _ e => e)
  · simp only [beq_iff_eq] at h
    rw [h]
    exact .bool _ _ (fun _ e => e)
  · exact .nil none (by simp) _ (fun _ e => e)
  · simp [madeZ] at hm
  · cases h

theorem elemInfo_und {P : Program} {T : Tab} (hT : TabOk P T) {t : TypeId} {ei : TI} (h : elemInfo T t = some ei) : ∃ e nf d z, P.underlying t = some (.slice e) ∧ TIok P e ei nf d z := by
  unfold elemInfo at h
  split at h
  · rename_i i hi
    obtain ⟨nf, d, z, ok⟩ := hT.get hi
    split at h
    · rename_i e hk
      obtain ⟨nf', d', z', ok'⟩ := hT.get h
      have htk := ok.tk
      rw [hk] at htk
      have hd : d = .slice e := by cases d <;> simp_all [tkOk]
      exact ⟨e, nf', d', z', by rw [ok.und, hd], ok'⟩
    · cases h
  · cases h

theorem makeSliceK_sound {P : Program} {T : Tab} (hT : TabOk P T) {X : Ctx} {s : AState} {a : Act} {w : World} {d : Option Nat} {t : TypeId} {x y : AV} {v u : Value} {K : AV → List (Nat × ABlk) → Prop} (h : R X s a w)
    (hv : VRel X s.kds w v x) (hu : VRel X s.kds w u y) (hK : makeSliceK T s d t x y K) :
    ∃ r ar ups X' w', (Instr.makeSlice t v u).run P w = .ok r w' ∧ X'.base = X.base ∧ R X' { s with hp := ups ++ s.hp } a w' ∧ VRel X' ({ s with hp := ups ++ s.hp } : AState).kds w' r ar ∧ K ar ups := by
  unfold makeSliceK at hK
  split at hK
  · rename_i d ei kx n ky m he
    obtain ⟨rfl, hz, ⟨h0, h63⟩, hby, hzc, ⟨hd, h9⟩, hK⟩ := hK
    obtain ⟨e, nf, dd, z, hue, ok⟩ := elemInfo_und hT he
    have ev := hv.int_inv
    have eu := hu.int_inv
    subst ev; subst eu
    obtain ⟨g1, g2⟩ := zCells_get _ _ ok.zc
    have hzs : z.cells.size = ei.size := ok.zs
    have hlen : ei.zc.length = ei.size := by rw [← g1, Array.length_toList]; exact hzs
    have hbi : (nf.bytes : Int) * m ≤ 281474976710656 := by
      have e1 : ((nf.bytes * m.toNat : Nat) : Int) ≤ 281474976710656 := by rw [ok.bytes]; omega
      rw [Int.natCast_mul, Int.toNat_of_nonneg h0] at e1
      exact e1
    have hr := run_make (P := P) w t e nf z hue ok.info ok.zero kx ky m m h0 (Int.le_refl _) hbi h63
    have hcs : (madeCells z.cells (m.toNat * nf.size)).size = m.toNat * ei.size := by rw [size_madeCells, ok.size]
    have hcell : ∀ i j, i < m.toNat → j < ei.size → (madeCells z.cells (m.toNat * nf.size)).getD (i * ei.size + j) undef = z.cells.toList.getD j undef := by
      intro i j hi hj
      have hlt : i * ei.size + j < m.toNat * nf.size := by rw [ok.size]; exact mul_lt_of hi hj (Nat.le_refl _)
      have hmod : (i * ei.size + j) % z.cells.size = j := by
        rw [hzs, Nat.add_comm, Nat.add_mul_mod_self_right]
        exact Nat.mod_eq_of_lt hj
      rw [arr_getD]
      simp only [madeCells, Array.getD_eq_getD_getElem?, Array.getElem?_map, Array.getElem?_range, hlt, if_true, Option.map_some, Option.getD_some, hmod]
      rw [getElem!_pos z.cells j (by omega), Array.getElem?_eq_getElem (by omega)]
      rfl
    have hrow : ∀ i, i < m.toNat → (List.replicate m.toNat (ei.zc.map canC)).getD i [] = ei.zc.map canC := by
      intro i hi
      simp [List.getD_eq_getElem?_getD, List.getElem?_replicate, hi]
    have hset := h.setRow (s' := { s with hp := [(d, ABlk.row true true ei.size (List.replicate m.toNat (ei.zc.map canC)))] ++ s.hp }) (w' := w.alloc (.cells (madeCells z.cells (m.toNat * nf.size)) e)) (T := fun i => i = d) (id := d) (b := w.heap.size) (cap := m.toNat) (sz := ei.size) (own := true) (nn := true)
      (es := List.replicate m.toNat (ei.zc.map canC)) (c := madeCells z.cells (m.toNat * nf.size)) (ty := e) (.inl h9) rfl (by rw [show ({ s with hp := [(d, ABlk.row true true ei.size (List.replicate m.toNat (ei.zc.map canC)))] ++ s.hp } : AState).blk d = if d = d then _ else s.blk d from blk_upd s d _ d, if_pos rfl]) (fun i hi => .inl hi)
      (fun i hi => by rw [show ({ s with hp := [(d, ABlk.row true true ei.size (List.replicate m.toNat (ei.zc.map canC)))] ++ s.hp } : AState).blk i = if i = d then _ else s.blk i from blk_upd s d _ i, if_neg hi]) rfl rfl
      (.inl (by unfold AState.kds; rw [hd]; rfl)) rfl rfl rfl (by simp) (fun x hx _ _ => Below.heap_alloc w _ x hx)
      (by show (w.heap.push _)[w.heap.size]? = _; simp) (.inl rfl) hcs (by simp) (fun e => by have e1 := congrArg List.length e; simpa using e1) hz (fun r hr => by rw [List.eq_of_mem_replicate hr, List.length_map]; exact hlen)
    obtain ⟨X', x1, x2, x3, x4, x5⟩ := hset (fun _ _ _ => False) (fun _ => ⟨fun i j hi hj => by
        rw [List.length_replicate] at hi
        rw [hcell i j hi hj, hrow i hi, map_canC _ _ (by omega)]
        exact zCell_own (g2 j (by omega)) (List.all_eq_true.1 hzc _ (getD_mem _ _ _ (by omega))), fun _ _ _ _ _ _ _ _ _ e => e.elim, fun _ _ _ _ e => e, fun _ _ _ _ _ e => e.elim⟩) (fun e => by cases e)
    refine ⟨_, _, _, X', _, hr, x1, x2, ?_, hK⟩
    have := VRel.row (X := X') (w := w.alloc (.cells (madeCells z.cells (m.toNat * nf.size)) e)) (kd := ({ s with hp := [(d, ABlk.row true true ei.size (List.replicate m.toNat (ei.zc.map canC)))] ++ s.hp } : AState).kds) d m.toNat ei.size w.heap.size
      (by unfold AState.kds; rw [show ({ s with hp := [(d, ABlk.row true true ei.size (List.replicate m.toNat (ei.zc.map canC)))] ++ s.hp } : AState).blk d = if d = d then _ else s.blk d from blk_upd s d _ d, if_pos rfl]; rfl) x3
    rwa [x4] at this
  · exact hK.elim

end Go.Proofs.Yteebkimhfaodnaa

/- Storing into an element of a row. -/
namespace Go.Proofs.Yteebkimhfaodnaa
open Go Go.RowKit

/-- The cells of a value but for the last one. -/
def lastK : List AV → List AV → (List AV → AV → Prop) → Prop
  | _, [], _ => False
  | acc, [x], K => K acc x
  | acc, x :: y :: r, K => lastK (acc ++ [x]) (y :: r) K

/-- A store of a value whose last cell is an own row: that cell is left out (the row 651 alone). -/
def storeHoleK (s : AState) (size id e off : Nat) (own nn : Bool) (sz : Nat) (es : List (List AV)) (vs : List AV) (K : AV → List (Nat × ABlk) → Prop) : Prop :=
  own = true ∧ vs.length = size ∧ e < es.length ∧ off + size ≤ sz ∧ lastK [] vs fun vs y => purLK s vs fun vs us o => o = true ∧ us.Nodup ∧ id ∉ us ∧
    (match y with
     | .row i n => i ∉ us ∧ i ≠ id ∧ K .top ((id, .hole nn sz (es.set e (spliceL (es.getD e []) off vs)) e (off + (size - 1)) (.row i n)) :: us.map fun i => (i, ABlk.dead))
     | _ => False)

def storeEltK (s : AState) (size : Nat) (x y : AV) (K : AV → List (Nat × ABlk) → Prop) : Prop :=
  match x with
  | .elt id e off => (match s.blk id with
    | .row own nn sz es => (match partCells y with
      | some vs => (match id == 651 with
        | true => storeHoleK s size id e off own nn sz es vs K
        | false => vs.length = size ∧ e < es.length ∧ off + size ≤ sz ∧ purLK s vs fun vs us o => us.Nodup ∧ id ∉ us ∧
          K .top ((id, .row (own && o) nn sz (es.set e (spliceL (es.getD e []) off vs))) :: us.map fun i => (i, ABlk.dead)))
      | none => False)
    | .hole nn sz es k j _ => (size = 1 ∧ e = k ∧ off = j) ∧ (match y with
      | .row i n => K .top [(id, .hole nn sz es k j (.row i n))]
      | .sl q zs => K .top [(id, .hole nn sz es k j (.sl q zs))]
      | _ => False)
    | _ => False)
  | _ => False

theorem VRel.one_row {X : Ctx} {kd : Nat → Kd} {w : World} {u : Value} {i n : Nat} (h : VRel X kd w u (.row i n)) : u.cells = #[u] ∧ u.oneCell' = true := by
  generalize ha : AV.row i n = a at h
  cases h with
  | pure h => subst ha; cases h
  | row id n sz b hk hi => exact ⟨rfl, rfl⟩
  | rowN id sz hk hi => exact ⟨rfl, rfl⟩
  | rowD _ id n h1 hk =>
    refine ⟨?_, h1⟩
    cases u <;> first | rfl | (simp [Value.oneCell'] at h1)
  | _ => cases ha

theorem VRel.one_sl {X : Ctx} {kd : Nat → Kd} {w : World} {u : Value} {q : Option Bool} {zs : List (List AV)} (h : VRel X kd w u (.sl q zs)) : u.cells = #[u] ∧ u.oneCell' = true := by
  obtain ⟨ad, c, rfl⟩ := h.sl_inv.sl_shape
  exact ⟨rfl, rfl⟩

theorem idx_ne {i e j sz off n : Nat} (hne : i ≠ e) (hj : j < sz) (hn : off + n ≤ sz) : ¬ (e * sz + off ≤ i * sz + j ∧ i * sz + j < e * sz + off + n) := by
  rcases Nat.lt_or_gt_of_ne hne with h | h
  · have h1 : (i + 1) * sz ≤ e * sz := Nat.mul_le_mul_right _ h
    have h2 : (i + 1) * sz = i * sz + sz := by rw [Nat.add_mul, Nat.one_mul]
    omega
  · have h1 : (e + 1) * sz ≤ i * sz := Nat.mul_le_mul_right _ h
    have h2 : (e + 1) * sz = e * sz + sz := by rw [Nat.add_mul, Nat.one_mul]
    omega

theorem set_getD {α : Type} (l : List α) (e i : Nat) (v d : α) (h : e < l.length) : (l.set e v).getD i d = if i = e then v else l.getD i d := by
  rw [List.getD_eq_getElem?_getD, List.getD_eq_getElem?_getD, List.getElem?_set]
  by_cases he : e = i
  · subst he; simp [h]
  · rw [if_neg he, if_neg (fun e' => he e'.symm)]

theorem deads_blk (s : AState) (id : Nat) (B : ABlk) (us : List Nat) (hid : id ∉ us) (i : Nat) :
    ({ s with hp := ((id, B) :: us.map fun i => (i, ABlk.dead)) ++ s.hp } : AState).blk i = if i = id then B else if i ∈ us then .dead else s.blk i := by
  show getL ABlk.none (((id, B) :: us.map fun i => (i, ABlk.dead)) ++ s.hp) i = _
  rw [List.cons_append, getL_cons]
  by_cases e : i = id
  · rw [if_pos e, if_pos e]
  · rw [if_neg e, if_neg e]
    induction us with
    | nil => simp; rfl
    | cons u us ih =>
      rw [List.map_cons, List.cons_append, getL_cons]
      by_cases e2 : i = u
      · rw [if_pos e2, if_pos (by simp [e2])]
      · rw [if_neg e2, ih (fun h => hid (List.mem_cons_of_mem _ h))]
        simp [e2]

theorem splice_arr (c : Array Value) (us : List Value) (o k : Nat) (h : o + us.length ≤ c.size) :
    ((c.toList.take (o + 0) ++ us ++ c.toList.drop (o + 0 + us.length)).toArray).getD k undef = if o ≤ k ∧ k < o + us.length then us.getD (k - o) undef else c.getD k undef := by
  rw [← arr_getD, ← arr_getD]
  simp only [Nat.add_zero, List.getD_eq_getElem?_getD]
  by_cases h1 : k < o
  · rw [if_neg (by omega), List.append_assoc, List.getElem?_append_left (by simp; omega), List.getElem?_take_of_lt h1]
  · by_cases h2 : k < o + us.length
    · rw [if_pos (by omega), List.append_assoc, List.getElem?_append_right (by simp; omega), List.getElem?_append_left (by simp; omega)]
      simp only [List.length_take, Array.length_toList]
      rw [show min o c.size = o by omega]
    · rw [if_neg (by omega), List.getElem?_append_right (by simp; omega), List.getElem?_drop]
      simp only [List.length_append, List.length_take, Array.length_toList]
      rw [show min o c.size = o by omega, show o + us.length + (k - (o + us.length)) = k by omega]

theorem storeHole_core {X : Ctx} {s : AState} {a : Act} {w : World} {y a0 : AV} {u : Value} {id k j sz b : Nat} {nn : Bool} {es : List (List AV)} (h : R X s a w) (hi : X.at_ id = some b) (hu : VRel X s.kds w u y)
    (hb : s.blk id = .hole nn sz es k j a0) :
    ∃ c ty, w.heap[b]? = some (.cells c ty (0, 0)) ∧ k * sz + j < c.size ∧
      R X { s with hp := (id, .hole nn sz es k j y) :: s.hp } a (w.setRow b ((c.toList.take (k * sz + j + 0) ++ [u] ++ c.toList.drop (k * sz + j + 0 + 1)).toArray)) := by
  have hkd : s.kds id = .row sz := by unfold AState.kds; rw [hb]; rfl
  have hB := h.bl id
  rw [hb] at hB
  obtain ⟨hz, hl, hk, hj, b', c, ty, h1, h2, h3, h4, h5, FF, f1, f2, f3, f4, f5⟩ := hB
  rw [hi] at h1; cases h1
  have hown : X.own b = some id := (f5 b).2 (.inl rfl)
  have hfit : k * sz + j < c.size := by rw [h3]; exact mul_lt_of hk hj h4
  refine ⟨c, ty, h2, hfit, ?_⟩
  obtain ⟨c', hc'⟩ : ∃ c', c' = (c.toList.take (k * sz + j + 0) ++ [u] ++ c.toList.drop (k * sz + j + 0 + 1)).toArray := ⟨_, rfl⟩
  rw [← hc']
  have hget : ∀ q, c'.getD q undef = if q = k * sz + j then u else c.getD q undef := by
    intro q
    rw [hc']
    have := splice_arr c [u] (k * sz + j) q (by simp; omega)
    rw [List.length_singleton] at this
    rw [this]
    by_cases e : q = k * sz + j
    · subst e; rw [if_pos (by omega), if_pos rfl]; simp
    · rw [if_neg (by omega), if_neg e]
  have hcs : c'.size = c.size := by
    rw [hc']
    simp only [Nat.add_zero, List.size_toArray, List.length_append, List.length_take, List.length_drop, Array.length_toList, List.length_singleton]
    omega
  have hstep : ∀ x, x ≠ b → (w.setRow b c').heap[x]? = w.heap[x]? := fun x hxb => by
    simp only [World.setRow, Array.getElem?_modify]; rw [if_neg (fun e => hxb e.symm)]
  have hsame : (w.setRow b c').heap.size = w.heap.size := by simp [World.setRow]
  have hkds : ∀ id', ({ s with hp := (id, .hole nn sz es k j y) :: s.hp } : AState).kds id' = s.kds id' := by
    intro id'
    show (({ s with hp := (id, .hole nn sz es k j y) :: s.hp } : AState).blk id').kd = (s.blk id').kd
    rw [show ({ s with hp := (id, .hole nn sz es k j y) :: s.hp } : AState).blk id' = if id' = id then ABlk.hole nn sz es k j y else s.blk id' from rfl]
    split
    · rename_i e; rw [e, hb]; rfl
    · rfl
  refine h.step (T := fun i => i = id) ⟨rfl, rfl, rfl, rfl, by rw [hsame]; exact Nat.le_refl _, ?_, fun _ _ => ⟨rfl, rfl⟩, fun _ _ _ hx => hx, ?_, fun _ _ => ⟨rfl, rfl⟩⟩ h.nt h.df ?_ ?_ ?_ ?_
  · intro x _ hx
    exact ⟨hstep x (fun e => hx id rfl (e ▸ hown)), rfl⟩
  · intro x id' hx
    rw [hsame]; exact h.ow x id' hx
  · intro id' hid
    show (if id' = id then _ else s.blk id') = _
    rw [if_neg hid]
  · intro id' hid
    subst hid
    refine .inr (.inr ⟨?_, hkds id', rfl, rfl⟩)
    rw [hkd]; exact fun e => by cases e
  · intro hV i
    exact hV _ _ (h.fr i)
  · intro hV id' hid
    subst hid
    show BRel X _ _ id' (if id' = id' then ABlk.hole nn sz es k j y else s.blk id')
    rw [if_pos rfl]
    refine ⟨hz, hl, hk, hj, b, c', ty, hi, setRow_heap w b c c' ty (0, 0) h2, by rw [hcs]; exact h3, h4, ?_, FF, ?_, f2, f3, f4, f5⟩
    · rw [hget, if_pos rfl]; exact hV _ _ hu
    · intro i l hi' hl' hne
      have hd : i * sz + l ≠ k * sz + j := fun e => by
        rcases Nat.lt_trichotomy i k with g | g | g
        · have e1 : (i + 1) * sz ≤ k * sz := Nat.mul_le_mul_right _ (by omega)
          have e2 : (i + 1) * sz = i * sz + sz := by rw [Nat.add_mul, Nat.one_mul]
          omega
        · subst g; exact hne ⟨rfl, by omega⟩
        · have e1 : (k + 1) * sz ≤ i * sz := Nat.mul_le_mul_right _ (by omega)
          have e2 : (k + 1) * sz = k * sz + sz := by rw [Nat.add_mul, Nat.one_mul]
          omega
      rw [hget, if_neg hd]
      exact (f1 i l hi' hl' hne).step (fun x hx => hstep x (fun e => f4 i l hi' hl' (e ▸ hx)))

theorem storeHole_sound {P : Program} {X : Ctx} {s : AState} {a : Act} {w : World} {t : TypeId} {y a0 : AV} {v u : Value} {id k j sz : Nat} {nn : Bool} {es : List (List AV)} (h : R X s a w) (hv : VRel X s.kds w v (.elt id k j)) (hu : VRel X s.kds w u y)
    (hsz : (sizeOf t).run P w = .ok 1 w) (hb : s.blk id = .hole nn sz es k j a0) (hone : u.cells = #[u] ∧ u.oneCell' = true) :
    ∃ w', (Instr.storeAt t v u).run P w = .ok () w' ∧ R X { s with hp := (id, .hole nn sz es k j y) :: s.hp } a w' := by
  have hkd : s.kds id = .row sz := by unfold AState.kds; rw [hb]; rfl
  obtain ⟨b, rfl, hi⟩ := hv.elt_inv hkd
  obtain ⟨c, ty, h2, hfit, hR⟩ := storeHole_core h hi hu hb
  have hst := run_storeCells_at P b (k * sz + j) ty u.cells.toList 0 c w h2 (by rw [hone.1]; simp; omega) (by rw [hone.1]; intro q hq; simp at hq; rw [hq]; exact hone.2)
  have hul : u.cells.toList = [u] := by rw [hone.1]
  refine ⟨_, ?_, hR⟩
  simp only [Instr.storeAt, Instr.sureAddr, Sem.run_bind, Sem.run_pure, Result.andThen_ok, storeVar, hsz, Sem.run_ite]
  rw [if_neg (by rw [hone.1]; simp), hst, hul, List.length_singleton]

/-- What storing cells into an element of a row makes of the state. -/
theorem storeRow_core {X : Ctx} {s : AState} {a : Act} {w : World} {id e off b sz size : Nat} {own nn o : Bool} {es : List (List AV)} {lu : List Value} {vs' : List AV} {us : List Nat}
    (h : R X s a w) (hb : s.blk id = .row own nn sz es) (hi : X.at_ id = some b) (hes : e < es.length) (hle : off + size ≤ sz) (hul : lu.length = size) (hvl : vs'.length = size)
    (p4 : ∀ (i : Nat) (_ : i < vs'.length), Reads w (PSet X us) (lu.getD i undef) (vs'.getD i .top))
    (p5 : o = true → us.Nodup → ∃ FF : Nat → Nat → Prop, (∀ (i : Nat) (_ : i < vs'.length), OwnV w (lu.getD i undef) (vs'.getD i .top) (FF i)) ∧ (∀ (i x : Nat) (_ : i < vs'.length), FF i x → ∃ t, t ∈ us ∧ X.own x = some t) ∧
        ∀ (i j x : Nat) (_ : i < vs'.length) (_ : j < vs'.length), FF i x → FF j x → i = j) (hnd : us.Nodup) (hid : id ∉ us) :
    ∃ (X' : Ctx) (c : Array Value) (ty : TypeId), w.heap[b]? = some (.cells c ty (0, 0)) ∧ e * sz + off + size ≤ c.size ∧ X'.base = X.base ∧ X'.at_ id = some b ∧
      R X' { s with hp := ((id, .row (own && o) nn sz (es.set e (spliceL (es.getD e []) off vs'))) :: us.map fun i => (i, ABlk.dead)) ++ s.hp } a (w.setRow b ((c.toList.take (e * sz + off + 0) ++ lu ++ c.toList.drop (e * sz + off + 0 + lu.length)).toArray)) ∧
      ∀ v av, VRel X s.kds w v av → VRel X' ({ s with hp := ((id, .row (own && o) nn sz (es.set e (spliceL (es.getD e []) off vs'))) :: us.map fun i => (i, ABlk.dead)) ++ s.hp } : AState).kds (w.setRow b ((c.toList.take (e * sz + off + 0) ++ lu ++ c.toList.drop (e * sz + off + 0 + lu.length)).toArray)) v av := by
  have hkd : s.kds id = .row sz := by unfold AState.kds; rw [hb]; rfl
  have hB := h.bl id
  rw [hb] at hB
  obtain ⟨hz, hls, hB⟩ := hB
  rcases hB with ⟨e1, _, e3, _⟩ | ⟨b', c, ty, e1, e2, e3, e4, e6⟩
  · rw [hi] at e1; cases e1
  · rw [hi] at e1; cases e1
    have hown : X.own b = some id := by
      rcases e6.2 with ⟨_, FF, _, _, _, h10⟩ | ⟨_, h10, _⟩
      · exact (h10 b).2 (.inl rfl)
      · exact (h10 b).2 rfl
    have hfit : e * sz + off + size ≤ c.size := by
      rw [e3]
      have h1 : (e + 1) * sz ≤ X.cap id * sz := Nat.mul_le_mul_right _ (by omega)
      have h2 : (e + 1) * sz = e * sz + sz := by rw [Nat.add_mul, Nat.one_mul]
      omega
    obtain ⟨c', hc'⟩ : ∃ c', c' = (c.toList.take (e * sz + off + 0) ++ lu ++ c.toList.drop (e * sz + off + 0 + lu.length)).toArray := ⟨_, rfl⟩
    have hget : ∀ k, c'.getD k undef = if e * sz + off ≤ k ∧ k < e * sz + off + size then lu.getD (k - (e * sz + off)) undef else c.getD k undef := by
      intro k
      rw [hc', splice_arr c _ _ k (by omega), hul]
    have hcs : c'.size = c.size := by
      rw [hc']
      simp only [Nat.add_zero, List.size_toArray, List.length_append, List.length_take, List.length_drop, Array.length_toList]
      omega
    have hrowl : (es.getD e []).length = sz := hls _ (getD_mem _ _ _ hes)
    -- what the cells of the new row are
    have hcase : ∀ i j, i < es.length → j < sz → (i = e ∧ off ≤ j ∧ j < off + size ∧ c'.getD (i * sz + j) undef = lu.getD (j - off) undef ∧ ((es.set e (spliceL (es.getD e []) off vs')).getD i []).getD j .top = vs'.getD (j - off) .top) ∨
        (¬ (i = e ∧ off ≤ j ∧ j < off + size) ∧ c'.getD (i * sz + j) undef = c.getD (i * sz + j) undef ∧ ((es.set e (spliceL (es.getD e []) off vs')).getD i []).getD j .top = (es.getD i []).getD j .top) := by
      intro i j hi' hj
      rw [set_getD _ _ _ _ _ hes, hget]
      by_cases hie : i = e
      · subst hie
        rw [if_pos rfl, spliceL_getD _ _ _ _ (by omega) (by omega)]
        by_cases hjo : off ≤ j ∧ j < off + size
        · refine .inl ⟨rfl, hjo.1, hjo.2, ?_, ?_⟩
          · rw [if_pos ⟨by omega, by omega⟩, show i * sz + j - (i * sz + off) = j - off by omega]
          · rw [if_pos ⟨hjo.1, by omega⟩]
        · refine .inr ⟨fun e => hjo e.2, ?_, ?_⟩
          · rw [if_neg (by omega)]
          · rw [if_neg (by omega)]
      · rw [if_neg hie]
        exact .inr ⟨fun e => hie e.1, by rw [if_neg (idx_ne hie hj (by omega))], rfl⟩
    have hlen' : (es.set e (spliceL (es.getD e []) off vs')).length = es.length := List.length_set ..
    have hset := h.setRow (s' := { s with hp := ((id, ABlk.row (own && o) nn sz (es.set e (spliceL (es.getD e []) off vs'))) :: us.map fun i => (i, ABlk.dead)) ++ s.hp }) (w' := w.setRow b c') (T := fun i => i = id ∨ i ∈ us) (id := id) (b := b) (cap := X.cap id) (sz := sz)
      (own := own && o) (nn := nn) (es := es.set e (spliceL (es.getD e []) off vs')) (c := c') (ty := ty)
      (.inr ⟨hi, rfl⟩) (.inl rfl) (by rw [deads_blk _ _ _ _ hid, if_pos rfl]) (fun i hi' => by
        rcases hi' with e' | e'
        · exact .inl e'
        · refine .inr ?_
          rw [deads_blk _ _ _ _ hid, if_neg (fun e'' : i = id => hid (by rw [← e'']; exact e')), if_pos e'])
      (fun i hi' => by rw [deads_blk _ _ _ _ hid, if_neg (fun e' => hi' (.inl e')), if_neg (fun e' => hi' (.inr e'))]) rfl rfl (.inr ⟨hkd, hi, rfl⟩) rfl rfl rfl
      (by simp [World.setRow]) (fun x _ hxb _ => by simp only [World.setRow, Array.getElem?_modify]; rw [if_neg (fun e => hxb e.symm)]) (setRow_heap w b c c' ty (0, 0) e2) (.inr ⟨id, .inl rfl, hown⟩)
      (by rw [hcs, e3]) (by rw [hlen']; exact e4) (fun q => e6.1 (List.eq_nil_of_length_eq_zero (by rw [← hlen', q]; rfl))) hz (fun r hr => by
        rcases List.mem_or_eq_of_mem_set hr with hr | rfl
        · exact hls r hr
        · rw [spliceL_length]; exact hrowl)
    have hfin : ∃ FF : Nat → Nat → Nat → Prop, ((own && o) = true → (∀ (i j : Nat) (_ : i < es.length) (_ : j < sz), OwnV w (c'.getD (i * sz + j) undef) (((es.set e (spliceL (es.getD e []) off vs')).getD i []).getD j .top) (FF i j)) ∧
        (∀ (i j i' j' x : Nat) (_ : i < es.length) (_ : j < sz) (_ : i' < es.length) (_ : j' < sz), FF i j x → FF i' j' x → i = i' ∧ j = j') ∧
        (∀ (i j : Nat) (_ : i < es.length) (_ : j < sz), ¬ FF i j b) ∧ ∀ (i j x : Nat) (_ : i < es.length) (_ : j < sz), FF i j x → ∃ t, (t = id ∨ t ∈ us) ∧ X.own x = some t) := by
      by_cases hoo : (own && o) = true
      · rw [Bool.and_eq_true] at hoo
        obtain ⟨ho1, ho2⟩ := hoo
        rcases e6.2 with ⟨_, FF, f1, f2, f3, f4⟩ | ⟨h7, _⟩
        · obtain ⟨GG, q1, q2, q3⟩ := p5 ho2 hnd
          have hF : ∀ i j x, i < es.length → j < sz → FF i j x → X.own x = some id := fun i j x hi' hj hx => (f4 x).2 (.inr ⟨i, j, hi', hj, hx⟩)
          obtain ⟨HH, hHH⟩ : ∃ HH : Nat → Nat → Nat → Prop, ∀ i j, HH i j = if i = e ∧ off ≤ j ∧ j < off + size then GG (j - off) else FF i j := ⟨fun i j => if i = e ∧ off ≤ j ∧ j < off + size then GG (j - off) else FF i j, fun _ _ => rfl⟩
          refine ⟨HH, fun _ => ⟨?_, ?_, ?_, ?_⟩⟩
          · intro i j hi' hj
            rcases hcase i j hi' hj with ⟨k1, k2, k3, k4, k5⟩ | ⟨k1, k2, k3⟩
            · rw [hHH, if_pos ⟨k1, k2, k3⟩, k4, k5]
              exact q1 _ (by omega)
            · rw [hHH, if_neg k1, k2, k3]
              exact f1 i j hi' hj
          · intro i j i' j' x h1 h2 h3 h4 hx hy
            by_cases c1 : i = e ∧ off ≤ j ∧ j < off + size
            · rw [hHH, if_pos c1] at hx
              by_cases c2 : i' = e ∧ off ≤ j' ∧ j' < off + size
              · rw [hHH, if_pos c2] at hy
                have := q3 _ _ x (by omega) (by omega) hx hy
                exact ⟨by omega, by omega⟩
              · rw [hHH, if_neg c2] at hy
                obtain ⟨t, t1, t2⟩ := q2 _ x (by omega) hx
                have := hF i' j' x h3 h4 hy
                rw [t2] at this; cases this
                exact absurd t1 hid
            · rw [hHH, if_neg c1] at hx
              by_cases c2 : i' = e ∧ off ≤ j' ∧ j' < off + size
              · rw [hHH, if_pos c2] at hy
                obtain ⟨t, t1, t2⟩ := q2 _ x (by omega) hy
                have := hF i j x h1 h2 hx
                rw [t2] at this; cases this
                exact absurd t1 hid
              · rw [hHH, if_neg c2] at hy
                exact f2 i j i' j' x h1 h2 h3 h4 hx hy
          · intro i j h1 h2 hx
            by_cases c1 : i = e ∧ off ≤ j ∧ j < off + size
            · rw [hHH, if_pos c1] at hx
              obtain ⟨t, t1, t2⟩ := q2 _ b (by omega) hx
              rw [hown] at t2; cases t2
              exact hid t1
            · rw [hHH, if_neg c1] at hx
              exact f3 i j h1 h2 hx
          · intro i j x h1 h2 hx
            by_cases c1 : i = e ∧ off ≤ j ∧ j < off + size
            · rw [hHH, if_pos c1] at hx
              obtain ⟨t, t1, t2⟩ := q2 _ x (by omega) hx
              exact ⟨t, .inr t1, t2⟩
            · rw [hHH, if_neg c1] at hx
              exact ⟨id, .inl rfl, hF i j x h1 h2 hx⟩
        · rw [h7] at ho1; cases ho1
      · exact ⟨fun _ _ _ => False, fun e' => absurd e' hoo⟩
    obtain ⟨FF, hfin⟩ := hfin
    have hstep : ∀ x, x ≠ b → (w.setRow b c').heap[x]? = w.heap[x]? := fun x hxb => by
      simp only [World.setRow, Array.getElem?_modify]; rw [if_neg (fun e => hxb e.symm)]
    obtain ⟨X', x1, x2, x3, _, x4⟩ := hset FF (fun ho => by
      obtain ⟨k1, k2, k3, k4⟩ := hfin ho
      rw [hlen']
      exact ⟨fun i j hi' hj => (k1 i j hi' hj).step (fun x hx => hstep x (fun e' => k3 i j hi' hj (e' ▸ hx))), k2, k3, k4⟩) (fun ho i j hi' hj => by
      rw [hlen'] at hi'
      rcases hcase i j hi' hj with ⟨k1, k2, k3, k4, k5⟩ | ⟨k1, k2, k3⟩
      · rw [k4, k5]
        refine (p4 (j - off) (by omega)).mono fun x hx => ?_
        rcases hx with hx | ⟨t, t1, t2⟩
        · exact ⟨fun e' => (by have := hx.1; rw [e', hown] at this; cases this), .inl hx⟩
        · exact ⟨fun e' => (by rw [e', hown] at t2; cases t2; exact hid t1), .inr ⟨t, .inr t1, t2⟩⟩
      · rw [k2, k3]
        rcases e6.2 with ⟨_, FF', f1, f2, f3, f4⟩ | ⟨_, _, f9⟩
        · exact (f1 i j hi' hj).reads.mono fun x hx => ⟨fun e' => f3 i j hi' hj (e' ▸ hx), .inr ⟨id, .inl rfl, (f4 x).2 (.inr ⟨i, j, hi', hj, hx⟩)⟩⟩
        · exact (f9 i j hi' hj).mono fun x hx => ⟨fun e' => (by have := hx.1; rw [e', hown] at this; cases this), .inl hx⟩)
    subst hc'
    exact ⟨X', c, ty, e2, hfit, x1, x3, x2, x4⟩

theorem R.hpEq {X : Ctx} {s s' : AState} {a : Act} {w : World} (h : R X s a w) (h1 : s'.nt = s.nt) (h2 : s'.fr = s.fr) (h3 : ∀ i, s'.blk i = s.blk i) : R X s' a w := by
  have hk : s'.kds = s.kds := by funext i; unfold AState.kds; rw [h3]
  refine ⟨h.nt.trans h1.symm, h.df, fun i => ?_, fun id => ?_, h.ow, h.os, h.tape, h.output, h.size, h.old, h.bx⟩
  · rw [hk]
    have : s'.get i = s.get i := by unfold AState.get; rw [h2]
    rw [this]; exact h.fr i
  · rw [hk, h3]; exact h.bl id

/-- A cell of an own row is given up. -/
theorem R.holed {X : Ctx} {s : AState} {a : Act} {w : World} (h : R X s a w) {id k j sz : Nat} {nn : Bool} {es : List (List AV)} (hb : s.blk id = .row true nn sz es) (hk : k < es.length) (hj : j < sz) :
    ∃ X' : Ctx, X'.base = X.base ∧ X'.at_ = X.at_ ∧ R X' { s with hp := (id, .hole nn sz es k j .top) :: s.hp } a w ∧ ∀ v av, VRel X s.kds w v av → VRel X' ({ s with hp := (id, .hole nn sz es k j .top) :: s.hp } : AState).kds w v av := by
  classical
  have hB := h.bl id
  rw [hb] at hB
  obtain ⟨hz, hl, hB⟩ := hB
  rcases hB with ⟨_, _, h3, _⟩ | ⟨b, c, ty, h1, h2, h3, h4, ht, h6⟩
  · rw [h3] at hk; exact absurd hk (by simp)
  rcases h6 with ⟨_, FF, f1, f2, f3, f4⟩ | ⟨h7, _⟩
  case inr => cases h7
  have hFi : ∀ x, FF k j x → X.own x = some id := fun x hx => (f4 x).2 (.inr ⟨k, j, hk, hj, hx⟩)
  let X' : Ctx := { X with own := fun x => if FF k j x then none else X.own x }
  have hX' : ∀ x, X'.own x = if FF k j x then none else X.own x := fun _ => rfl
  let s' : AState := { s with hp := (id, .hole nn sz es k j .top) :: s.hp }
  have hs' : ∀ i, s'.blk i = if i = id then .hole nn sz es k j .top else s.blk i := fun _ => rfl
  have hkds : s'.kds = s.kds := by
    funext i
    unfold AState.kds
    rw [hs']
    split
    · rename_i e; subst e; rw [hb]; rfl
    · rfl
  have hW : WStep X X' w w (fun i => i = id) := by
    refine ⟨rfl, rfl, rfl, rfl, Nat.le_refl _, ?_, fun _ _ => ⟨rfl, rfl⟩, ?_, ?_, fun _ _ => ⟨rfl, rfl⟩⟩
    · intro x _ hx
      refine ⟨rfl, ?_⟩
      rw [hX', if_neg (fun e => hx id rfl (hFi x e))]
    · intro x i hi hx
      rw [hX'] at hx
      split at hx
      · cases hx
      · exact hx
    · intro x i hx
      rw [hX'] at hx
      split at hx
      · cases hx
      · exact h.ow x i hx
  have hN : ∀ i, NameOk X X' s.kds s'.kds i := by
    intro i
    rw [hkds]
    by_cases hd : s.kds i = .dead
    · exact .inr (.inl hd)
    · exact .inr (.inr ⟨hd, rfl, rfl, rfl⟩)
  have hV : ∀ v av, VRel X s.kds w v av → VRel X' s'.kds w v av := fun v av hv => hv.step hN hW.sh
  refine ⟨X', rfl, rfl, h.step (T := fun i => i = id) (w' := w) hW h.nt h.df ?_ ?_ ?_ ?_, hV⟩
  · intro i hi
    show s'.blk i = _
    rw [hs', if_neg hi]
  · intro i _
    exact hN i
  · intro hV i
    exact hV _ _ (h.fr i)
  · intro hV i hi
    show BRel X' s'.kds w i (s'.blk i)
    subst hi
    rw [hs', if_pos rfl]
    obtain ⟨GG, hGG⟩ : ∃ GG : Nat → Nat → Nat → Prop, ∀ i' l' x, GG i' l' x ↔ ¬ (i' = k ∧ l' = j) ∧ FF i' l' x := ⟨fun i' l' x => ¬ (i' = k ∧ l' = j) ∧ FF i' l' x, fun _ _ _ => Iff.rfl⟩
    refine ⟨hz, hl, hk, hj, b, c, ty, h1, h2, h3, h4, .top _, GG, ?_, fun x hx => ((hGG _ _ _).1 hx).1 ⟨rfl, rfl⟩, ?_, ?_, ?_⟩
    · intro i' l' h5 h6 hne'
      exact (f1 i' l' h5 h6).congr fun x => (hGG _ _ _).trans ⟨fun e => e.2, fun e => ⟨hne', e⟩⟩
    · intro i1 l1 i2 l2 x g1 g2 g3 g4 g5 g6
      exact f2 i1 l1 i2 l2 x g1 g2 g3 g4 ((hGG _ _ _).1 g5).2 ((hGG _ _ _).1 g6).2
    · intro i1 l1 g1 g2 g3
      exact f3 i1 l1 g1 g2 ((hGG _ _ _).1 g3).2
    · intro x
      rw [hX']
      constructor
      · intro hx
        split at hx
        · cases hx
        · rename_i hn2
          rcases (f4 x).1 hx with e | ⟨i1, l1, g1, g2, g3⟩
          · exact .inl e
          · refine .inr ⟨i1, l1, g1, g2, (hGG _ _ _).2 ⟨fun e => ?_, g3⟩⟩
            obtain ⟨rfl, rfl⟩ := e
            exact hn2 g3
      · intro hx
        have hnF : ¬ FF k j x := by
          intro hF
          rcases hx with e | ⟨i1, l1, g1, g2, g3⟩
          · subst e; exact f3 k j hk hj hF
          · obtain ⟨g4, g5⟩ := (hGG _ _ _).1 g3
            exact g4 (f2 i1 l1 k j x g1 g2 hk hj g5 hF)
        rw [if_neg hnF]
        refine (f4 x).2 ?_
        rcases hx with e | ⟨i1, l1, g1, g2, g3⟩
        · exact .inl e
        · exact .inr ⟨i1, l1, g1, g2, ((hGG _ _ _).1 g3).2⟩

theorem lastK_spec : ∀ (vs acc : List AV) (K : List AV → AV → Prop), lastK acc vs K → ∃ l x, acc ++ vs = l ++ [x] ∧ K l x
  | [], acc, K, h => h.elim
  | [x], acc, K, h => ⟨acc, x, rfl, h⟩
  | x :: y :: r, acc, K, h => by
    obtain ⟨l, z, h1, h2⟩ := lastK_spec (y :: r) (acc ++ [x]) K h
    exact ⟨l, z, by rw [← h1]; simp, h2⟩

theorem setRow_twice (w : World) (b : Nat) (c c' : Array Value) : (w.setRow b c).setRow b c' = w.setRow b c' := by
  unfold World.setRow
  simp only [World.mk.injEq, and_true, true_and]
  refine Array.ext_getElem? fun i => ?_
  simp only [Array.getElem?_modify]
  by_cases e : b = i
  · simp only [e, if_true, Option.map_map]
    congr 1
    funext x
    cases x <;> rfl
  · simp [e]

theorem splice_two (c : Array Value) (l : List Value) (u : Value) (o : Nat) (h : o + l.length + 1 ≤ c.size) :
    ((((c.toList.take (o + 0) ++ l ++ c.toList.drop (o + 0 + l.length)).toArray).toList.take (o + l.length + 0) ++ [u] ++ ((c.toList.take (o + 0) ++ l ++ c.toList.drop (o + 0 + l.length)).toArray).toList.drop (o + l.length + 0 + 1)).toArray) =
    (c.toList.take (o + 0) ++ (l ++ [u]) ++ c.toList.drop (o + 0 + (l ++ [u]).length)).toArray := by
  have h1 : (c.toList.take o ++ l).length = o + l.length := by simp; omega
  congr 1
  simp only [Nat.add_zero, List.length_append, List.length_singleton, List.toList_toArray]
  rw [← List.append_assoc (c.toList.take o) l [u]]
  have e1 : (c.toList.take o ++ l ++ c.toList.drop (o + l.length)).take (o + l.length) = c.toList.take o ++ l := by
    rw [List.take_append_of_le_length (by omega), List.take_of_length_le (by omega)]
  have e2 : (c.toList.take o ++ l ++ c.toList.drop (o + l.length)).drop (o + l.length + 1) = c.toList.drop (o + (l.length + 1)) := by
    rw [List.drop_append, List.drop_of_length_le (by omega), List.nil_append, List.drop_drop, h1]
    congr 1
    omega
  rw [e1, e2]

theorem storeHoleK_sound {P : Program} {X : Ctx} {s : AState} {a : Act} {w : World} {t : TypeId} {size id e off sz : Nat} {own nn : Bool} {es : List (List AV)} {vs : List AV} {y : AV} {v u : Value} {K : AV → List (Nat × ABlk) → Prop} (h : R X s a w) (hv : VRel X s.kds w v (.elt id e off)) (hu : VRel X s.kds w u y)
    (hsz : (sizeOf t).run P w = .ok size w) (hb : s.blk id = .row own nn sz es) (hc : partCells y = some vs) (hK : storeHoleK s size id e off own nn sz es vs K) :
    ∃ ups X' w', (Instr.storeAt t v u).run P w = .ok () w' ∧ X'.base = X.base ∧ R X' { s with hp := ups ++ s.hp } a w' ∧ K .top ups := by
  obtain ⟨rfl, hl, hes, hle, hK⟩ := hK
  obtain ⟨l, x, hlx, hK2⟩ := lastK_spec _ _ _ hK
  clear hK
  rw [List.nil_append] at hlx
  subst hlx
  rw [List.length_append, List.length_singleton] at hl
  obtain ⟨g1, g2⟩ := hu.cells hc
  rw [List.length_append, List.length_singleton] at g1 g2
  have hul : u.cells.toList.length = size := by rw [Array.length_toList]; omega
  obtain ⟨l5, hl5⟩ : ∃ l5, l5 = u.cells.toList.take l.length := ⟨_, rfl⟩
  have hl5l : l5.length = l.length := by rw [hl5, List.length_take]; omega
  obtain ⟨z, hz⟩ : ∃ z, z = u.cells.getD l.length undef := ⟨_, rfl⟩
  have hcat : u.cells.toList = l5 ++ [z] := by
    have hlt : l.length < u.cells.toList.length := by omega
    have h1 : u.cells.toList = u.cells.toList.take (l.length + 1) := (List.take_of_length_le (by omega)).symm
    rw [hl5, hz, ← arr_getD, List.getD_eq_getElem?_getD, List.getElem?_eq_getElem hlt, Option.getD_some]
    refine h1.trans ?_
    rw [← List.take_append_getElem hlt]
  have hget5 : ∀ i, i < l.length → l5.getD i undef = u.cells.getD i undef := fun i hi => by
    rw [hl5, ← arr_getD, List.getD_eq_getElem?_getD, List.getD_eq_getElem?_getD, List.getElem?_take_of_lt hi]
  obtain ⟨vs', us, o, hK, p1, p2, p3, p4, p5⟩ := purLK_sound h l (fun i => l5.getD i undef) _ (fun i hi => by
    have h1 := g2 i (by omega)
    show VRel _ _ _ (l5.getD i undef) _
    rw [hget5 i hi]
    rwa [List.getD_eq_getElem?_getD, List.getElem?_append_left hi, ← List.getD_eq_getElem?_getD] at h1) hK2
  obtain ⟨rfl, hnd, hid, hK⟩ := hK
  have hz0 := g2 l.length (by omega)
  rw [← hz, List.getD_eq_getElem?_getD, List.getElem?_append_right (Nat.le_refl _), Nat.sub_self] at hz0
  change VRel _ _ _ z x at hz0
  cases x with
  | row i n =>
    obtain ⟨hi1, hi2, hK⟩ := hK
    have hkd : s.kds id = .row sz := by unfold AState.kds; rw [hb]; rfl
    obtain ⟨b, rfl, hi⟩ := hv.elt_inv hkd
    obtain ⟨X1, c, ty, e2, hfit, x1, x3, x2, x4⟩ := storeRow_core (size := l.length) (own := true) (nn := nn) (o := true) (lu := l5) (vs' := vs') (off := off) h hb hi hes (by omega) hl5l p1 p4 p5 hnd hid
    obtain ⟨c1, hc1⟩ : ∃ c1, c1 = (c.toList.take (e * sz + off + 0) ++ l5 ++ c.toList.drop (e * sz + off + 0 + l5.length)).toArray := ⟨_, rfl⟩
    rw [← hc1] at x2 x4
    have hz1 := x4 _ _ hz0
    obtain ⟨X2, y1, y2, y3, y4⟩ := x2.holed (id := id) (k := e) (j := off + (size - 1)) (nn := nn) (sz := sz) (es := es.set e (spliceL (es.getD e []) off vs')) (by rw [deads_blk _ _ _ _ hid, if_pos rfl]; rfl) (by rw [List.length_set]; exact hes) (by omega)
    have hz2 := y4 _ _ hz1
    obtain ⟨c2, ty2, z1, z2, z3⟩ := storeHole_core y3 (b := b) (by rw [y2]; exact x3) hz2 (nn := nn) (sz := sz) (k := e) (j := off + (size - 1)) (a0 := .top) (es := es.set e (spliceL (es.getD e []) off vs')) (by show getL ABlk.none ((id, _) :: _) id = _; rw [getL_cons, if_pos rfl])
    have hrow : (w.setRow b c1).heap[b]? = some (.cells c1 ty (0, 0)) := setRow_heap w b c c1 ty (0, 0) e2
    rw [hrow] at z1
    cases z1
    have hfit2 : e * sz + off + size ≤ c.size := by
      have hB := h.bl id
      rw [hb] at hB
      obtain ⟨hz, hls, hB⟩ := hB
      rcases hB with ⟨q1, _, q3, _⟩ | ⟨b', c', ty', q1, q2, q3, q4, q6⟩
      · rw [hi] at q1; cases q1
      · rw [hi] at q1; cases q1
        rw [e2] at q2; cases q2
        rw [q3]
        have h1 : (e + 1) * sz ≤ X.cap id * sz := Nat.mul_le_mul_right _ (by omega)
        have h2 : (e + 1) * sz = e * sz + sz := by rw [Nat.add_mul, Nat.one_mul]
        omega
    have hone : ∀ q ∈ u.cells.toList, q.oneCell' = true := by
      intro q hq
      rw [hcat] at hq
      rcases List.mem_append.1 hq with hq | hq
      · obtain ⟨j, hj, rfl⟩ := List.getElem_of_mem hq
        have := p3 j (by omega)
        rw [List.getD_eq_getElem?_getD, List.getElem?_eq_getElem hj] at this
        exact this
      · rw [List.mem_singleton] at hq; subst hq; exact hz0.one_row.2
    have hst := run_storeCells_at P b (e * sz + off) ty u.cells.toList 0 c w e2 (by rw [hul]; omega) hone
    have hsp := splice_two c l5 z (e * sz + off) (by omega)
    rw [← hc1, hl5l] at hsp
    rw [show e * sz + (off + (size - 1)) + 0 = e * sz + off + l.length + 0 by omega, hsp, setRow_twice, ← hcat] at z3
    refine ⟨_, X2, _, ?_, y1.trans x1, z3.hpEq rfl rfl (s' := { s with hp := ((id, ABlk.hole nn sz (es.set e (spliceL (es.getD e []) off vs')) e (off + (size - 1)) (.row i n)) :: us.map fun i => (i, ABlk.dead)) ++ s.hp }) (fun q => ?_), hK⟩
    · simp only [Instr.storeAt, Instr.sureAddr, Sem.run_bind, Sem.run_pure, Result.andThen_ok, storeVar, hsz, Sem.run_ite]
      rw [if_neg (by omega)]
      exact hst
    · rw [deads_blk _ _ _ _ hid]
      show _ = getL ABlk.none ((id, _) :: (id, _) :: (((id, _) :: us.map fun i => (i, ABlk.dead)) ++ s.hp)) q
      rw [getL_cons, getL_cons]
      have := deads_blk s id (.row (true && true) nn sz (es.set e (spliceL (es.getD e []) off vs'))) us hid q
      by_cases e' : q = id
      · rw [if_pos e', if_pos e']
      · rw [if_neg e', if_neg e', if_neg e']
        rw [if_neg e'] at this
        exact this.symm
  | _ => exact hK.elim

theorem storeEltK_sound {P : Program} {X : Ctx} {s : AState} {a : Act} {w : World} {t : TypeId} {size : Nat} {x y : AV} {v u : Value} {K : AV → List (Nat × ABlk) → Prop} (h : R X s a w) (hv : VRel X s.kds w v x) (hu : VRel X s.kds w u y)
    (hsz : (sizeOf t).run P w = .ok size w) (hK : storeEltK s size x y K) :
    ∃ ups X' w', (Instr.storeAt t v u).run P w = .ok () w' ∧ X'.base = X.base ∧ R X' { s with hp := ups ++ s.hp } a w' ∧ K .top ups := by
  unfold storeEltK at hK
  split at hK
  · rename_i id e off
    split at hK
    · rename_i own nn sz es hb
      split at hK
      · rename_i vs hc
        split at hK
        · exact storeHoleK_sound h hv hu hsz hb hc hK
        obtain ⟨hl, hes, hle, hK⟩ := hK
        obtain ⟨g1, g2⟩ := hu.cells hc
        have hul : u.cells.toList.length = size := by rw [Array.length_toList]; omega
        obtain ⟨vs', us, o, hK, p1, p2, p3, p4, p5⟩ := purLK_sound h vs (fun i => u.cells.toList.getD i undef) _ (fun i hi => by
          have := g2 i hi
          rwa [← arr_getD] at this) hK
        obtain ⟨hnd, hid, hK⟩ := hK
        have hkd : s.kds id = .row sz := by unfold AState.kds; rw [hb]; rfl
        obtain ⟨b, rfl, hi⟩ := hv.elt_inv hkd
        have hone : ∀ q ∈ u.cells.toList, q.oneCell' = true := by
          intro q hq
          obtain ⟨j, hj, rfl⟩ := List.getElem_of_mem hq
          have := p3 j (by omega)
          rw [List.getD_eq_getElem?_getD, List.getElem?_eq_getElem hj] at this
          exact this
        obtain ⟨X', c, ty, e2, hfit, x1, x3, x2, x4⟩ := storeRow_core h hb hi hes hle hul (by omega) p4 p5 hnd hid
        have hst := run_storeCells_at P b (e * sz + off) ty u.cells.toList 0 c w e2 (by rw [hul]; omega) hone
        refine ⟨_, X', _, ?_, x1, x2, hK⟩
        simp only [Instr.storeAt, Instr.sureAddr, Sem.run_bind, Sem.run_pure, Result.andThen_ok, storeVar, hsz, Sem.run_ite]
        rw [if_neg (by omega)]
        exact hst
      · exact hK.elim
    · rename_i nn sz es k j a0 hb
      obtain ⟨⟨rfl, rfl, rfl⟩, hK⟩ := hK
      split at hK
      · obtain ⟨w', g1, g2⟩ := storeHole_sound h hv hu hsz hb hu.one_row
        exact ⟨_, X, w', g1, rfl, g2, hK⟩
      · obtain ⟨w', g1, g2⟩ := storeHole_sound h hv hu hsz hb hu.one_sl
        exact ⟨_, X, w', g1, rfl, g2, hK⟩
      · exact hK.elim
    · exact hK.elim
  · exact hK.elim

end Go.Proofs.Yteebkimhfaodnaa

/- append: first what its source gives. -/
namespace Go.Proofs.Yteebkimhfaodnaa
open Go Go.RowKit

def flatRows (es : List (List AV)) : Bool := es.all fun r => r.all AV.flat

/-- The rows that a slice gives, the names used up, whether the rows are owned. 'flat': the elements are numbers or bools. -/
def srcK (s : AState) (flat : Bool) (x : AV) (K : List (List AV) → List Nat → Bool → Prop) : Prop :=
  match x with
  | .sl _ es => (match flat with
    | true => flatRows es = true ∧ K es [] true
    | false => K es [] false)
  | .row id n => (match s.blk id with
    | .row own _ _ es => (match flat, own with
      | true, _ => n ≤ es.length ∧ flatRows (es.take n) = true ∧ K (es.take n) [] true
      | false, true => n = es.length ∧ K es [id] true
      | false, false => n ≤ es.length ∧ K (es.take n) [] false)
    | .fro _ es => (match flat with
      | true => n ≤ es.length ∧ flatRows (es.take n) = true ∧ K (es.take n) [] true
      | false => n ≤ es.length ∧ K (es.take n) [] false)
    | _ => False)
  | .vw id lo m => (match s.blk id with
    | .row _ _ _ es => (match flat with
      | true => lo + m ≤ es.length ∧ flatRows ((es.drop lo).take m) = true ∧ K ((es.drop lo).take m) [] true
      | false => False)
    | _ => False)
  | _ => False

structure Srced (X : Ctx) (s : AState) (w : World) (v : Value) (rows : List (List AV)) (us : List Nat) (own : Bool) (a : Option Addr) (c : Nat) (f : Nat → Nat → Value) : Prop where
  val : v = .slice a rows.length c
  cell : rows ≠ [] → ∃ b o sz, a = some ⟨b, o, none⟩ ∧ 0 < sz ∧ (∀ r, r ∈ rows → r.length = sz) ∧ ∀ (i j : Nat) (_ : i < rows.length) (_ : j < sz), w.cell? ⟨b, o + i * sz + j, none⟩ = some (f i j)
  reads : ∀ (i j : Nat) (_ : i < rows.length) (_ : j < (rows.getD i []).length), Reads w (PSet X us) (f i j) ((rows.getD i []).getD j .top)
  used : ∀ i, i ∈ us → ∃ own nn sz es, s.blk i = .row own nn sz es
  nodup : us.Nodup
  owned : own = true → ∃ FF : Nat → Nat → Nat → Prop, (∀ (i j : Nat) (_ : i < rows.length) (_ : j < (rows.getD i []).length), OwnV w (f i j) ((rows.getD i []).getD j .top) (FF i j)) ∧
    (∀ (i j x : Nat) (_ : i < rows.length) (_ : j < (rows.getD i []).length), FF i j x → ∃ t, t ∈ us ∧ X.own x = some t) ∧
    ∀ (i j i' j' x : Nat) (_ : i < rows.length) (_ : j < (rows.getD i []).length) (_ : i' < rows.length) (_ : j' < (rows.getD i' []).length), FF i j x → FF i' j' x → i = i' ∧ j = j'

theorem flat_own {w : World} {S : Nat → Prop} {v : Value} {c : AV} (h : Reads w S v c) (hf : c.flat = true) : OwnV w v c (fun _ => False) := by
  cases h with
  | int k n => exact .int _ _ _ (fun _ e => e)
  | bool b => exact .bool _ _ (fun _ e => e)
  | _ => cases hf

/-- Rows of numbers and bools are owned by whoever holds them. -/
theorem flat_rows_own {X : Ctx} {w : World} {S : Nat → Prop} {rows : List (List AV)} {us : List Nat} {f : Nat → Nat → Value} (hf : flatRows rows = true)
    (hr : ∀ (i j : Nat) (_ : i < rows.length) (_ : j < (rows.getD i []).length), Reads w S (f i j) ((rows.getD i []).getD j .top)) :
    ∃ FF : Nat → Nat → Nat → Prop, (∀ (i j : Nat) (_ : i < rows.length) (_ : j < (rows.getD i []).length), OwnV w (f i j) ((rows.getD i []).getD j .top) (FF i j)) ∧
    (∀ (i j x : Nat) (_ : i < rows.length) (_ : j < (rows.getD i []).length), FF i j x → ∃ t, t ∈ us ∧ X.own x = some t) ∧
    ∀ (i j i' j' x : Nat) (_ : i < rows.length) (_ : j < (rows.getD i []).length) (_ : i' < rows.length) (_ : j' < (rows.getD i' []).length), FF i j x → FF i' j' x → i = i' ∧ j = j' := by
  refine ⟨fun _ _ _ => False, fun i j hi hj => flat_own (hr i j hi hj) ?_, fun _ _ _ _ _ e => e.elim, fun _ _ _ _ _ _ _ _ _ e => e.elim⟩
  have h1 := List.all_eq_true.1 hf _ (getD_mem rows i [] hi)
  exact List.all_eq_true.1 h1 _ (getD_mem _ j .top hj)

theorem take_getD {α : Type} (l : List α) (n i : Nat) (d : α) (h : i < n) : (l.take n).getD i d = l.getD i d := by
  rw [List.getD_eq_getElem?_getD, List.getD_eq_getElem?_getD, List.getElem?_take, if_pos h]

/-- A frozen or immutable slice as a source. -/
theorem Srced.ofReads {X : Ctx} {s : AState} {w : World} {v : Value} {nn : Option Bool} {es : List (List AV)} {own : Bool} (h : Reads w X.Sh v (.sl nn es)) (ho : own = true → flatRows es = true) : ∃ a c f, Srced X s w v es [] own a c f := by
  generalize hb : AV.sl nn es = bb at h
  cases h with
  | nil nn' hn =>
    cases hb
    exact ⟨none, 0, fun _ _ => undef, rfl, fun e => absurd rfl e, by simp, by simp, by simp, fun _ => ⟨fun _ _ _ => False, by simp, by simp, by simp⟩⟩
  | empty a c nn' hn =>
    cases hb
    exact ⟨some a, c, fun _ _ => undef, rfl, fun e => absurd rfl e, by simp, by simp, by simp, fun _ => ⟨fun _ _ _ => False, by simp, by simp, by simp⟩⟩
  | slice b o cap sz nn' es' f hn hsz hz hS hcap hc hr =>
    cases hb
    have hr' : ∀ (i j : Nat) (_ : i < es.length) (_ : j < (es.getD i []).length), Reads w X.Sh (f i j) ((es.getD i []).getD j .top) := fun i j hi hj => hr i j hi (by rwa [hsz _ (getD_mem es i [] hi)] at hj)
    exact ⟨some ⟨b, o, none⟩, cap, f, rfl, fun _ => ⟨b, o, sz, rfl, hz, hsz, hc⟩, fun i j hi hj => (hr' i j hi hj).mono fun x hx => .inl hx, by simp, by simp, fun e => flat_rows_own (ho e) hr'⟩
  | _ => cases hb

theorem flat_reads {w : World} {S S' : Nat → Prop} {v : Value} {c : AV} (h : Reads w S v c) (hf : c.flat = true) : Reads w S' v c := by
  cases h with
  | int k n => exact .int _ _
  | bool b => exact .bool _
  | _ => cases hf

theorem Srced.nil {X : Ctx} {s : AState} {w : World} {own : Bool} : Srced X s w (.slice none 0 0) [] [] own none 0 (fun _ _ => undef) :=
  ⟨rfl, fun e => absurd rfl e, by simp, by simp, by simp, fun _ => ⟨fun _ _ _ => False, by simp, by simp, by simp⟩⟩

theorem srcK_sound {X : Ctx} {s : AState} {a : Act} {w : World} {flat : Bool} {x : AV} {v : Value} {K : List (List AV) → List Nat → Bool → Prop} (h : R X s a w) (hv : VRel X s.kds w v x) (hK : srcK s flat x K) :
    ∃ rows us own p c f, Srced X s w v rows us own p c f ∧ K rows us own := by
  unfold srcK at hK
  split at hK
  · rename_i nn es
    split at hK
    · obtain ⟨p, c, f, g⟩ := Srced.ofReads (s := s) (own := true) hv.sl_inv (fun _ => hK.1)
      exact ⟨_, _, _, p, c, f, g, hK.2⟩
    · obtain ⟨p, c, f, g⟩ := Srced.ofReads (s := s) (own := false) hv.sl_inv (fun e => by cases e)
      exact ⟨_, _, _, p, c, f, g, hK⟩
  · rename_i id n
    split at hK
    · rename_i own nn sz es hb
      have hkd : s.kds id = .row sz := by unfold AState.kds; rw [hb]; rfl
      have hB := h.bl id
      rw [hb] at hB
      obtain ⟨hz, hl, hB⟩ := hB
      rcases hv.row_inv hkd with ⟨b, rfl, hi⟩ | ⟨rfl, rfl, hi⟩
      · rcases hB with ⟨e1, _⟩ | ⟨b', c, ty, e1, e2, e3, e4, e6⟩
        · rw [hi] at e1; cases e1
        · rw [hi] at e1; cases e1
          have hcell : ∀ m, m ≤ es.length → ∀ (i j : Nat) (_ : i < m) (_ : j < sz), w.cell? ⟨b, 0 + i * sz + j, none⟩ = some (c.getD (i * sz + j) undef) := by
            intro m hm i j hi' hj
            rw [Nat.zero_add]
            exact getD_cell e2 (by rw [e3]; exact mul_lt_of hi' hj (by omega))
          have hrd : ∀ (i j : Nat) (_ : i < es.length) (_ : j < sz), Reads w (PSet X [id]) (c.getD (i * sz + j) undef) ((es.getD i []).getD j .top) := by
            intro i j hi' hj
            rcases e6.2 with ⟨_, FF, f1, f2, f3, f4⟩ | ⟨_, _, f9⟩
            · exact (f1 i j hi' hj).reads.mono fun x hx => .inr ⟨id, by simp, (f4 x).2 (.inr ⟨i, j, hi', hj, hx⟩)⟩
            · exact (f9 i j hi' hj).mono fun x hx => .inl hx
          have hlt : ∀ m, m ≤ es.length → (es.take m).length = m := fun m hm => by rw [List.length_take]; omega
          have hgt : ∀ m i, i < m → (es.take m).getD i [] = es.getD i [] := fun m i hi' => take_getD es m i [] hi'
          have hlr : ∀ i, i < es.length → (es.getD i []).length = sz := fun i hi' => hl _ (getD_mem es i [] hi')
          have hpre : ∀ (own' : Bool), n ≤ es.length → (∀ (i j : Nat) (_ : i < n) (_ : j < sz), Reads w (PSet X []) (c.getD (i * sz + j) undef) ((es.getD i []).getD j .top)) → (own' = true → flatRows (es.take n) = true) →
              Srced X s w (.slice (some ⟨b, 0, none⟩) n (X.cap id)) (es.take n) [] own' (some ⟨b, 0, none⟩) (X.cap id) (fun i j => c.getD (i * sz + j) undef) := by
            intro own' hn hr ho
            have hr' : ∀ (i j : Nat) (_ : i < (es.take n).length) (_ : j < ((es.take n).getD i []).length), Reads w (PSet X []) (c.getD (i * sz + j) undef) (((es.take n).getD i []).getD j .top) := by
              intro i j hi' hj
              rw [hlt n hn] at hi'
              rw [hgt n i hi'] at hj ⊢
              rw [hlr i (by omega)] at hj
              exact hr i j hi' hj
            refine ⟨by rw [hlt n hn], fun _ => ⟨b, 0, sz, rfl, hz, fun r hr => hl r (List.mem_of_mem_take hr), fun i j hi' hj => ?_⟩, hr', by simp, by simp, fun e => flat_rows_own (ho e) hr'⟩
            rw [hlt n hn] at hi'
            exact hcell n hn i j hi' hj
          have hflat : n ≤ es.length → flatRows (es.take n) = true → ∀ (i j : Nat) (_ : i < n) (_ : j < sz), Reads w (PSet X []) (c.getD (i * sz + j) undef) ((es.getD i []).getD j .top) := by
            intro hn hf i j hi' hj
            refine flat_reads (hrd i j (by omega) hj) ?_
            have h1 := List.all_eq_true.1 hf _ (getD_mem (es.take n) i [] (by rw [hlt n hn]; exact hi'))
            rw [hgt n i hi'] at h1
            exact List.all_eq_true.1 h1 _ (getD_mem (es.getD i []) j AV.top (by rw [hlr i (by omega)]; exact hj))
          split at hK
          · obtain ⟨hn, hf, hK⟩ := hK
            exact ⟨_, _, _, _, _, _, hpre true hn (hflat hn hf) (fun _ => hf), hK⟩
          · obtain ⟨hn, hK⟩ := hK
            rcases e6.2 with ⟨_, FF, f1, f2, f3, f4⟩ | ⟨e7, _⟩
            · refine ⟨_, _, _, some ⟨b, 0, none⟩, X.cap id, fun i j => c.getD (i * sz + j) undef, ⟨by rw [hn], fun _ => ⟨b, 0, sz, rfl, hz, hl, hcell _ (Nat.le_refl _)⟩, ?_, ?_, by simp, fun _ => ⟨FF, ?_, ?_, ?_⟩⟩, hK⟩
              · intro i j hi' hj
                rw [hlr i hi'] at hj
                exact hrd i j hi' hj
              · intro i hi'
                rw [List.mem_singleton] at hi'; subst hi'
                exact ⟨_, _, _, _, hb⟩
              · intro i j hi' hj
                rw [hlr i hi'] at hj
                exact f1 i j hi' hj
              · intro i j x hi' hj hx
                rw [hlr i hi'] at hj
                exact ⟨id, by simp, (f4 x).2 (.inr ⟨i, j, hi', hj, hx⟩)⟩
              · intro i j i' j' x h1 h2 h3 h4
                rw [hlr i h1] at h2
                rw [hlr i' h3] at h4
                exact f2 i j i' j' x h1 h2 h3 h4
            · cases e7
          · obtain ⟨hn, hK⟩ := hK
            refine ⟨_, _, _, _, _, _, hpre false hn ?_ (fun e => by cases e), hK⟩
            rcases e6.2 with ⟨e7, _⟩ | ⟨_, _, f9⟩
            · cases e7
            · exact fun i j hi' hj => (f9 i j (by omega) hj).mono fun x hx => .inl hx
      · -- a nil row
        have hes : es = [] := by
          rcases hB with ⟨_, _, e3, _⟩ | ⟨b', _, _, e1, _⟩
          · exact e3
          · rw [hi] at e1; cases e1
        subst hes
        split at hK
        · exact ⟨_, _, _, _, _, _, Srced.nil, hK.2.2⟩
        · refine ⟨_, _, _, none, 0, fun _ _ => undef, ⟨rfl, fun e => absurd rfl e, by simp, ?_, by simp, fun _ => ⟨fun _ _ _ => False, by simp, by simp, by simp⟩⟩, hK.2⟩
          intro i hi'
          rw [List.mem_singleton] at hi'; subst hi'
          exact ⟨_, _, _, _, hb⟩
        · exact ⟨_, _, _, _, _, _, Srced.nil, hK.2⟩
    · rename_i sz es hb
      have hkd : s.kds id = .row sz := by unfold AState.kds; rw [hb]; rfl
      have hB := h.bl id
      rw [hb] at hB
      obtain ⟨hz, hl, ho, hB⟩ := hB
      have key : n ≤ es.length → Reads w X.Sh v (.sl none (es.take n)) := by
        intro hn
        rcases hv.row_inv hkd with ⟨b, rfl, hi⟩ | ⟨rfl, rfl, hi⟩
        · rcases hB with ⟨e1, _⟩ | ⟨b', c, ty, e1, e2, e3, e4, e6, e7⟩
          · rw [hi] at e1; cases e1
          · rw [hi] at e1; cases e1
            have hlt : (es.take n).length = n := by rw [List.length_take]; omega
            refine rowReads e2 e3 (by omega) hz (fun r hr => hl r (List.mem_of_mem_take hr)) hlt.symm (by simp) e6 (fun i j hi' hj => ?_)
            rw [hlt] at hi'
            rw [take_getD es n i [] hi']
            exact e7 i j (by omega) hj
        · rw [List.take_zero]; exact .nil _ (by simp)
      split at hK
      · obtain ⟨hn, hf, hK⟩ := hK
        obtain ⟨p, c, f, g⟩ := Srced.ofReads (s := s) (own := true) (key hn) (fun _ => hf)
        exact ⟨_, _, _, p, c, f, g, hK⟩
      · obtain ⟨hn, hK⟩ := hK
        obtain ⟨p, c, f, g⟩ := Srced.ofReads (s := s) (own := false) (key hn) (fun e => by cases e)
        exact ⟨_, _, _, p, c, f, g, hK⟩
    · exact hK.elim
  · rename_i id lo m
    split at hK
    · rename_i own nn sz es hb
      split at hK
      · obtain ⟨hm, hf, hK⟩ := hK
        have hkd : s.kds id = .row sz := by unfold AState.kds; rw [hb]; rfl
        have hB := h.bl id
        rw [hb] at hB
        obtain ⟨hz, hl, hB⟩ := hB
        have hlt : ((es.drop lo).take m).length = m := by rw [List.length_take, List.length_drop]; omega
        rcases hv.vw_inv hkd with ⟨b, rfl, hi⟩ | ⟨rfl, rfl, rfl, hi⟩
        · rcases hB with ⟨e1, _⟩ | ⟨b', c, ty, e1, e2, e3, e4, e6⟩
          · rw [hi] at e1; cases e1
          · rw [hi] at e1; cases e1
            have hgt : ∀ i, i < m → ((es.drop lo).take m).getD i [] = es.getD (lo + i) [] := fun i hi' => by
              rw [take_getD _ _ _ _ hi', List.getD_eq_getElem?_getD, List.getElem?_drop, ← List.getD_eq_getElem?_getD]
            have hlr : ∀ i, i < es.length → (es.getD i []).length = sz := fun i hi' => hl _ (getD_mem es i [] hi')
            have hrd : ∀ (i j : Nat) (_ : i < es.length) (_ : j < sz), Reads w (PSet X [id]) (c.getD (i * sz + j) undef) ((es.getD i []).getD j .top) := by
              intro i j hi' hj
              rcases e6.2 with ⟨_, FF, f1, f2, f3, f4⟩ | ⟨_, _, f9⟩
              · exact (f1 i j hi' hj).reads.mono fun x hx => .inr ⟨id, by simp, (f4 x).2 (.inr ⟨i, j, hi', hj, hx⟩)⟩
              · exact (f9 i j hi' hj).mono fun x hx => .inl hx
            have hr' : ∀ (i j : Nat) (_ : i < ((es.drop lo).take m).length) (_ : j < (((es.drop lo).take m).getD i []).length), Reads w (PSet X []) (c.getD ((lo + i) * sz + j) undef) ((((es.drop lo).take m).getD i []).getD j .top) := by
              intro i j hi' hj
              have h1 := List.all_eq_true.1 hf _ (getD_mem ((es.drop lo).take m) i [] hi')
              have h2 := List.all_eq_true.1 h1 _ (getD_mem _ j AV.top hj)
              rw [hlt] at hi'
              rw [hgt i hi'] at hj h2 ⊢
              rw [hlr (lo + i) (by omega)] at hj
              exact flat_reads (hrd (lo + i) j (by omega) hj) h2
            refine ⟨_, _, _, _, _, fun i j => c.getD ((lo + i) * sz + j) undef, ⟨by rw [hlt], fun hne => ⟨b, lo * sz, sz, ?_, hz, fun r hr => hl r (List.mem_of_mem_drop (List.mem_of_mem_take hr)), fun i j hi' hj => ?_⟩, hr', by simp, by simp, fun _ => flat_rows_own hf hr'⟩, hK⟩
            · have h0 := List.length_pos_iff.2 hne
              rw [hlt] at h0
              rw [if_neg (by omega)]
            · rw [hlt] at hi'
              have e5 : lo * sz + i * sz + j = (lo + i) * sz + j := by rw [Nat.add_mul]
              rw [e5]
              exact getD_cell e2 (by rw [e3]; exact mul_lt_of (by omega) hj (by omega : es.length ≤ X.cap id))
        · have e0 : (es.drop 0).take 0 = [] := List.take_zero
          rw [e0] at hK
          exact ⟨_, _, _, _, _, _, Srced.nil, hK⟩
      · exact hK.elim
    · exact hK.elim
  · exact hK.elim

end Go.Proofs.Yteebkimhfaodnaa

/- append: the machine's arms, said of a source's cells. -/
namespace Go.Proofs.Yteebkimhfaodnaa
open Go Go.RowKit

theorem getD_append_left {α : Type} (x y : List α) (i : Nat) (d : α) (h : i < x.length) : (x ++ y).getD i d = x.getD i d := by
  rw [List.getD_eq_getElem?_getD, List.getD_eq_getElem?_getD, List.getElem?_append_left h]

theorem getD_append_right {α : Type} (x y : List α) (i : Nat) (d : α) (h : x.length ≤ i) : (x ++ y).getD i d = y.getD (i - x.length) d := by
  rw [List.getD_eq_getElem?_getD, List.getD_eq_getElem?_getD, List.getElem?_append_right h]

/-- The cells of m rows in one list. -/
def cellsL (f : Nat → Nat → Value) (sz m : Nat) : List Value := (List.range (m * sz)).map fun k => f (k / sz) (k % sz)

theorem cellsL_length (f : Nat → Nat → Value) (sz m : Nat) : (cellsL f sz m).length = m * sz := by simp [cellsL]

theorem cellsL_get (f : Nat → Nat → Value) {sz m i j : Nat} (hi : i < m) (hj : j < sz) : (cellsL f sz m).getD (i * sz + j) undef = f i j := by
  have hlt : i * sz + j < m * sz := mul_lt_of hi hj (Nat.le_refl _)
  have h1 : (i * sz + j) / sz = i := by
    rw [Nat.add_comm, Nat.add_mul_div_right _ _ (by omega), Nat.div_eq_of_lt hj, Nat.zero_add]
  have h2 : (i * sz + j) % sz = j := by
    rw [Nat.add_comm, Nat.add_mul_mod_self_right]; exact Nat.mod_eq_of_lt hj
  simp [cellsL, List.getD_eq_getElem?_getD, hlt, h1, h2]

theorem cellsL_at {w : World} {b o sz m : Nat} {f : Nat → Nat → Value} (h : ∀ (i j : Nat) (_ : i < m) (_ : j < sz), w.cell? ⟨b, o + i * sz + j, none⟩ = some (f i j)) :
    ∀ (k : Nat) (v : Value), (cellsL f sz m)[k]? = some v → w.cell? ((⟨b, o, none⟩ : Addr).add k) = some v := by
  intro k v hk
  have hlt : k < m * sz := by
    have := (List.getElem?_eq_some_iff.1 hk).1
    rwa [cellsL_length] at this
  have hsz : 0 < sz := by
    rcases Nat.eq_zero_or_pos sz with e | e
    · rw [e, Nat.mul_zero] at hlt; omega
    · exact e
  have hd : k / sz < m := Nat.div_lt_of_lt_mul (by rwa [Nat.mul_comm] at hlt)
  have hm := Nat.mod_lt k hsz
  have e : k / sz * sz + k % sz = k := by rw [Nat.mul_comm]; exact Nat.div_add_mod k sz
  have h1 := h (k / sz) (k % sz) hd hm
  rw [Nat.add_assoc, e] at h1
  rw [addr_add, h1]
  have h2 := cellsL_get f hd hm
  rw [e, List.getD_eq_getElem?_getD, hk] at h2
  rw [← h2]; rfl

/-- There is room: written in place. -/
theorem run_append_room2 {P : Program} (w : World) (t ty e ty' : TypeId) (i : TypeInfo) (ht : P.underlying t = some (.slice e)) (hi : P.info? e = some i)
    (g sLen sCap : Nat) (cur : Array Value) (hg : w.heap[g]? = some (.cells cur ty' (0, 0)))
    (a : Addr) (m c : Nat) (news : List Value) (hl : news.length = m * i.size) (hnews : ∀ j u, news[j]? = some u → w.cell? (a.add j) = some u) (h1 : ∀ u ∈ news, u.oneCell' = true)
    (hroom : sLen + m ≤ sCap) (hfit : sLen * i.size + news.length ≤ cur.size) :
    (Builtin.append_ #[t, t] ty #[.slice (some ⟨g, 0, none⟩) sLen sCap, .slice (some a) m c]).run P w =
      .ok (.slice (some ⟨g, 0, none⟩) (sLen + m) sCap) (w.setRow g (cur.toList.take (sLen * i.size) ++ news ++ cur.toList.drop (sLen * i.size + news.length)).toArray) := by
  have hf := run_firstCells_some (P := P) w i.size m a m c news hl hnews
  have hst := run_storeCells_at P g (sLen * i.size) ty' news 0 cur w hg (by simpa using hfit) h1
  simp only [Nat.add_zero] at hst
  simp [Builtin.append_, run_underlying ht, sizeOf, typeInfo, hi, Builtin.lenOf, hroom, hf, Addr.add_lit, hst]

end Go.Proofs.Yteebkimhfaodnaa

/- append: two sources behind each other. -/
namespace Go.Proofs.Yteebkimhfaodnaa
open Go Go.RowKit

/-- What is read of rows, and what of them is owned; the block b is no part of it. -/
structure Rowed (X : Ctx) (s : AState) (w : World) (b : Nat) (rows : List (List AV)) (us : List Nat) (own : Bool) (f : Nat → Nat → Value) : Prop where
  reads : ∀ (i j : Nat) (_ : i < rows.length) (_ : j < (rows.getD i []).length), Reads w (fun x => x ≠ b ∧ PSet X us x) (f i j) ((rows.getD i []).getD j .top)
  used : ∀ i, i ∈ us → ∃ own nn sz es, s.blk i = .row own nn sz es
  nodup : us.Nodup
  owned : own = true → ∃ FF : Nat → Nat → Nat → Prop, (∀ (i j : Nat) (_ : i < rows.length) (_ : j < (rows.getD i []).length), OwnV w (f i j) ((rows.getD i []).getD j .top) (FF i j)) ∧
    (∀ (i j x : Nat) (_ : i < rows.length) (_ : j < (rows.getD i []).length), FF i j x → x ≠ b ∧ ∃ t, t ∈ us ∧ X.own x = some t) ∧
    ∀ (i j i' j' x : Nat) (_ : i < rows.length) (_ : j < (rows.getD i []).length) (_ : i' < rows.length) (_ : j' < (rows.getD i' []).length), FF i j x → FF i' j' x → i = i' ∧ j = j'

theorem Srced.rowed {X : Ctx} {s : AState} {a : Act} {w : World} {b : Nat} {v : Value} {rows : List (List AV)} {us : List Nat} {own : Bool} {p : Option Addr} {c : Nat} {f : Nat → Nat → Value} (hR : R X s a w) (h : Srced X s w v rows us own p c f)
    (hb : b = w.heap.size ∨ ∃ id, X.own b = some id ∧ id ∉ us) : Rowed X s w b rows us own f := by
  have hne : ∀ x t, t ∈ us → X.own x = some t → x ≠ b := by
    intro x t ht hx e
    rcases hb with e' | ⟨id, h1, h2⟩
    · have := (hR.ow x t hx).1; omega
    · rw [e, h1] at hx; cases hx; exact h2 ht
  refine ⟨fun i j hi hj => ?_, h.used, h.nodup, fun ho => ?_⟩
  · refine (h.reads i j hi hj).step (fun x hx hlt => ⟨rfl, ?_, hx⟩)
    rcases hx with hx | ⟨t, t1, t2⟩
    · rcases hb with e' | ⟨id, h1, h2⟩
      · omega
      · intro e; have := hx.1; rw [e, h1] at this; cases this
    · exact hne x t t1 t2
  · obtain ⟨FF, a1, a2, a3⟩ := h.owned ho
    refine ⟨FF, a1, fun i j x hi hj hx => ?_, a3⟩
    obtain ⟨t, t1, t2⟩ := a2 i j x hi hj hx
    exact ⟨hne x t t1 t2, t, t1, t2⟩

theorem Rowed.append {X : Ctx} {s : AState} {w : World} {b : Nat} {r1 r2 : List (List AV)} {u1 u2 : List Nat} {o1 o2 : Bool} {f1 f2 : Nat → Nat → Value} (h1 : Rowed X s w b r1 u1 o1 f1) (h2 : Rowed X s w b r2 u2 o2 f2) (hd : (u1 ++ u2).Nodup) :
    Rowed X s w b (r1 ++ r2) (u1 ++ u2) (o1 && o2) (fun i => if i < r1.length then f1 i else f2 (i - r1.length)) := by
  obtain ⟨_, _, hdis⟩ := List.nodup_append.1 hd
  have hget : ∀ i, (r1 ++ r2).getD i [] = if i < r1.length then r1.getD i [] else r2.getD (i - r1.length) [] := by
    intro i
    by_cases h : i < r1.length
    · rw [if_pos h, getD_append_left _ _ _ _ h]
    · rw [if_neg h, getD_append_right _ _ _ _ (by omega)]
  refine ⟨?_, ?_, hd, ?_⟩
  · intro i j hi hj
    rw [hget] at hj ⊢
    by_cases h : i < r1.length
    · rw [if_pos h] at hj ⊢
      simp only [h, if_true]
      exact (h1.reads i j h hj).mono fun x hx => ⟨hx.1, hx.2.mono fun t ht => List.mem_append.2 (.inl ht)⟩
    · rw [if_neg h] at hj ⊢
      simp only [h, if_false]
      rw [List.length_append] at hi
      exact (h2.reads (i - r1.length) j (by omega) hj).mono fun x hx => ⟨hx.1, hx.2.mono fun t ht => List.mem_append.2 (.inr ht)⟩
  · intro i hi
    rcases List.mem_append.1 hi with e | e
    · exact h1.used i e
    · exact h2.used i e
  · intro ho
    rw [Bool.and_eq_true] at ho
    obtain ⟨F, a1, a2, a3⟩ := h1.owned ho.1
    obtain ⟨G, b1, b2, b3⟩ := h2.owned ho.2
    obtain ⟨HH, hHH⟩ : ∃ HH : Nat → Nat → Nat → Prop, ∀ i, HH i = if i < r1.length then F i else G (i - r1.length) := ⟨fun i => if i < r1.length then F i else G (i - r1.length), fun _ => rfl⟩
    refine ⟨HH, ?_, ?_, ?_⟩
    · intro i j hi hj
      rw [hget] at hj ⊢
      rw [hHH]
      by_cases h : i < r1.length
      · rw [if_pos h] at hj
        simp only [h, if_true]
        exact a1 i j h hj
      · rw [if_neg h] at hj
        simp only [h, if_false]
        rw [List.length_append] at hi
        exact b1 (i - r1.length) j (by omega) hj
    · intro i j x hi hj hx
      rw [hget] at hj
      rw [hHH] at hx
      by_cases h : i < r1.length
      · rw [if_pos h] at hj hx
        obtain ⟨e0, t, e1, e2⟩ := a2 i j x h hj hx
        exact ⟨e0, t, List.mem_append.2 (.inl e1), e2⟩
      · rw [if_neg h] at hj hx
        rw [List.length_append] at hi
        obtain ⟨e0, t, e1, e2⟩ := b2 _ j x (by omega) hj hx
        exact ⟨e0, t, List.mem_append.2 (.inr e1), e2⟩
    · intro i j i' j' x hi hj hi' hj' hx hy
      rw [hget] at hj hj'
      rw [hHH] at hx hy
      rw [List.length_append] at hi hi'
      by_cases h : i < r1.length
      · rw [if_pos h] at hj hx
        by_cases h' : i' < r1.length
        · rw [if_pos h'] at hj' hy
          exact a3 i j i' j' x h hj h' hj' hx hy
        · rw [if_neg h'] at hj' hy
          obtain ⟨_, t, e1, e2⟩ := a2 i j x h hj hx
          obtain ⟨_, t', e3, e4⟩ := b2 _ j' x (by omega) hj' hy
          rw [e2] at e4; cases e4
          exact absurd rfl (hdis t e1 t e3)
      · rw [if_neg h] at hj hx
        by_cases h' : i' < r1.length
        · rw [if_pos h'] at hj' hy
          obtain ⟨_, t, e1, e2⟩ := b2 _ j x (by omega) hj hx
          obtain ⟨_, t', e3, e4⟩ := a2 i' j' x h' hj' hy
          rw [e2] at e4; cases e4
          exact absurd rfl (hdis t e3 t e1)
        · rw [if_neg h'] at hj' hy
          have := b3 _ j _ j' x (by omega) hj (by omega) hj' hx hy
          exact ⟨by omega, this.2⟩

end Go.Proofs.Yteebkimhfaodnaa

/- append: the row behind it. -/
namespace Go.Proofs.Yteebkimhfaodnaa
open Go Go.RowKit

theorem R.newRow {X : Ctx} {s : AState} {a : Act} {w w' : World} (h : R X s a w) {d b cap sz : Nat} {rows : List (List AV)} {us : List Nat} {own nn : Bool} {f : Nat → Nat → Value} {c : Array Value} {ty : TypeId}
    (hd : s.blk d = .none) (h9 : nF d) (hr : Rowed X s w b rows us own f) (hl : ∀ r, r ∈ rows → r.length = sz) (hz : 0 < sz)
    (hos : w'.os = w.os) (htape : w'.tape = w.tape) (hout : w'.output = w.output) (hsize : w.heap.size ≤ w'.heap.size)
    (hheap : ∀ x, x < w.heap.size → x ≠ b → w'.heap[x]? = w.heap[x]?) (hb : w'.heap[b]? = some (.cells c ty (0, 0))) (hbo : b = w.heap.size ∨ ∃ t, t ∈ us ∧ X.own b = some t)
    (hc : c.size = cap * sz) (hle : rows.length ≤ cap) (htt : rows = [] → cap = 0) (hcell : ∀ (i j : Nat) (_ : i < rows.length) (_ : j < sz), c.getD (i * sz + j) undef = f i j) :
    ∃ X' : Ctx, X'.base = X.base ∧ R X' { s with hp := ((d, ABlk.row own nn sz rows) :: us.map fun i => (i, ABlk.dead)) ++ s.hp } a w' ∧
      VRel X' ({ s with hp := ((d, ABlk.row own nn sz rows) :: us.map fun i => (i, ABlk.dead)) ++ s.hp } : AState).kds w' (.slice (some ⟨b, 0, none⟩) rows.length cap) (.row d rows.length) := by
  have hdus : d ∉ us := by
    intro hm
    obtain ⟨_, _, _, _, e⟩ := hr.used d hm
    rw [hd] at e; cases e
  have hblk := deads_blk s d (ABlk.row own nn sz rows) us hdus
  have hlr : ∀ i, i < rows.length → (rows.getD i []).length = sz := fun i hi => hl _ (getD_mem rows i [] hi)
  have hset := h.setRow (s' := { s with hp := ((d, ABlk.row own nn sz rows) :: us.map fun i => (i, ABlk.dead)) ++ s.hp }) (w' := w') (T := fun i => i = d ∨ i ∈ us) (id := d) (b := b) (cap := cap) (sz := sz) (own := own) (nn := nn) (es := rows) (c := c) (ty := ty)
    (.inl h9) (.inl rfl) (by rw [hblk, if_pos rfl]) (fun i hi => by
      rcases hi with e | e
      · exact .inl e
      · refine .inr ?_
        rw [hblk, if_neg (fun e' : i = d => hdus (by rw [← e']; exact e)), if_pos e])
    (fun i hi => by rw [hblk, if_neg (fun e => hi (.inl e)), if_neg (fun e => hi (.inr e))]) rfl rfl
    (.inl (by unfold AState.kds; rw [hd]; rfl)) hos htape hout hsize (fun x hx hn _ => hheap x hx hn) hb
    (by rcases hbo with e | ⟨t, t1, t2⟩
        · exact .inl e
        · exact .inr ⟨t, .inr t1, t2⟩) hc hle htt hz hl
  have hfin : ∃ FF : Nat → Nat → Nat → Prop, (own = true → (∀ (i j : Nat) (_ : i < rows.length) (_ : j < sz), OwnV w' (c.getD (i * sz + j) undef) ((rows.getD i []).getD j .top) (FF i j)) ∧
      (∀ (i j i' j' x : Nat) (_ : i < rows.length) (_ : j < sz) (_ : i' < rows.length) (_ : j' < sz), FF i j x → FF i' j' x → i = i' ∧ j = j') ∧
      (∀ (i j : Nat) (_ : i < rows.length) (_ : j < sz), ¬ FF i j b) ∧ ∀ (i j x : Nat) (_ : i < rows.length) (_ : j < sz), FF i j x → ∃ t, (t = d ∨ t ∈ us) ∧ X.own x = some t) := by
    by_cases ho : own = true
    · obtain ⟨FF, q1, q2, q3⟩ := hr.owned ho
      refine ⟨FF, fun _ => ⟨fun i j hi hj => ?_, fun i j i' j' x hi hj hi' hj' => q3 i j i' j' x hi (by rw [hlr i hi]; exact hj) hi' (by rw [hlr i' hi']; exact hj'), fun i j hi hj hx => (q2 i j b hi (by rw [hlr i hi]; exact hj) hx).1 rfl, fun i j x hi hj hx => ?_⟩⟩
      · rw [hcell i j hi hj]
        refine (q1 i j hi (by rw [hlr i hi]; exact hj)).step (fun x hx => ?_)
        obtain ⟨e0, t, t1, t2⟩ := q2 i j x hi (by rw [hlr i hi]; exact hj) hx
        exact hheap x (h.ow x t t2).1 e0
      · obtain ⟨_, t, t1, t2⟩ := q2 i j x hi (by rw [hlr i hi]; exact hj) hx
        exact ⟨t, .inr t1, t2⟩
    · exact ⟨fun _ _ _ => False, fun e => absurd e ho⟩
  obtain ⟨FF, hfin⟩ := hfin
  obtain ⟨X', x1, x2, x3, x4, _⟩ := hset FF hfin (fun _ i j hi hj => by
    rw [hcell i j hi hj]
    refine (hr.reads i j hi (by rw [hlr i hi]; exact hj)).mono fun x hx => ⟨hx.1, ?_⟩
    rcases hx.2 with hx | ⟨t, t1, t2⟩
    · exact .inl hx
    · exact .inr ⟨t, .inr t1, t2⟩)
  refine ⟨X', x1, x2, ?_⟩
  have := VRel.row (X := X') (w := w') (kd := ({ s with hp := ((d, ABlk.row own nn sz rows) :: us.map fun i => (i, ABlk.dead)) ++ s.hp } : AState).kds) d rows.length sz b (by unfold AState.kds; rw [hblk, if_pos rfl]; rfl) x3
  rwa [x4] at this

end Go.Proofs.Yteebkimhfaodnaa

/- append: the row that is appended to, as a source of its own. -/
namespace Go.Proofs.Yteebkimhfaodnaa
open Go Go.RowKit

theorem base_rowed {X : Ctx} {s : AState} {a : Act} {w : World} (h : R X s a w) {id b b' n sz : Nat} {own nn : Bool} {es : List (List AV)} {c : Array Value} (hb : s.blk id = .row own nn sz es)
    (hl : ∀ e ∈ es, e.length = sz) (hin : RowIn X w id b c sz es own) (hn : n ≤ es.length) (hb' : b' = w.heap.size ∨ b' = b) : Rowed X s w b' (es.take n) [id] own (fun i j => c.getD (i * sz + j) undef) := by
  have hlt : (es.take n).length = n := by rw [List.length_take]; omega
  have hgt : ∀ i, i < n → (es.take n).getD i [] = es.getD i [] := fun i hi => take_getD es n i [] hi
  have hlr : ∀ i, i < es.length → (es.getD i []).length = sz := fun i hi => hl _ (getD_mem es i [] hi)
  have hob : X.own b = some id := by
    rcases hin.2 with ⟨_, FF, _, _, _, f4⟩ | ⟨_, f4, _⟩
    · exact (f4 b).2 (.inl rfl)
    · exact (f4 b).2 rfl
  refine ⟨fun i j hi hj => ?_, fun i hi => by rw [List.mem_singleton] at hi; subst hi; exact ⟨_, _, _, _, hb⟩, by simp, fun ho => ?_⟩
  · rw [hlt] at hi
    rw [hgt i hi] at hj ⊢
    rw [hlr i (by omega)] at hj
    rcases hin.2 with ⟨_, FF, f1, f2, f3, f4⟩ | ⟨_, f4, f9⟩
    · refine (f1 i j (by omega) hj).reads.mono fun x hx => ?_
      have hox : X.own x = some id := (f4 x).2 (.inr ⟨i, j, by omega, hj, hx⟩)
      refine ⟨fun e => ?_, .inr ⟨id, by simp, hox⟩⟩
      rcases hb' with e' | e'
      · have := (h.ow x id hox).1; omega
      · exact f3 i j (by omega) hj (by rw [← e', ← e]; exact hx)
    · refine (f9 i j (by omega) hj).step fun x hx hlt' => ⟨rfl, fun e => ?_, .inl hx⟩
      rcases hb' with e' | e'
      · omega
      · have := hx.1; rw [e, e', hob] at this; cases this
  · rcases hin.2 with ⟨_, FF, f1, f2, f3, f4⟩ | ⟨e, _⟩
    · refine ⟨FF, fun i j hi hj => ?_, fun i j x hi hj hx => ?_, fun i j i' j' x h1 h2 h3 h4 => ?_⟩
      · rw [hlt] at hi
        rw [hgt i hi] at hj ⊢
        rw [hlr i (by omega)] at hj
        exact f1 i j (by omega) hj
      · rw [hlt] at hi
        rw [hgt i hi, hlr i (by omega)] at hj
        have hox : X.own x = some id := (f4 x).2 (.inr ⟨i, j, by omega, hj, hx⟩)
        refine ⟨fun e => ?_, id, by simp, hox⟩
        rcases hb' with e' | e'
        · have := (h.ow x id hox).1; omega
        · exact f3 i j (by omega) hj (by rw [← e', ← e]; exact hx)
      · rw [hlt] at h1 h3
        rw [hgt i h1, hlr i (by omega)] at h2
        rw [hgt i' h3, hlr i' (by omega)] at h4
        exact f2 i j i' j' x (by omega) h2 (by omega) h4
    · rw [e] at ho; cases ho

end Go.Proofs.Yteebkimhfaodnaa

/- append: two sources behind each other, written into a new row, or in place. -/
namespace Go.Proofs.Yteebkimhfaodnaa
open Go Go.RowKit

def oneRows (es : List (List AV)) : Bool := es.all fun r => r.all AV.one

/-- What is appended to: its rows, the name used up, whether they are owned, whether it is known not to be nil. -/
def appBase (s : AState) (size : Nat) (x : AV) (K : List (List AV) → List Nat → Bool → Bool → Prop → Prop) : Prop :=
  match x with
  | .sl (some false) [] => K [] [] true false True
  | .row id n => (match s.blk id with
    | .row own nn sz es => sz = size ∧ n ≤ es.length ∧ K (es.take n) [id] own nn (n = es.length)
    | _ => False)
  | _ => False

def appendK (T : Tab) (s : AState) (d : Option Nat) (t : TypeId) (x y : AV) (K : AV → List (Nat × ABlk) → Prop) : Prop :=
  match d, elemInfo T t with
  | some d, some ei => (s.blk d = .none ∧ nF d) ∧ 0 < ei.size ∧ appBase s ei.size x fun r1 u1 o1 nn full => srcK s ei.flat y fun r2 u2 o2 =>
      (r2.length = 0 ∨ (r2.getD 0 []).length = ei.size) ∧ oneRows r2 = true ∧ (u1 ++ u2).Nodup ∧ (r1.length + r2.length) * ei.bytes ≤ 140737488355328 ∧ r1.length + r2.length ≤ 9223372036854775807 ∧ (full ∨ 0 < r2.length) ∧
      K (.row d (r1.length + r2.length)) ((d, .row (o1 && o2) (nn || decide (0 < r2.length)) ei.size (r1 ++ r2)) :: (u1 ++ u2).map fun i => (i, ABlk.dead))
  | _, _ => False

inductive AppBase (X : Ctx) (s : AState) (w : World) (size : Nat) : Value → List (List AV) → List Nat → Bool → Bool → Prop → Prop where
  | nil (u1 : List Nat) (o1 : Bool) (hu : ∀ i, i ∈ u1 → ∃ own nn sz es, s.blk i = .row own nn sz es) (hn : u1.Nodup) (full : Prop) : AppBase X s w size (.slice none 0 0) [] u1 o1 false full
  | row (id b cap n : Nat) (c : Array Value) (ty : TypeId) (own nn : Bool) (es : List (List AV)) (hb : s.blk id = .row own nn size es) (hi : X.at_ id = some b) (hh : w.heap[b]? = some (.cells c ty (0, 0)))
      (hc : c.size = cap * size) (hle : es.length ≤ cap) (hn : n ≤ es.length) (hl : ∀ e ∈ es, e.length = size) (hin : RowIn X w id b c size es own) (hcp : cap = X.cap id) :
      AppBase X s w size (.slice (some ⟨b, 0, none⟩) n cap) (es.take n) [id] own nn (n = es.length)

theorem appBase_sound {X : Ctx} {s : AState} {a : Act} {w : World} {size : Nat} {x : AV} {v : Value} {K : List (List AV) → List Nat → Bool → Bool → Prop → Prop} (h : R X s a w) (hv : VRel X s.kds w v x) (hK : appBase s size x K) :
    ∃ r1 u1 o1 nn full, AppBase X s w size v r1 u1 o1 nn full ∧ K r1 u1 o1 nn full := by
  unfold appBase at hK
  split at hK
  · refine ⟨_, _, _, _, _, ?_, hK⟩
    have e : v = .slice none 0 0 := by
      have hr := hv.sl_inv
      generalize hb : AV.sl (some false) [] = bb at hr
      cases hr with
      | nil nn hn => rfl
      | empty a cap nn hn => cases hb; exact absurd rfl hn
      | slice b o cap sz nn es f hn => cases hb; exact absurd rfl hn
      | _ => cases hb
    rw [e]
    exact .nil [] true (by simp) (by simp) _
  · rename_i id n
    split at hK
    · rename_i own nn sz es hb
      obtain ⟨rfl, hn, hK⟩ := hK
      have hkd : s.kds id = .row sz := by unfold AState.kds; rw [hb]; rfl
      have hB := h.bl id
      rw [hb] at hB
      obtain ⟨hz, hl, hB⟩ := hB
      rcases hv.row_inv hkd with ⟨b, rfl, hi⟩ | ⟨rfl, rfl, hi⟩
      · rcases hB with ⟨e1, _⟩ | ⟨b', c, ty, e1, e2, e3, e4, e6⟩
        · rw [hi] at e1; cases e1
        · rw [hi] at e1; cases e1
          exact ⟨_, _, _, _, _, .row id b (X.cap id) n c ty own nn es hb hi e2 e3 e4 hn hl e6 rfl, hK⟩
      · rcases hB with ⟨e1, e2, e3, _⟩ | ⟨b', c, ty, e1, _⟩
        · refine ⟨_, _, _, _, _, ?_, hK⟩
          rw [List.take_zero, e2]
          exact .nil [id] own (fun i hi' => by rw [List.mem_singleton] at hi'; subst hi'; exact ⟨_, _, _, _, hb⟩) (by simp) _
        · rw [hi] at e1; cases e1
    · exact hK.elim
  · exact hK.elim

theorem run_append_zero {P : Program} (w : World) (t ty e : TypeId) (i : TypeInfo) (ht : P.underlying t = some (.slice e)) (hi : P.info? e = some i) (base : Option Addr) (sLen sCap : Nat) (h : sLen ≤ sCap) (p : Option Addr) (c : Nat) :
    (Builtin.append_ #[t, t] ty #[.slice base sLen sCap, .slice p 0 c]).run P w = .ok (.slice base sLen sCap) w := by
  cases p <;> cases base <;> simp [Builtin.append_, run_underlying ht, sizeOf, typeInfo, hi, Builtin.lenOf, Builtin.firstCells, loadCells, loadCellsFrom, storeCells, h]

theorem cells2_get (f1 f2 : Nat → Nat → Value) (n m sz : Nat) (rest : List Value) {i j : Nat} (hi : i < n + m) (hj : j < sz) :
    (cellsL f1 sz n ++ (cellsL f2 sz m ++ rest)).getD (i * sz + j) undef = (if i < n then f1 i else f2 (i - n)) j := by
  by_cases h : i < n
  · rw [if_pos h, getD_append_left _ _ _ _ (by rw [cellsL_length]; exact mul_lt_of h hj (Nat.le_refl _)), cellsL_get f1 h hj]
  · have hle : n * sz ≤ i * sz := Nat.mul_le_mul_right _ (by omega)
    have e : i * sz + j - n * sz = (i - n) * sz + j := by rw [Nat.sub_mul]; omega
    rw [if_neg h, getD_append_right _ _ _ _ (by rw [cellsL_length]; omega), cellsL_length, e, getD_append_left _ _ _ _ (by rw [cellsL_length]; exact mul_lt_of (by omega) hj (Nat.le_refl _)), cellsL_get f2 (by omega) hj]

theorem cellsL_take (c : Array Value) (sz n : Nat) (h : n * sz ≤ c.size) : c.toList.take (n * sz) = cellsL (fun i j => c.getD (i * sz + j) undef) sz n := by
  apply List.ext_getElem
  · rw [List.length_take, Array.length_toList, cellsL_length]; omega
  · intro k h1 h2
    rw [cellsL_length] at h2
    have e : k / sz * sz + k % sz = k := by rw [Nat.mul_comm]; exact Nat.div_add_mod k sz
    have hk : k < c.size := by omega
    simp [cellsL, e, hk]

theorem nil_rowed {X : Ctx} {s : AState} {w : World} {b : Nat} {u1 : List Nat} {o1 : Bool} (f : Nat → Nat → Value) (hu : ∀ i, i ∈ u1 → ∃ own nn sz es, s.blk i = .row own nn sz es) (hn : u1.Nodup) : Rowed X s w b [] u1 o1 f :=
  ⟨by simp, hu, hn, fun _ => ⟨fun _ _ _ => False, by simp, by simp, by simp⟩⟩

/-- A row that is nil, and names that are used up. -/
theorem R.newNil {X : Ctx} {s : AState} {a : Act} {w : World} (h : R X s a w) {d sz : Nat} {us : List Nat} (own : Bool) (hd : s.blk d = .none) (h9 : nF d) (hz : 0 < sz) (hus : ∀ i, i ∈ us → ∃ own nn sz es, s.blk i = .row own nn sz es) :
    ∃ X' : Ctx, X'.base = X.base ∧ R X' { s with hp := ((d, ABlk.row own false sz []) :: us.map fun i => (i, ABlk.dead)) ++ s.hp } a w ∧
      VRel X' ({ s with hp := ((d, ABlk.row own false sz []) :: us.map fun i => (i, ABlk.dead)) ++ s.hp } : AState).kds w (.slice none 0 0) (.row d 0) := by
  have hdus : d ∉ us := by
    intro hm
    obtain ⟨_, _, _, _, e⟩ := hus d hm
    rw [hd] at e; cases e
  have hblk := deads_blk s d (ABlk.row own false sz []) us hdus
  obtain ⟨X', x1, x2, x3, x4⟩ := h.nilRow (s' := { s with hp := ((d, ABlk.row own false sz []) :: us.map fun i => (i, ABlk.dead)) ++ s.hp }) (w' := w) (T := fun i => i = d ∨ i ∈ us) (id := d) (sz := sz) (own := own)
    h9 (.inl rfl) (by rw [hblk, if_pos rfl]) (fun i hi => by
      rcases hi with e | e
      · exact .inl e
      · refine .inr ?_
        rw [hblk, if_neg (fun e' : i = d => hdus (by rw [← e']; exact e)), if_pos e])
    (fun i hi => by rw [hblk, if_neg (fun e => hi (.inl e)), if_neg (fun e => hi (.inr e))]) rfl rfl
    (by unfold AState.kds; rw [hd]; rfl) hz rfl rfl rfl rfl
  exact ⟨X', x1, x2, .rowN d sz (by unfold AState.kds; rw [hblk, if_pos rfl]; rfl) x3⟩

theorem appendK_sound {P : Program} {T : Tab} (hT : TabOk P T) {X : Ctx} {s : AState} {a : Act} {w : World} {d : Option Nat} {t ty : TypeId} {x y : AV} {v u : Value} {K : AV → List (Nat × ABlk) → Prop} (h : R X s a w)
    (hv : VRel X s.kds w v x) (hu : VRel X s.kds w u y) (hK : appendK T s d t x y K) :
    ∃ r ar ups X' w', (Builtin.append_ #[t, t] ty #[v, u]).run P w = .ok r w' ∧ X'.base = X.base ∧ R X' { s with hp := ups ++ s.hp } a w' ∧ VRel X' ({ s with hp := ups ++ s.hp } : AState).kds w' r ar ∧ K ar ups := by
  unfold appendK at hK
  split at hK
  · rename_i d ei he
    obtain ⟨⟨hd, h9⟩, hz, hK0⟩ := hK
    obtain ⟨e, nf, dd, z, hue, ok⟩ := elemInfo_und hT he
    have hzs : z.cells.size = ei.size := ok.zs
    obtain ⟨r1, u1, o1, nn, full, hbase, hK1⟩ := appBase_sound h hv hK0
    obtain ⟨r2, u2, o2, p, c2, f2, hs, hlen, hone, hnd, hby, h63, hfull, hK⟩ := srcK_sound h hu hK1
    clear hK0 hK1
    have hval := hs.val
    subst hval
    have hl2 : ∀ r, r ∈ r2 → r.length = ei.size := by
      intro r hr
      have hne : r2 ≠ [] := List.ne_nil_of_mem hr
      obtain ⟨b, o, sz, _, _, hall, _⟩ := hs.cell hne
      have h0 : 0 < r2.length := List.length_pos_iff.2 hne
      have h1 := hall _ (getD_mem r2 0 [] h0)
      rcases hlen with e' | e'
      · omega
      · rw [hall r hr, ← h1]; exact e'
    have hsrc : r2.length ≠ 0 → ∃ b o, p = some ⟨b, o, none⟩ ∧ ∀ (i j : Nat) (_ : i < r2.length) (_ : j < ei.size), w.cell? ⟨b, o + i * ei.size + j, none⟩ = some (f2 i j) := by
      intro h0
      have hne : r2 ≠ [] := fun e' => h0 (by rw [e']; rfl)
      obtain ⟨b, o, sz, e1, _, hall, hc⟩ := hs.cell hne
      have h1 := hall _ (getD_mem r2 0 [] (by omega))
      rw [hl2 _ (getD_mem r2 0 [] (by omega))] at h1
      subst h1
      exact ⟨b, o, e1, hc⟩
    have hone' : ∀ u ∈ cellsL f2 ei.size r2.length, u.oneCell' = true := by
      intro u hu'
      obtain ⟨k, hk1, hk2⟩ := List.getElem_of_mem hu'
      rw [cellsL_length] at hk1
      have hkd : k / ei.size < r2.length := Nat.div_lt_of_lt_mul (by rwa [Nat.mul_comm] at hk1)
      have hkm := Nat.mod_lt k hz
      have hrow := hl2 _ (getD_mem r2 (k / ei.size) [] hkd)
      have hr := hs.reads (k / ei.size) (k % ei.size) hkd (by rw [hrow]; exact hkm)
      have e1 : u = f2 (k / ei.size) (k % ei.size) := by rw [← hk2]; simp [cellsL]
      rw [e1]
      have h1 := List.all_eq_true.1 (List.all_eq_true.1 hone _ (getD_mem r2 (k / ei.size) [] hkd)) _ (getD_mem _ (k % ei.size) AV.top (by rw [hrow]; exact hkm))
      generalize (r2.getD (k / ei.size) []).getD (k % ei.size) AV.top = av at hr h1
      generalize f2 (k / ei.size) (k % ei.size) = vv at hr
      cases hr <;> first | rfl | cases h1
    have hnews : ∀ {w' : World}, w'.heap = w.heap → ∀ {b o : Nat}, (∀ (i j : Nat) (_ : i < r2.length) (_ : j < ei.size), w.cell? ⟨b, o + i * ei.size + j, none⟩ = some (f2 i j)) →
        ∀ (k : Nat) (v : Value), (cellsL f2 ei.size r2.length)[k]? = some v → w'.cell? ((⟨b, o, none⟩ : Addr).add k) = some v := by
      intro w' hw' b o hc k v hk
      have := cellsL_at hc k v hk
      rw [← this]
      unfold World.cell?
      rw [hw']
    cases hbase with
    | nil u1 o1 hu1 hn1 full =>
      by_cases h0 : r2.length = 0
      · have e2 : r2 = [] := List.eq_nil_of_length_eq_zero h0
        subst e2
        obtain ⟨X', x1, x2, x3⟩ := h.newNil (d := d) (sz := ei.size) (us := u1 ++ u2) (o1 && o2) hd h9 hz (fun i hi => by
          rcases List.mem_append.1 hi with e' | e'
          · exact hu1 i e'
          · exact hs.used i e')
        exact ⟨_, _, _, X', w, run_append_zero w t ty e nf hue ok.info none 0 0 (Nat.le_refl _) p c2, x1, x2, x3, hK⟩
      · obtain ⟨b2, o, rfl, hcell⟩ := hsrc h0
        have hge := grownCap_ge w r2.length 0 e
        have hr := run_append_nil (P := P) w t ty e nf z hue ok.info ok.zero ⟨b2, o, none⟩ r2.length c2 (cellsL f2 ei.size r2.length) (by rw [cellsL_length, ok.size]) (hnews rfl hcell) (by omega)
          (by simp only [List.length_nil, Nat.zero_add] at h63; omega) (by simp only [List.length_nil, Nat.zero_add] at hby; rw [ok.bytes]; omega)
        have hrow := (nil_rowed (X := X) (w := w) (b := w.heap.size) (o1 := o1) f2 hu1 hn1).append (hs.rowed h (.inl rfl)) hnd
        obtain ⟨X', x1, x2, x3⟩ := h.newRow (d := d) (b := w.heap.size) (cap := grownCap w r2.length 0 e) (sz := ei.size) (nn := false || decide (0 < r2.length)) (w' := w.drew.alloc (.cells ((cellsL f2 ei.size r2.length).toArray ++ Builtin.zeroCells z.cells (grownCap w r2.length 0 e - r2.length)) e))
          (c := (cellsL f2 ei.size r2.length).toArray ++ Builtin.zeroCells z.cells (grownCap w r2.length 0 e - r2.length)) (ty := e) hd h9 hrow (by simpa using hl2) hz rfl rfl rfl (by simp)
          (fun x hx _ => Below.heap_alloc w.drew _ x hx) (by simpa using heap_alloc_new w.drew _) (.inl rfl)
          (by simp only [Array.size_append, List.size_toArray, cellsL_length, size_zeroCells, hzs, ← Nat.add_mul]; congr 1; omega)
          (by simpa using hge) (fun e' => absurd (congrArg List.length e') (by simpa using h0)) (fun i j hi hj => by
            have := cells2_get (fun _ _ => undef) f2 0 r2.length ei.size (Builtin.zeroCells z.cells (grownCap w r2.length 0 e - r2.length)).toList (i := i) (j := j) (by simpa using hi) hj
            rw [← arr_getD]
            simpa [cellsL] using this)
        refine ⟨_, _, _, X', _, hr, x1, x2, ?_, hK⟩
        simpa using x3
    | row id b cap n c ty' own nn es hb hi hh hc hle hn hl hin hcp =>
      have hlt : (es.take n).length = n := by rw [List.length_take]; omega
      have hob : X.own b = some id := by
        rcases hin.2 with ⟨_, FF, _, _, _, f4⟩ | ⟨_, f4, _⟩
        · exact (f4 b).2 (.inl rfl)
        · exact (f4 b).2 rfl
      have hidu : id ∉ u2 := by
        have := (List.nodup_append.1 hnd).2.2 id (by simp)
        exact fun hm => absurd rfl (this id hm)
      have hnc : n * ei.size ≤ c.size := by rw [hc]; exact Nat.mul_le_mul_right _ (by omega)
      rw [hlt] at hby h63
      have hl12 : ∀ r, r ∈ es.take n ++ r2 → r.length = ei.size := by
        intro r hr
        rcases List.mem_append.1 hr with e' | e'
        · exact hl r (List.mem_of_mem_take e')
        · exact hl2 r e'
      by_cases hroom : n + r2.length ≤ cap
      · -- in place
        have hrow := (base_rowed h hb hl hin hn (.inr rfl)).append (hs.rowed h (b := b) (.inr ⟨id, hob, hidu⟩)) hnd
        have hfit : n * ei.size + (cellsL f2 ei.size r2.length).length ≤ c.size := by rw [cellsL_length, hc, ← Nat.add_mul]; exact Nat.mul_le_mul_right _ hroom
        have hfin : ∀ (w' : World) (c' : Array Value), (Builtin.append_ #[t, t] ty #[.slice (some ⟨b, 0, none⟩) n cap, .slice p r2.length c2]).run P w = .ok (.slice (some ⟨b, 0, none⟩) (n + r2.length) cap) w' →
            w'.os = w.os → w'.tape = w.tape → w'.output = w.output → w'.heap.size = w.heap.size → (∀ x, x < w.heap.size → x ≠ b → w'.heap[x]? = w.heap[x]?) → w'.heap[b]? = some (.cells c' ty' (0, 0)) → c'.size = cap * ei.size →
            (∀ (i j : Nat) (_ : i < n + r2.length) (_ : j < ei.size), c'.getD (i * ei.size + j) undef = (if i < n then (fun j => c.getD (i * ei.size + j) undef) else f2 (i - n)) j) →
            ∃ r ar ups X' w', (Builtin.append_ #[t, t] ty #[.slice (some ⟨b, 0, none⟩) n cap, .slice p r2.length c2]).run P w = .ok r w' ∧ X'.base = X.base ∧ R X' { s with hp := ups ++ s.hp } a w' ∧ VRel X' ({ s with hp := ups ++ s.hp } : AState).kds w' r ar ∧ K ar ups := by
          intro w' c' hr q1 q2 q3 q4 q5 q6 q7 q8
          obtain ⟨X', x1, x2, x3⟩ := h.newRow (d := d) (b := b) (cap := cap) (sz := ei.size) (nn := nn || decide (0 < r2.length)) (w' := w') (c := c') (ty := ty') hd h9 hrow hl12 hz q1 q2 q3 (by omega) q5 q6 (.inr ⟨id, by simp, hob⟩) q7
            (by rw [List.length_append, hlt]; exact hroom) (fun e' => by
              obtain ⟨t1, t2⟩ := List.append_eq_nil_iff.1 e'
              rcases hfull with hf | hf
              · rw [hf, List.take_length] at t1
                rw [hcp]; exact hin.1 t1
              · rw [t2] at hf; exact absurd hf (by simp)) (fun i j hi' hj => by
              rw [List.length_append, hlt] at hi'
              rw [q8 i j hi' hj, hlt])
          refine ⟨_, _, _, X', w', hr, x1, x2, ?_, hK⟩
          rw [List.length_append, hlt] at x3
          rw [hlt]
          exact x3
        by_cases h0 : r2.length = 0
        · have e2 : r2 = [] := List.eq_nil_of_length_eq_zero h0
          subst e2
          refine hfin w c ?_ rfl rfl rfl rfl (fun _ _ _ => rfl) hh hc (fun i j hi' hj => ?_)
          · exact run_append_zero w t ty e nf hue ok.info (some ⟨b, 0, none⟩) n cap (by omega) p c2
          · rw [if_pos (by simpa using hi')]
        · obtain ⟨b2, o, rfl, hcell⟩ := hsrc h0
          have hr := run_append_room2 (P := P) w t ty e ty' nf hue ok.info b n cap c hh ⟨b2, o, none⟩ r2.length c2 (cellsL f2 ei.size r2.length) (by rw [cellsL_length, ok.size]) (hnews rfl hcell) hone' hroom (by rw [ok.size]; exact hfit)
          rw [ok.size] at hr
          refine hfin _ _ hr rfl rfl rfl (by simp) (fun x _ hx => setRow_other w b x _ hx) (setRow_heap w b c _ ty' _ hh) ?_ (fun i j hi' hj => ?_)
          · simp only [List.size_toArray, List.length_append, List.length_take, List.length_drop, Array.length_toList]
            rw [← hc]
            omega
          · rw [← arr_getD, cellsL_take c ei.size n hnc, List.append_assoc]
            exact cells2_get (fun i j => c.getD (i * ei.size + j) undef) f2 n r2.length ei.size _ hi' hj
      · -- a new row
        have h0 : r2.length ≠ 0 := by omega
        obtain ⟨b2, o, rfl, hcell⟩ := hsrc h0
        have hge := grownCap_ge w (n + r2.length) cap e
        have holds : ∀ (k : Nat) (v : Value), (cellsL (fun i j => c.getD (i * ei.size + j) undef) ei.size n)[k]? = some v → w.cell? ((⟨b, 0, none⟩ : Addr).add k) = some v :=
          cellsL_at (fun i j hi' hj => by rw [Nat.zero_add]; exact getD_cell hh (by rw [hc]; exact mul_lt_of hi' hj (by omega)))
        have hr := run_append_grow (P := P) w t ty e nf z hue ok.info ok.zero ⟨b, 0, none⟩ n cap (cellsL (fun i j => c.getD (i * ei.size + j) undef) ei.size n) (by rw [cellsL_length, ok.size]) holds
          ⟨b2, o, none⟩ r2.length c2 (cellsL f2 ei.size r2.length) (by rw [cellsL_length, ok.size]) (hnews rfl hcell) (by omega) (by omega) (growslice_fits (by omega) (by rw [ok.bytes]; exact hby))
        have hrow := (base_rowed h hb hl hin hn (b' := w.heap.size) (.inl rfl)).append (hs.rowed h (.inl rfl)) hnd
        obtain ⟨X', x1, x2, x3⟩ := h.newRow (d := d) (b := w.heap.size) (cap := grownCap w (n + r2.length) cap e) (sz := ei.size) (nn := nn || decide (0 < r2.length))
          (w' := w.drew.alloc (.cells ((cellsL (fun i j => c.getD (i * ei.size + j) undef) ei.size n).toArray ++ (cellsL f2 ei.size r2.length).toArray ++ Builtin.zeroCells z.cells (grownCap w (n + r2.length) cap e - (n + r2.length))) e))
          (c := (cellsL (fun i j => c.getD (i * ei.size + j) undef) ei.size n).toArray ++ (cellsL f2 ei.size r2.length).toArray ++ Builtin.zeroCells z.cells (grownCap w (n + r2.length) cap e - (n + r2.length))) (ty := e) hd h9 hrow hl12 hz rfl rfl rfl (by simp)
          (fun x hx _ => Below.heap_alloc w.drew _ x hx) (by simpa using heap_alloc_new w.drew _) (.inl rfl)
          (by simp only [Array.size_append, List.size_toArray, cellsL_length, size_zeroCells, hzs, ← Nat.add_mul]; congr 1; omega)
          (by rw [List.length_append, hlt]; exact hge) (fun e' => absurd (congrArg List.length (List.append_eq_nil_iff.1 e').2) h0) (fun i j hi' hj => by
            rw [List.length_append, hlt] at hi'
            have := cells2_get (fun i j => c.getD (i * ei.size + j) undef) f2 n r2.length ei.size (Builtin.zeroCells z.cells (grownCap w (n + r2.length) cap e - (n + r2.length))).toList hi' hj
            rw [← arr_getD, hlt]
            simpa using this)
        refine ⟨_, _, _, X', _, hr, x1, x2, ?_, hK⟩
        rw [List.length_append, hlt] at x3
        rw [hlt]
        exact x3
  · exact hK.elim

end Go.Proofs.Yteebkimhfaodnaa

/- Function literals that capture a variable; maps of numbers; a slice that is nil as a row of its own. -/
namespace Go.Proofs.Yteebkimhfaodnaa
open Go Go.RowKit

def pureB : AV → Bool
  | .int _ _ => true
  | .bool _ => true
  | .sl _ _ => true
  | .fn _ _ => true
  | .pel _ => true
  | .mp _ _ _ _ _ => true
  | _ => false

theorem VRel.pureR {X : Ctx} {kd : Nat → Kd} {w : World} {v : Value} {a : AV} (h : VRel X kd w v a) (hp : pureB a = true) : Reads w X.Sh v a := by
  cases h with
  | pure h => exact h
  | pel cs b o f hl hS hc h => exact .pel cs b o f hl hS hc h
  | _ => cases hp

/-- A function literal: what it captures is written no more. -/
def makeFuncK (s : AState) (fn : Fn) (first caps : List AV) (K : AV → List (Nat × ABlk) → Prop) : Prop :=
  match fn, first, caps with
  | .func f, [], [] => K (.fn f []) []
  | .func f, [], [.loc id 0] => (match s.blk id with
    | .var bs => (0 < bs.length ∧ bs.all pureB = true) ∧ K (.fn f [.pel bs]) [(id, .dead)]
    | _ => False)
  | _, _, _ => False

/-- A variable is written no more. -/
theorem R.release {X : Ctx} {s : AState} {a : Act} {w : World} (h : R X s a w) {id b : Nat} {bs : List AV} (hb : s.blk id = .var bs) (hi : X.at_ id = some b) (hl : 0 < bs.length) (hp : bs.all pureB = true) :
    ∃ X' : Ctx, X'.base = X.base ∧ R X' { s with hp := (id, .dead) :: s.hp } a w ∧ Reads w X'.Sh (.pointer (some ⟨b, 0, none⟩)) (.pel bs) ∧ ∀ v av, VRel X s.kds w v av → VRel X' ({ s with hp := (id, .dead) :: s.hp } : AState).kds w v av := by
  have hB := h.bl id
  rw [hb] at hB
  obtain ⟨b', c, ty, h1, h2, h3, h4, h5⟩ := hB
  rw [hi] at h1; cases h1
  let X' : Ctx := { X with own := upd X.own b none }
  have hob : X.own b = some id := (h3 b).2 rfl
  have hS : ∀ x, X.Sh x → X'.Sh x := by
    intro x hx
    have hne : x ≠ b := fun e => by have := hx.1; rw [e, hob] at this; cases this
    exact ⟨(upd_ne _ _ hne).trans hx.1, hx.2⟩
  have hSb : X'.Sh b := ⟨upd_same _ _ _, h.ownA hob⟩
  have hown : ∀ x i, X'.own x = some i → X.own x = some i ∧ x ≠ b := by
    intro x i hx
    by_cases e : x = b
    · subst e
      have : X'.own x = none := upd_same _ _ _
      rw [this] at hx; cases hx
    · have : X'.own x = X.own x := upd_ne _ _ e
      exact ⟨this ▸ hx, e⟩
  have hW : WStep X X' w w (fun i => i = id) := by
    refine ⟨rfl, rfl, rfl, rfl, Nat.le_refl _, fun x hx hT => ⟨rfl, upd_ne _ _ (fun e => hT id rfl (e ▸ hob))⟩, fun _ _ => ⟨rfl, rfl⟩, fun x i _ hx => (hown x i hx).1, fun x i hx => h.ow x i (hown x i hx).1, fun _ _ => ⟨rfl, rfl⟩⟩
  have hn : ∀ i, NameOk X X' s.kds ({ s with hp := (id, .dead) :: s.hp } : AState).kds i := by
    intro i
    by_cases e : i = id
    · subst e; exact .inr (.inl (by unfold AState.kds; rw [blk_upd, if_pos rfl]; rfl))
    · have ek : ({ s with hp := (id, ABlk.dead) :: s.hp } : AState).kds i = s.kds i := by unfold AState.kds; rw [blk_upd, if_neg e]
      by_cases e2 : s.kds i = .dead
      · exact .inr (.inl (ek.trans e2))
      · exact .inr (.inr ⟨e2, ek, rfl, rfl⟩)
  have hV : ∀ v av, VRel X s.kds w v av → VRel X' ({ s with hp := (id, .dead) :: s.hp } : AState).kds w v av := fun v av hv => hv.step hn hW.sh
  refine ⟨X', rfl, ?_, ?_, hV⟩
  · refine h.step hW h.nt h.df (fun i hi' => by rw [blk_upd, if_neg hi']) (fun i _ => hn i) (fun hv i => hv _ _ (h.fr i)) (fun _ i hi' => ?_)
    subst hi'
    rw [blk_upd, if_pos rfl]
    intro x hx
    obtain ⟨g1, g2⟩ := hown x i hx
    exact g2 ((h3 x).1 g1)
  · refine .pel bs b 0 (fun j => c.getD j undef) hl hSb (fun j hj => ?_) (fun j hj => ?_)
    · rw [Nat.zero_add]; exact getD_cell h2 (by omega)
    · exact ((h5 j hj).pureR (List.all_eq_true.1 hp _ (getD_mem bs j .top hj))).mono hS

theorem makeFuncK_sound {P : Program} {X : Ctx} {s : AState} {a : Act} {w : World} {fn : Fn} {first caps : Array Operand} {K : AV → List (Nat × ABlk) → Prop} (h : R X s a w)
    (hK : makeFuncK s fn (first.toList.map s.ev) (caps.toList.map s.ev) K) :
    ∃ r ar ups X' w', (Instr.makeFunc fn (first.map a.eval) (caps.map a.eval)).run P w = .ok r w' ∧ X'.base = X.base ∧ R X' { s with hp := ups ++ s.hp } a w' ∧ VRel X' ({ s with hp := ups ++ s.hp } : AState).kds w' r ar ∧ K ar ups := by
  obtain ⟨lf⟩ := first
  obtain ⟨lc⟩ := caps
  simp only at hK
  unfold makeFuncK at hK
  split at hK
  · rename_i f h1 h2
    have e1 : lf = [] := by simpa using h1
    have e2 : lc = [] := by simpa using h2
    subst e1; subst e2
    refine ⟨.func (.func f) #[] #[], _, [], X, w, by simp [Instr.makeFunc], rfl, h, .pure (.fn f #[] [] rfl (fun i hi => absurd hi (by simp))), hK⟩
  · rename_i f id h1 h2
    have e1 : lf = [] := by simpa using h1
    subst e1
    obtain ⟨x, rfl, hx⟩ : ∃ x, lc = [x] ∧ s.ev x = .loc id 0 := by
      cases lc with
      | nil => simp at h2
      | cons x r =>
        cases r with
        | nil => exact ⟨x, rfl, by simpa using h2⟩
        | cons y r => simp at h2
    split at hK
    · rename_i bs hb
      obtain ⟨⟨hl, hp⟩, hK⟩ := hK
      have hv := h.ev x
      rw [hx] at hv
      have hkd : s.kds id = .var := by unfold AState.kds; rw [hb]; rfl
      obtain ⟨b, e, hi⟩ := hv.loc_inv hkd
      obtain ⟨X', g1, g2, g3, g4⟩ := h.release hb hi hl hp
      refine ⟨.func (.func f) #[] #[.pointer (some ⟨b, 0, none⟩)], _, _, X', w, ?_, g1, g2, .pure (.fn f _ _ (by simp) (fun i hi => ?_)), hK⟩
      · simp [Instr.makeFunc, e]
      · have : i = 0 := by simp at hi; omega
        subst this
        exact g3
    · exact hK.elim
  · exact hK.elim

/-- The kinds of a map's key and element. -/
def mapTy (T : Tab) (t : TypeId) : Option (TypeId × TypeId) := match T t with
  | some i => (match i.k with | .map k e => some (k, e) | _ => none)
  | none => none

def makeMapK (P : Program) (T : Tab) (s : AState) (d : Option Nat) (t : TypeId) (K : AV → List (Nat × ABlk) → Prop) : Prop :=
  match d, mapTy T t with
  | some d, some (k, e) => (s.blk d = .none ∧ nF d) ∧ K (.mpl d) [(d, .map P k e 0 (.map []))]
  | _, _ => False

def mapIns (P : Program) (id : Nat) (k e : TypeId) (n : Nat) (D : DataW Unit) (a b : Int) (K : List (Nat × ABlk) → Prop) : Prop :=
  n < 1000 ∧ (-9223372036854775808 ≤ a ∧ a ≤ 9223372036854775807) ∧ (-9223372036854775808 ≤ b ∧ b ≤ 9223372036854775807) ∧ K [(id, .map P k e (n + 1) (D.put (.int .i64 a) (.lit (.int .i64 b))))]

def insertK (P : Program) (T : Tab) (s : AState) (t : TypeId) (m x v : AV) (K : List (Nat × ABlk) → Prop) : Prop :=
  match m, x, v, mapTy T t with
  | .mpl id, .int .i64 a, .int .i64 b, some (k, e) => intKd T k = some .i64 ∧ intKd T e = some .i64 ∧ (match s.blk id with
    | .map P' k' e' n D => P' = P ∧ k' = k ∧ e' = e ∧ mapIns P id k e n D a b K
    | _ => False)
  | _, _, _, _ => False

def lookupK (P : Program) (T : Tab) (t : TypeId) (m x : AV) (K : AV → Prop) : Prop :=
  match m, x, mapTy T t with
  | .mp P' k' e' _ D, .int .i64 a, some (k, e) => P' = P ∧ k' = k ∧ e' = e ∧ intKd T k = some .i64 ∧ intKd T e = some .i64 ∧ (-9223372036854775808 ≤ a ∧ a ≤ 9223372036854775807) ∧
      ∀ c, D.atKey (.int .i64 a) (.lit (.int .i64 0)) = .lit (.int .i64 c) → K (.int .i64 c)
  | _, _, _ => False

theorem wf_i64 {a : Int} (h1 : -9223372036854775808 ≤ a) (h2 : a ≤ 9223372036854775807) : (Lit.int .i64 a).wf = true := by
  simp [Lit.wf, IntKind.min, IntKind.max, IntKind.signed, IntKind.bits]
  omega


theorem R.newMap {X : Ctx} {s : AState} {a : Act} {w : World} (h : R X s a w) {d : Nat} (h9 : nF d) (hd : s.blk d = .none) (P : Program) (k e : TypeId) :
    ∃ X' : Ctx, X'.base = X.base ∧ R X' { s with hp := (d, .map P k e 0 (.map [])) :: s.hp } a (w.alloc (.map #[] 0)) ∧ VRel X' ({ s with hp := (d, .map P k e 0 (.map [])) :: s.hp } : AState).kds (w.alloc (.map #[] 0)) (.map (some w.heap.size)) (.mpl d) := by
  have hw : (w.alloc (.map #[] 0)).heap.size = w.heap.size + 1 := by simp
  obtain ⟨hR, hRef⟩ := h.now (w' := w.alloc (.map #[] 0)) rfl rfl rfl (by omega) (fun x hx => Below.heap_alloc w _ x hx)
  have hnA : ¬ (Base.now X w (w.alloc (.map #[] 0))).A w.heap.size := by
    rintro (⟨_, e⟩ | ⟨id, e⟩ | e)
    · exact Nat.lt_irrefl _ e
    · exact Nat.lt_irrefl _ (h.ow _ id e).1
    · have e : (w.alloc (.map #[] 0)).heap.size ≤ w.heap.size := e
      omega
  have h2 := hR.adopt (b := w.heap.size) (d := d) (cap := 0) (B := .map P k e 0 (.map [])) (by omega) hnA hd h9 (fun X' kd g1 _ g3 _ => ⟨w.heap.size, g1, g3, World.ownsMap_made w P k _⟩)
  have h3 := h2.rebase (hRef.grant h.size)
  refine ⟨_, ?_, h3, ?_⟩
  · rfl
  · exact .mpl d _ (by unfold AState.kds; rw [blk_upd, if_pos rfl]; rfl) (upd_same _ _ _)

theorem makeMapK_sound {P : Program} {T : Tab} {X : Ctx} {s : AState} {a : Act} {w : World} {d : Option Nat} {t : TypeId} {K : AV → List (Nat × ABlk) → Prop} (h : R X s a w) (hK : makeMapK P T s d t K) :
    ∃ r ar ups X' w', (Instr.makeMap t none).run P w = .ok r w' ∧ X'.base = X.base ∧ R X' { s with hp := ups ++ s.hp } a w' ∧ VRel X' ({ s with hp := ups ++ s.hp } : AState).kds w' r ar ∧ K ar ups := by
  unfold makeMapK at hK
  split at hK
  · rename_i d k e hm
    obtain ⟨⟨hd, h9⟩, hK⟩ := hK
    obtain ⟨X', g1, g2, g3⟩ := h.newMap h9 hd P k e
    exact ⟨_, _, _, X', _, by simp only [Instr.makeMap, Sem.run_bind, run_newObj, Sem.run_pure, Result.andThen_ok]; rfl, g1, g2, g3, hK⟩
  · exact hK.elim

theorem mapTy_und {P : Program} {T : Tab} (hT : TabOk P T) {t k e : TypeId} (h : mapTy T t = some (k, e)) : P.underlying t = some (.map k e) := by
  unfold mapTy at h
  split at h
  · rename_i i hi
    obtain ⟨nf, d, z, ok⟩ := hT.get hi
    split at h
    · rename_i k' e' hk
      cases h
      have htk := ok.tk
      rw [hk] at htk
      have hd : d = .map k e := by cases d <;> simp_all [tkOk]
      rw [ok.und, hd]
    · cases h
  · cases h

theorem intKd_und {P : Program} {T : Tab} (hT : TabOk P T) {t : TypeId} {q : IntKind} (h : intKd T t = some q) : P.underlying t = some (.int q) ∧ ∀ w, (zeroValue t).run P w = .ok (.int q 0) w := by
  unfold intKd at h
  split at h
  · rename_i i hi
    obtain ⟨nf, d, z, ok⟩ := hT.get hi
    split at h
    · rename_i q' hk
      cases h
      have htk := ok.tk
      rw [hk] at htk
      have hd : d = .int q := by cases d <;> simp_all [tkOk]
      have hu : P.underlying t = some (.int q) := by rw [ok.und, hd]
      refine ⟨hu, fun w => ?_⟩
      have hz := ok.zi
      rw [hd] at hz
      have hr := ok.run_zero w
      cases z <;> simp [zIntB] at hz
      obtain ⟨rfl, rfl⟩ := hz
      exact hr
    · cases h
  · cases h

theorem R.setMap {X : Ctx} {s : AState} {a : Act} {w w' : World} (h : R X s a w) {id b n n' : Nat} {P : Program} {k e : TypeId} {D D' : DataW Unit} (hid : s.blk id = .map P k e n D) (hat : X.at_ id = some b)
    (hm : w'.ownsMap P k (plainElem P e) b n' D') (hg : w.grownBy w' (some b)) : R X { s with hp := (id, .map P k e n' D') :: s.hp } a w' := by
  have hB := h.bl id
  rw [hid] at hB
  obtain ⟨b', h1, h3, h4⟩ := hB
  rw [hat] at h1; cases h1
  have hob : X.own b = some id := (h3 b).2 rfl
  have hkid : s.kds id = .map := by unfold AState.kds; rw [hid]; rfl
  have hW : WStep X X w w' (fun i => i = id) := by
    refine ⟨rfl, hg.os, hg.tape, hg.output, hg.size, ?_, fun _ _ => ⟨rfl, rfl⟩, fun _ _ _ hx => hx, ?_, fun _ _ => ⟨rfl, rfl⟩⟩
    · intro x hx hT
      refine ⟨hg.block x hx (fun e => ?_), rfl⟩
      cases e; exact hT id rfl hob
    · intro x i hx
      have := h.ow x i hx
      exact ⟨Nat.lt_of_lt_of_le this.1 hg.size, this.2⟩
  have hN : ∀ i, NameOk X X s.kds ({ s with hp := (id, .map P k e n' D') :: s.hp } : AState).kds i := by
    intro i
    have hk : ({ s with hp := (id, ABlk.map P k e n' D') :: s.hp } : AState).kds i = s.kds i := by
      rw [kds_cons]; split
      · rename_i e; rw [e, hkid]; rfl
      · rfl
    by_cases hd : s.kds i = .dead
    · exact .inr (.inl (hk.trans hd))
    · exact .inr (.inr ⟨hd, hk, rfl, rfl⟩)
  have hV : ∀ v av, VRel X s.kds w v av → VRel X ({ s with hp := (id, .map P k e n' D') :: s.hp } : AState).kds w' v av := fun v av hv => hv.step hN hW.sh
  refine h.step hW h.nt h.df (fun i hi => by rw [blk_upd, if_neg hi]) (fun i _ => hN i) (fun _ i => hV _ _ (h.fr i)) ?_
  intro _ i hi
  subst hi
  rw [blk_upd, if_pos rfl]
  exact ⟨b, hat, h3, hm⟩

theorem insertK_sound {P : Program} {T : Tab} (hT : TabOk P T) {X : Ctx} {s : AState} {a : Act} {w : World} {t : TypeId} {m x y : AV} {vm vx vy : Value} {K : List (Nat × ABlk) → Prop} (h : R X s a w) (hm : VRel X s.kds w vm m) (hx : VRel X s.kds w vx x) (hy : VRel X s.kds w vy y)
    (hK : insertK P T s t m x y K) :
    ∃ ups w', (Instr.mapUpdate t vm vx vy).run P w = .ok () w' ∧ R X { s with hp := ups ++ s.hp } a w' ∧ K ups := by
  unfold insertK at hK
  split at hK
  · rename_i id ka va k e hty
    obtain ⟨hk, he, hK⟩ := hK
    split at hK
    · rename_i P' k' e' n D hb
      obtain ⟨rfl, rfl, rfl, hn, ⟨h1, h2⟩, ⟨h3, h4⟩, hK⟩ := hK
      have hkd : s.kds id = .map := by unfold AState.kds; rw [hb]; rfl
      obtain ⟨b, rfl, hi⟩ := hm.mpl_inv hkd
      have ex := hx.int_inv
      have ey := hy.int_inv
      subst ex; subst ey
      have hB := h.bl id
      rw [hb] at hB
      obtain ⟨b', g1, g2, g3⟩ := hB
      rw [hi] at g1; cases g1
      obtain ⟨hku, _⟩ := intKd_und hT hk
      obtain ⟨heu, _⟩ := intKd_und hT he
      obtain ⟨w', r1, r2, r3⟩ := g3.update (Maps.int_keyed hku) (mapTy_und hT hty) (by simp only [maxLen]; omega) (Maps.keyOf_int_mk hku (wf_i64 h1 h2)) (plainElem_int heu (wf_i64 h3 h4))
      exact ⟨_, w', r1, h.setMap hb hi r2 r3, hK⟩
    · exact hK.elim
  · exact hK.elim

theorem lookupK_sound {P : Program} {T : Tab} (hT : TabOk P T) {X : Ctx} {s : AState} {w : World} {t : TypeId} {m x : AV} {vm vx : Value} {K : AV → Prop} (hm : VRel X s.kds w vm m) (hx : VRel X s.kds w vx x)
    (hK : lookupK P T t m x K) :
    ∃ r ar, (Instr.lookup t vm vx false).run P w = .ok r w ∧ VRel X s.kds w r ar ∧ K ar := by
  unfold lookupK at hK
  split at hK
  · rename_i P' k' e' n D a k e hty
    obtain ⟨rfl, rfl, rfl, hk, he, ⟨h1, h2⟩, hK⟩ := hK
    obtain ⟨b, rfl, _, g3⟩ := hm.mp_inv
    have ex := hx.int_inv
    subst ex
    obtain ⟨hku, _⟩ := intKd_und hT hk
    obtain ⟨heu, hz⟩ := intKd_und hT he
    obtain ⟨c, r1, r2, _⟩ := g3.lookup_int (Maps.int_keyed hku) (mapTy_und hT hty) heu (hz w) (Maps.keyOf_int_mk hku (wf_i64 h1 h2))
    exact ⟨_, _, r1, .pure (.int _ _), hK c r2⟩
  · exact hK.elim

end Go.Proofs.Yteebkimhfaodnaa

/- Rows that are lent: calls of functions that write into slices that are handed to them. -/
namespace Go.Proofs.Yteebkimhfaodnaa
open Go Go.RowKit

/-- An argument: data, or rows that are lent (the j-th one under the name 800 + j). -/
inductive LArg (w : World) (S : Nat → Prop) (lv : Nat → Value) (ls : List AV) : Value → AV → Prop where
  | pure (v : Value) (a : AV) (h : Reads w S v a) : LArg w S lv ls v a
  | row (j : Nat) (nn : Bool) (sz : Nat) (es : List (List AV)) (hj : ls[j]? = some (AV.osl nn sz es)) : LArg w S lv ls (lv j) (.row (800 + j) es.length)
  | agg (vs : Array Value) (cs : List AV) (hl : vs.size = cs.length) (h : ∀ (i : Nat) (_ : i < cs.length), LArg w S lv ls (vs.getD i undef) (cs.getD i .top)) : LArg w S lv ls (.agg vs) (.agg cs)

/-- The rows that are lent. -/
structure Lents (w : World) (lv : Nat → Value) (ls : List AV) (LF : Nat → Nat → Prop) : Prop where
  own : ∀ (i : Nat) (a : AV), ls[i]? = some a → ∃ nn sz es, a = .osl nn sz es ∧ OwnS w (lv i) nn sz es (LF i)
  dis : ∀ (i j x : Nat) (_ : i < ls.length) (_ : j < ls.length), LF i x → LF j x → i = j

def LM (ls : List AV) (LF : Nat → Nat → Prop) (x : Nat) : Prop := ∃ i, i < ls.length ∧ LF i x

/-- The same rows with other contents. -/
def lkL : List AV → List AV → Prop
  | [], [] => True
  | .osl nn sz _ :: r, .osl nn' sz' _ :: r' => (nn' = nn ∧ sz' = sz) ∧ lkL r r'
  | _, _ => False

theorem lkL_get : ∀ {l l' : List AV}, lkL l l' → l.length = l'.length ∧ ∀ (i : Nat) (nn : Bool) (sz : Nat) (es : List (List AV)), l[i]? = some (AV.osl nn sz es) → ∃ es', l'[i]? = some (AV.osl nn sz es')
  | [], [], _ => ⟨rfl, fun i nn sz es h => by simp at h⟩
  | a :: r, [], h => by cases a <;> exact h.elim
  | [], b :: r', h => h.elim
  | a :: r, b :: r', h => by
    cases a <;> try exact h.elim
    cases b <;> try exact h.elim
    obtain ⟨⟨rfl, rfl⟩, h⟩ := h
    obtain ⟨h1, h2⟩ := lkL_get h
    refine ⟨by simp [h1], fun i nn sz es hi => ?_⟩
    cases i with
    | zero =>
      simp only [List.getElem?_cons_zero, Option.some.injEq, AV.osl.injEq] at hi
      obtain ⟨rfl, rfl, _⟩ := hi
      exact ⟨_, rfl⟩
    | succ i => exact h2 i nn sz es (by simpa using hi)

/-- The contract of a function that writes into rows that are lent to it. -/
def FSpecM (P : Program) (k : FuncId) (args ls : List AV) (Q : AV → List AV → Prop) : Prop :=
  (∀ (vs : Array Value) (w : World), (callFunc k vs).run P w = .ok (.enter k vs) w) ∧
  ∀ (w : World) (S : Nat → Prop) (vs : Array Value) (lv : Nat → Value) (LF : Nat → Nat → Prop),
    vs.size = args.length → (∀ (i : Nat) (_ : i < args.length), LArg w S lv ls (vs.getD i undef) (args.getD i .top)) → Lents w lv ls LF → (∀ x, LM ls LF x → ¬ S x) →
    Calls P k vs w fun e w' => ∃ v r ls' LF', e = .returned v ∧ Q r ls' ∧ WFrame w w' (LM ls LF) ∧ Reads w' (fun _ => False) v r ∧ lkL ls ls' ∧ Lents w' lv ls' LF' ∧
      ∀ x, LM ls' LF' x → LM ls LF x ∨ w.heap.size ≤ x

theorem FSpecM.mono {P : Program} {k : FuncId} {args ls : List AV} {Q Q' : AV → List AV → Prop} (h : FSpecM P k args ls Q) (hq : ∀ r l, Q r l → Q' r l) : FSpecM P k args ls Q' := by
  refine ⟨h.1, fun w S vs lv LF h1 h2 h3 h4 => (h.2 w S vs lv LF h1 h2 h3 h4).mono ?_⟩
  rintro e w' ⟨v, r, ls', LF', g1, g2, g3⟩
  exact ⟨v, r, ls', LF', g1, hq _ _ g2, g3⟩

/-! ### The caller's side -/

def lendC (s : AState) (j : Nat) (c : AV) (K : AV → List (Nat × AV) → Prop) : Prop :=
  match c with
  | .int k n => K (.int k n) []
  | .bool b => K (.bool b) []
  | .sl nn es => K (.sl nn es) []
  | .fn f cs => K (.fn f cs) []
  | .row id n => (match s.blk id with
    | .row true nn sz es => n = es.length ∧ K (.row (800 + j) es.length) [(id, .osl nn sz es)]
    | _ => False)
  | _ => False

def lendL (s : AState) : Nat → List AV → (List AV → List (Nat × AV) → Prop) → Prop
  | _, [], K => K [] []
  | j, c :: cs, K => lendC s j c fun c' u => lendL s (j + u.length) cs fun cs' us => K (c' :: cs') (u ++ us)

def lendP (s : AState) (j : Nat) (c : AV) (K : AV → List (Nat × AV) → Prop) : Prop :=
  match c with
  | .agg cs => lendL s j cs fun cs' us => K (.agg cs') us
  | c => lendC s j c K

def lendA (s : AState) : Nat → List AV → (List AV → List (Nat × AV) → Prop) → Prop
  | _, [], K => K [] []
  | j, c :: cs, K => lendP s j c fun c' u => lendA s (j + u.length) cs fun cs' us => K (c' :: cs') (u ++ us)

/-- Where a name's row lies. -/
def hdrOf (X : Ctx) (p : Nat × AV) : Value :=
  match p.2, X.at_ p.1 with
  | .osl _ _ es, some b => .slice (some ⟨b, 0, none⟩) es.length (X.cap p.1)
  | _, _ => .slice none 0 0

def LentIn (s : AState) (us : List (Nat × AV)) : Prop := ∀ m, m ∈ us → ∃ nn sz es, s.blk m.1 = .row true nn sz es ∧ m.2 = .osl nn sz es

/-- The values of the lent rows, as far as a part of the list goes. -/
def FitsL (X : Ctx) (j : Nat) (u : List (Nat × AV)) (lv : Nat → Value) (ls : List AV) : Prop := ∀ i m, u[i]? = some m → lv (j + i) = hdrOf X m ∧ ls[j + i]? = some m.2

theorem FitsL.left {X : Ctx} {j : Nat} {u u' : List (Nat × AV)} {lv : Nat → Value} {ls : List AV} (h : FitsL X j (u ++ u') lv ls) : FitsL X j u lv ls := by
  intro i m hi
  refine h i m ?_
  have := (List.getElem?_eq_some_iff.1 hi).1
  rw [List.getElem?_append_left this]; exact hi

theorem FitsL.right {X : Ctx} {j : Nat} {u u' : List (Nat × AV)} {lv : Nat → Value} {ls : List AV} (h : FitsL X j (u ++ u') lv ls) : FitsL X (j + u.length) u' lv ls := by
  intro i m hi
  have := h (u.length + i) m (by rw [List.getElem?_append_right (by omega), Nat.add_sub_cancel_left]; exact hi)
  rwa [← Nat.add_assoc] at this

theorem lendC_sound {X : Ctx} {s : AState} {a : Act} {w : World} (h : R X s a w) {j : Nat} {c : AV} {v : Value} {K : AV → List (Nat × AV) → Prop} (hv : VRel X s.kds w v c) (hK : lendC s j c K) :
    ∃ c' u, K c' u ∧ LentIn s u ∧ ∀ lv ls, FitsL X j u lv ls → LArg w X.Sh lv ls v c' := by
  unfold lendC at hK
  split at hK
  · rw [hv.int_inv]; exact ⟨_, [], hK, (fun _ e => by cases e), fun _ _ _ => .pure _ _ (.int _ _)⟩
  · rw [hv.bool_inv]; exact ⟨_, [], hK, (fun _ e => by cases e), fun _ _ _ => .pure _ _ (.bool _)⟩
  · exact ⟨_, [], hK, (fun _ e => by cases e), fun _ _ _ => .pure _ _ hv.sl_inv⟩
  · exact ⟨_, [], hK, (fun _ e => by cases e), fun _ _ _ => .pure _ _ hv.fn_inv⟩
  · rename_i id n
    split at hK
    · rename_i nn sz es hb
      obtain ⟨rfl, hK⟩ := hK
      have hkd : s.kds id = .row sz := by unfold AState.kds; rw [hb]; rfl
      refine ⟨_, _, hK, ?_, ?_⟩
      · intro m hm
        rw [List.mem_singleton] at hm
        subst hm
        exact ⟨nn, sz, es, hb, rfl⟩
      · intro lv ls hf
        obtain ⟨h1, h2⟩ := hf 0 (id, .osl nn sz es) rfl
        rw [Nat.add_zero] at h1 h2
        have e : v = lv j := by
          rw [h1]
          rcases hv.row_inv hkd with ⟨b, e1, e2⟩ | ⟨e1, e2, e3⟩
          · rw [e1]; unfold hdrOf; simp only [e2]
          · rw [e1]; unfold hdrOf; simp only [e3]
        rw [e]
        exact .row j nn sz es h2
    · exact hK.elim
  · exact hK.elim

theorem lendL_sound {X : Ctx} {s : AState} {a : Act} {w : World} (h : R X s a w) : ∀ (cs : List AV) (j : Nat) (vs : Nat → Value) (K : List AV → List (Nat × AV) → Prop), (∀ (i : Nat) (_ : i < cs.length), VRel X s.kds w (vs i) (cs.getD i .top)) → lendL s j cs K →
    ∃ cs' us, K cs' us ∧ LentIn s us ∧ cs'.length = cs.length ∧ ∀ lv ls, FitsL X j us lv ls → ∀ (i : Nat) (_ : i < cs'.length), LArg w X.Sh lv ls (vs i) (cs'.getD i .top)
  | [], j, vs, K, _, hK => ⟨[], [], hK, (fun _ e => by cases e), rfl, fun _ _ _ i hi => absurd hi (by simp)⟩
  | c :: cs, j, vs, K, hv, hK => by
    have h0 := hv 0 (by simp)
    obtain ⟨c', u, hK, g1, g2⟩ := lendC_sound h h0 hK
    obtain ⟨cs', us, hK, k1, k2, k3⟩ := lendL_sound h cs (j + u.length) (fun i => vs (i + 1)) _ (fun i hi => hv (i + 1) (by simpa using hi)) hK
    refine ⟨_, _, hK, ?_, by simp [k2], ?_⟩
    · intro m hm
      rcases List.mem_append.1 hm with e | e
      · exact g1 m e
      · exact k1 m e
    · intro lv ls hf i hi
      cases i with
      | zero => exact g2 lv ls hf.left
      | succ i => exact k3 lv ls hf.right i (by simpa using hi)

theorem lendP_sound {X : Ctx} {s : AState} {a : Act} {w : World} (h : R X s a w) {j : Nat} {c : AV} {v : Value} {K : AV → List (Nat × AV) → Prop} (hv : VRel X s.kds w v c) (hK : lendP s j c K) :
    ∃ c' u, K c' u ∧ LentIn s u ∧ ∀ lv ls, FitsL X j u lv ls → LArg w X.Sh lv ls v c' := by
  unfold lendP at hK
  split at hK
  · rename_i cs
    obtain ⟨vs, rfl, hl, hr⟩ := hv.agg_inv
    obtain ⟨cs', us, hK, k1, k2, k3⟩ := lendL_sound h cs j (fun i => vs.getD i undef) _ hr hK
    exact ⟨_, us, hK, k1, fun lv ls hf => .agg vs cs' (by omega) (k3 lv ls hf)⟩
  · exact lendC_sound h hv hK

theorem lendA_sound {X : Ctx} {s : AState} {a : Act} {w : World} (h : R X s a w) : ∀ (cs : List AV) (j : Nat) (vs : Nat → Value) (K : List AV → List (Nat × AV) → Prop), (∀ (i : Nat) (_ : i < cs.length), VRel X s.kds w (vs i) (cs.getD i .top)) → lendA s j cs K →
    ∃ cs' us, K cs' us ∧ LentIn s us ∧ cs'.length = cs.length ∧ ∀ lv ls, FitsL X j us lv ls → ∀ (i : Nat) (_ : i < cs'.length), LArg w X.Sh lv ls (vs i) (cs'.getD i .top)
  | [], j, vs, K, _, hK => ⟨[], [], hK, (fun _ e => by cases e), rfl, fun _ _ _ i hi => absurd hi (by simp)⟩
  | c :: cs, j, vs, K, hv, hK => by
    have h0 := hv 0 (by simp)
    obtain ⟨c', u, hK, g1, g2⟩ := lendP_sound h h0 hK
    obtain ⟨cs', us, hK, k1, k2, k3⟩ := lendA_sound h cs (j + u.length) (fun i => vs (i + 1)) _ (fun i hi => hv (i + 1) (by simpa using hi)) hK
    refine ⟨_, _, hK, ?_, by simp [k2], ?_⟩
    · intro m hm
      rcases List.mem_append.1 hm with e | e
      · exact g1 m e
      · exact k1 m e
    · intro lv ls hf i hi
      cases i with
      | zero => exact g2 lv ls hf.left
      | succ i => exact k3 lv ls hf.right i (by simpa using hi)

/-- A call of such a function, by any contract that fits. -/
def CallMTo (P : Program) (k : FuncId) (args ls : List AV) [K : Kont (AV → List AV → Prop)] : Prop :=
  ∃ Q, FSpecM P k args ls Q ∧ ∀ r ls', Q r ls' → K.k r ls'

theorem CallMTo.of {P : Program} {k : FuncId} {args ls : List AV} {K : AV → List AV → Prop} {Q : AV → List AV → Prop} (h : FSpecM P k args ls Q) (hK : ∀ r ls', Q r ls' → K r ls') : @CallMTo P k args ls ⟨K⟩ := ⟨Q, h, hK⟩

def setLent : List (Nat × AV) → List AV → List (Nat × ABlk)
  | (id, _) :: r, .osl nn sz es :: r' => (id, .row true nn sz es) :: setLent r r'
  | _, _ => []

def callMK (P : Program) (s : AState) (d : Option Nat) (k : FuncId) (args : List AV) (Φ : AState → Prop) : Prop :=
  lendA s 0 args fun args' us => (us.map Prod.fst).Nodup ∧ us.length < 100 ∧ @CallMTo P k args' (us.map Prod.snd) ⟨fun r ls' => Φ ({ s with hp := setLent us ls' ++ s.hp }.put d r)⟩

theorem setLent_blk : ∀ (us : List (Nat × AV)) (ls' : List AV) (r : List (Nat × ABlk)), lkL (us.map Prod.snd) ls' → (us.map Prod.fst).Nodup →
    (∀ (i : Nat) (m : Nat × AV) (nn : Bool) (sz : Nat) (es : List (List AV)), us[i]? = some m → ls'[i]? = some (AV.osl nn sz es) → getL .none (setLent us ls' ++ r) m.1 = .row true nn sz es) ∧
    ∀ id, id ∉ us.map Prod.fst → getL .none (setLent us ls' ++ r) id = getL .none r id
  | [], _, r, _, _ => ⟨fun i m nn sz es hi _ => by simp at hi, fun id _ => by simp [setLent]⟩
  | (id0, a) :: us, [], r, h, _ => by cases a <;> exact h.elim
  | (id0, a) :: us, b :: ls', r, h, hnd => by
    cases a <;> try exact h.elim
    cases b <;> try exact h.elim
    rename_i nn0 sz0 es0 nn1 sz1 es1
    obtain ⟨h0, h⟩ := h
    rw [List.map_cons, List.nodup_cons] at hnd
    obtain ⟨g1, g2⟩ := setLent_blk us ls' r h hnd.2
    constructor
    · intro i m nn sz es hi hj
      show getL ABlk.none ((id0, ABlk.row true nn1 sz1 es1) :: (setLent us ls' ++ r)) m.1 = _
      rw [getL_cons]
      cases i with
      | zero =>
        simp only [List.getElem?_cons_zero, Option.some.injEq, AV.osl.injEq] at hi hj
        subst hi
        obtain ⟨rfl, rfl, rfl⟩ := hj
        rw [if_pos rfl]
      | succ i =>
        simp only [List.getElem?_cons_succ] at hi hj
        have : m.1 ≠ id0 := fun e => hnd.1 (List.mem_map.2 ⟨m, List.mem_of_getElem? hi, e⟩)
        rw [if_neg this]
        exact g1 i m nn sz es hi hj
    · intro id hid
      show getL ABlk.none ((id0, ABlk.row true nn1 sz1 es1) :: (setLent us ls' ++ r)) id = _
      rw [List.map_cons, List.mem_cons] at hid
      rw [getL_cons, if_neg (fun e => hid (.inl e))]
      exact g2 id (fun e => hid (.inr e))

theorem callMK_sound {P : Program} {X : Ctx} {s : AState} {a : Act} {w : World} {k : FuncId} {args : List AV} {vs : Array Value} {d : Option Nat} {Φ : AState → Prop} (h : R X s a w) (hd : ∀ i, d = some i → i < s.nt)
    (hl : vs.size = args.length) (hv : ∀ (i : Nat) (_ : i < args.length), VRel X s.kds w (vs.getD i undef) (args.getD i .top)) (hK : callMK P s d k args Φ) :
    (∀ w, (callFunc k vs).run P w = .ok (.enter k vs) w) ∧ Calls P k vs w fun e w' => ∃ v, e = .returned v ∧ Post X.base Φ (a.put d v) w' := by
  classical
  unfold callMK at hK
  obtain ⟨args', us, ⟨hnd, _, Q, ⟨hcall, hspec⟩, hQ⟩, hus, hl', hargs⟩ := lendA_sound h args 0 (fun i => vs.getD i undef) _ hv hK
  refine ⟨fun w => hcall vs w, ?_⟩
  let lv : Nat → Value := fun i => match us[i]? with | some m => hdrOf X m | none => undef
  let LF : Nat → Nat → Prop := fun i x => ∃ m, us[i]? = some m ∧ X.own x = some m.1
  have hlv : ∀ (i : Nat) (m : Nat × AV), us[i]? = some m → lv i = hdrOf X m := by
    intro i m hi
    show (match us[i]? with | some m => hdrOf X m | none => undef) = _
    rw [hi]
  have hinj : ∀ (i j : Nat) (m m' : Nat × AV), us[i]? = some m → us[j]? = some m' → m.1 = m'.1 → i = j := by
    intro i j m m' hi hj e
    have hi' : (us.map Prod.fst)[i]? = some m.1 := by rw [List.getElem?_map, hi]; rfl
    have hj' : (us.map Prod.fst)[j]? = some m.1 := by rw [List.getElem?_map, hj, e]; rfl
    have hlt := (List.getElem?_eq_some_iff.1 hi').1
    exact (List.getElem?_inj hlt hnd).1 (hi'.trans hj'.symm)
  have hmem : ∀ i, i < us.length → ∃ m, us[i]? = some m ∧ m ∈ us := fun i hi => ⟨us[i], List.getElem?_eq_getElem hi, List.getElem_mem hi⟩
  have hlent : Lents w lv (us.map Prod.snd) LF := by
    constructor
    · intro i q hi
      rw [List.getElem?_map] at hi
      obtain ⟨m, hm, rfl⟩ := Option.map_eq_some_iff.1 hi
      obtain ⟨nn, sz, es, hb, hm2⟩ := hus m (List.mem_of_getElem? hm)
      refine ⟨nn, sz, es, hm2, ?_⟩
      have hB := h.bl m.1
      rw [hb] at hB
      obtain ⟨hz, hls, hB⟩ := hB
      have hLF : ∀ x, LF i x ↔ X.own x = some m.1 := fun x => ⟨fun ⟨m', h1, h2⟩ => by rw [hm] at h1; cases h1; exact h2, fun e => ⟨m, hm, e⟩⟩
      refine ⟨hz, hls, ?_⟩
      rw [hlv i m hm]
      rcases hB with ⟨e1, e2, e3, e4⟩ | ⟨b, c, ty, e1, e2, e3, e4, e6⟩
      · refine .inl ⟨?_, e3, e2, fun x hx => e4 x ((hLF x).1 hx)⟩
        unfold hdrOf; rw [hm2, e1]
      · rcases e6.2 with ⟨_, FF, f1, f2, f3, f4⟩ | ⟨e7, _⟩
        · refine .inr ⟨b, X.cap m.1, c, ty, FF, ?_, e2, e3, ⟨e4, e6.1⟩, f1, f2, f3, fun x => (hLF x).trans (f4 x)⟩
          unfold hdrOf; rw [hm2, e1]
        · cases e7
    · rintro i j x hi hj ⟨m, h1, h2⟩ ⟨m', h3, h4⟩
      rw [h2] at h4
      exact hinj i j m m' h1 h3 (Option.some.inj h4)
  have hLM : ∀ x, LM (us.map Prod.snd) LF x ↔ ∃ m, m ∈ us ∧ X.own x = some m.1 := by
    intro x
    constructor
    · rintro ⟨i, _, m, h1, h2⟩
      exact ⟨m, List.mem_of_getElem? h1, h2⟩
    · rintro ⟨m, h1, h2⟩
      obtain ⟨i, hi, rfl⟩ := List.getElem_of_mem h1
      exact ⟨i, by simpa using hi, us[i], List.getElem?_eq_getElem hi, h2⟩
  have hfits : FitsL X 0 us lv (us.map Prod.snd) := by
    intro i m hi
    rw [Nat.zero_add, List.getElem?_map, hi]
    exact ⟨hlv i m hi, rfl⟩
  refine (hspec w X.Sh vs lv LF (by omega) (hargs lv _ hfits) hlent ?_).mono ?_
  · intro x hx hS
    obtain ⟨m, _, h2⟩ := (hLM x).1 hx
    rw [hS.1] at h2; cases h2
  rintro e w' ⟨v, r, ls', LF', rfl, hQr, hW, hr, hlk, hL', hO⟩
  refine ⟨v, rfl, ?_⟩
  have hΦ := hQ r ls' hQr
  obtain ⟨hlen, hlk2⟩ := lkL_get hlk
  obtain ⟨hb1, hb2⟩ := setLent_blk us ls' s.hp hlk hnd
  have hT : ∀ (i : Nat) (m : Nat × AV), us[i]? = some m → ∃ nn sz es es', s.blk m.1 = .row true nn sz es ∧ ls'[i]? = some (AV.osl nn sz es') ∧ OwnS w' (lv i) nn sz es' (LF' i) := by
    intro i m hi
    obtain ⟨nn, sz, es, g1, g2⟩ := hus m (List.mem_of_getElem? hi)
    obtain ⟨es', g3⟩ := hlk2 i nn sz es (by rw [List.getElem?_map, hi, ← g2]; rfl)
    obtain ⟨nn', sz', es'', g4, g5⟩ := hL'.own i _ g3
    cases g4
    exact ⟨nn, sz, es, es', g1, g3, g5⟩
  have hlen' : ls'.length = us.length := by rw [← hlen, List.length_map]
  -- who owns what behind the call
  let own' : Nat → Option Nat := fun x => if hx : ∃ (i : Nat) (m : Nat × AV), us[i]? = some m ∧ LF' i x then some (hx.choose_spec.choose).1 else if ∃ m, m ∈ us ∧ X.own x = some m.1 then none else X.own x
  have hown1 : ∀ (i : Nat) (m : Nat × AV) (x : Nat), us[i]? = some m → LF' i x → own' x = some m.1 := by
    intro i m x hi hx
    have hex : ∃ (i : Nat) (m : Nat × AV), us[i]? = some m ∧ LF' i x := ⟨i, m, hi, hx⟩
    show (if hx : ∃ (i : Nat) (m : Nat × AV), us[i]? = some m ∧ LF' i x then some (hx.choose_spec.choose).1 else _) = _
    rw [dif_pos hex]
    have hs := hex.choose_spec.choose_spec
    have hi' := (List.getElem?_eq_some_iff.1 hi).1
    have hi'' := (List.getElem?_eq_some_iff.1 hs.1).1
    have e := hL'.dis _ _ x (by omega) (by omega) hs.2 hx
    have h3 : us[i]? = some hex.choose_spec.choose := (congrArg (fun q => us[q]?) e).symm.trans hs.1
    rw [hi] at h3
    exact congrArg (fun q : Nat × AV => some q.1) (Option.some.inj h3).symm
  have hown2 : ∀ x, (∀ (i : Nat) (m : Nat × AV), us[i]? = some m → ¬ LF' i x) → own' x = if ∃ m, m ∈ us ∧ X.own x = some m.1 then none else X.own x := by
    intro x hx
    show (if hx : ∃ (i : Nat) (m : Nat × AV), us[i]? = some m ∧ LF' i x then some (hx.choose_spec.choose).1 else _) = _
    rw [dif_neg (fun ⟨i, m, h1, h2⟩ => hx i m h1 h2)]
  have hown3 : ∀ x id, own' x = some id → (∃ (i : Nat) (m : Nat × AV), us[i]? = some m ∧ LF' i x ∧ m.1 = id) ∨ ((∀ m, m ∈ us → m.1 ≠ id) ∧ X.own x = some id) := by
    intro x id hx
    by_cases hex : ∃ (i : Nat) (m : Nat × AV), us[i]? = some m ∧ LF' i x
    · obtain ⟨i, m, h1, h2⟩ := hex
      rw [hown1 i m x h1 h2] at hx
      exact .inl ⟨i, m, h1, h2, Option.some.inj hx⟩
    · rw [hown2 x (fun i m h1 h2 => hex ⟨i, m, h1, h2⟩)] at hx
      split at hx
      · cases hx
      · rename_i hne
        exact .inr ⟨fun m hm e => hne ⟨m, hm, by rw [e]; exact hx⟩, hx⟩
  have hLF'O : ∀ (i : Nat) (m : Nat × AV) (x : Nat), us[i]? = some m → LF' i x → (∃ m, m ∈ us ∧ X.own x = some m.1) ∨ w.heap.size ≤ x := by
    intro i m x hi hx
    have hi' := (List.getElem?_eq_some_iff.1 hi).1
    rcases hO x ⟨i, by omega, hx⟩ with e | e
    · exact .inl ((hLM x).1 e)
    · exact .inr e
  let X' : Ctx := { X with own := own' }
  let T : Nat → Prop := fun id => ∃ m, m ∈ us ∧ m.1 = id
  have hWS : WStep X X' w w' T := by
    refine ⟨rfl, hW.os, hW.tape, hW.output, hW.size, ?_, fun _ _ => ⟨rfl, rfl⟩, ?_, ?_, fun _ _ => ⟨rfl, rfl⟩⟩
    · intro x hx hxT
      have hno : ¬ ∃ m, m ∈ us ∧ X.own x = some m.1 := fun ⟨m, h1, h2⟩ => hxT m.1 ⟨m, h1, rfl⟩ h2
      refine ⟨hW.heap x hx (fun e => hno ((hLM x).1 e)), ?_⟩
      show own' x = X.own x
      rw [hown2 x (fun i m h1 h2 => by
        rcases hLF'O i m x h1 h2 with e | e
        · exact hno e
        · omega), if_neg hno]
    · intro x id hid hx
      rcases hown3 x id hx with ⟨i, m, h1, _, h2⟩ | ⟨_, h1⟩
      · exact absurd ⟨m, List.mem_of_getElem? h1, h2⟩ hid
      · exact h1
    · intro x id hx
      rcases hown3 x id hx with ⟨i, m, h1, h2, _⟩ | ⟨_, h1⟩
      · obtain ⟨_, _, _, _, _, _, g⟩ := hT i m h1
        refine ⟨g.lt x h2, ?_⟩
        rcases hLF'O i m x h1 h2 with ⟨m', _, e⟩ | e
        · exact (h.ow x _ e).2
        · exact .inr (Nat.le_trans h.size e)
      · exact ⟨Nat.lt_of_lt_of_le (h.ow x id h1).1 hW.size, (h.ow x id h1).2⟩
  have hblk : ∀ i, ({ s with hp := setLent us ls' ++ s.hp } : AState).blk i = getL .none (setLent us ls' ++ s.hp) i := fun _ => rfl
  have hN : ∀ id, T id → NameOk X X' s.kds ({ s with hp := setLent us ls' ++ s.hp } : AState).kds id := by
    rintro id ⟨m, hm, rfl⟩
    obtain ⟨i, hi, rfl⟩ := List.getElem_of_mem hm
    obtain ⟨nn, sz, es, es', g1, g2, _⟩ := hT i us[i] (List.getElem?_eq_getElem hi)
    have e1 : s.kds us[i].1 = .row sz := by unfold AState.kds; rw [g1]; rfl
    have e2 : ({ s with hp := setLent us ls' ++ s.hp } : AState).kds us[i].1 = .row sz := by
      unfold AState.kds; rw [hblk, hb1 i us[i] nn sz es' (List.getElem?_eq_getElem hi) g2]; rfl
    refine .inr (.inr ⟨(by rw [e1]; exact fun e => by cases e), by rw [e1, e2], rfl, rfl⟩)
  have hRR : R X' { s with hp := setLent us ls' ++ s.hp } a w' := by
    refine h.step hWS h.nt h.df (fun id hid => ?_) hN (fun hV i => hV _ _ (h.fr i)) ?_
    · rw [hblk]
      refine hb2 id (fun e => hid ?_)
      obtain ⟨m, h1, h2⟩ := List.mem_map.1 e
      exact ⟨m, h1, h2⟩
    · rintro _ id ⟨m, hm, rfl⟩
      obtain ⟨i, hi, rfl⟩ := List.getElem_of_mem hm
      have hi' : us[i]? = some us[i] := List.getElem?_eq_getElem hi
      obtain ⟨nn, sz, es, es', g1, g2, g3⟩ := hT i us[i] hi'
      rw [hblk, hb1 i us[i] nn sz es' hi' g2]
      have hiff : ∀ x, X'.own x = some us[i].1 ↔ LF' i x := by
        intro x
        constructor
        · intro hx
          rcases hown3 x _ hx with ⟨j, m', h1, h2, h3⟩ | ⟨h1, _⟩
          · rw [hinj i j us[i] m' hi' h1 h3.symm]; exact h2
          · exact absurd rfl (h1 us[i] hm)
        · exact hown1 i us[i] x hi'
      obtain ⟨hz, hls, g3⟩ := g3
      refine ⟨hz, hls, ?_⟩
      obtain ⟨_, _, _, q1, q2⟩ := hus us[i] hm
      rw [hlv i us[i] hi'] at g3
      unfold hdrOf at g3
      rw [q2] at g3
      rcases g3 with ⟨e1, e2, e3, e4⟩ | ⟨b, cap, c, ty, FF, e1, e2, e3, e4, f1, f2, f3, f4⟩
      · refine .inl ⟨?_, e3, e2, fun x hx => e4 x ((hiff x).1 hx)⟩
        show X.at_ us[i].1 = none
        cases ha : X.at_ us[i].1 with
        | none => rfl
        | some b => simp only [ha] at e1; cases e1
      · cases ha : X.at_ us[i].1 with
        | none => simp only [ha] at e1; cases e1
        | some b' =>
          simp only [ha] at e1
          obtain ⟨e5, e6, e7⟩ := Value.slice.inj e1
          cases e5
          refine .inr ⟨b, c, ty, rfl, e2, ?_, ?_, fun q => (show X.cap us[i].1 = 0 by rw [e7]; exact e4.2 q), .inl ⟨rfl, FF, f1, f2, f3, fun x => (hiff x).trans (f4 x)⟩⟩
          · show c.size = X.cap us[i].1 * sz
            rw [e7]; exact e3
          · show es'.length ≤ X.cap us[i].1
            rw [e7]; exact e4.1
  exact ⟨X', _, rfl, hRR.put (.pure (hr.mono fun _ e => e.elim)) hd, hΦ⟩

end Go.Proofs.Yteebkimhfaodnaa

/- One operation of any kind, and regions that keep the order of their text. -/
namespace Go.Proofs.Yteebkimhfaodnaa
open Go Go.RowKit

/-- Two values of one kind, of which a pick makes one. -/
def AV.scal : AV → Bool
  | .int _ _ => true
  | .bool _ => true
  | .may _ (.int _ _) => true
  | .may _ (.bool _) => true
  | _ => false

/-- A pick: of two values that may be merged, the merged one; else by cases. -/
def pick2K (c x y : AV) (K : AV → Prop) : Prop :=
  match x.scal && y.scal with
  | true => pickK c x y K
  | false => match c with
    | .bool c => bothK c true (K x) (K y)
    | _ => False

def vals (s : AState) (xs : List Operand) : List AV := xs.map s.ev

def builtinK (T : Tab) (s : AState) (b : Builtin) (tys : Array TypeId) (xs : List AV) (K : AV → Prop) : Prop :=
  match b, tys.toList, xs with
  | .len, [t], [x] => lenK T s t x K
  | .max, _, x :: xs => maxK x xs K
  | .min, _, x :: xs => minK x xs K
  | _, _, _ => False

/-- A store, into a variable or into an element of a row. -/
def storeK (s : AState) (size : Nat) (x y : AV) (K : AV → List (Nat × ABlk) → Prop) : Prop :=
  match x with
  | .elt id i off => storeEltK s size (.elt id i off) y K
  | x => storeVarK s size x y K

/-- append, called as a builtin. -/
def appendOpK (T : Tab) (s : AState) (d : Option Nat) (tys : Array TypeId) (xs : List AV) (K : AV → List (Nat × ABlk) → Prop) : Prop :=
  match tys.toList, xs with
  | [t, t'], [x, y] => t' = t ∧ appendK T s d t x y K
  | _, _ => False

/-- What an operation leaves. -/
def opK (P : Program) (T : Tab) (s : AState) (o : Oper) (Φ : AState → Prop) : Prop :=
  match o.op with
  | .move x => Φ (s.put o.dst (s.ev x))
  | .assign x => Φ (s.put o.dst (s.ev x))
  | .pick c a b => pick2K (s.ev c) (s.ev a) (s.ev b) fun v => Φ (s.put o.dst v)
  | .alloc t => allocK T s o.dst t fun v ups => Φ (s.app o.dst v ups)
  | .box _ x => boxOpK s o.dst (s.ev x) fun v ups => Φ (s.app o.dst v ups)
  | .build t ps => buildK T s t ps.toList fun v => Φ (s.put o.dst v)
  | .load t a => loadK T s t (s.ev a) fun v ups => Φ (s.app o.dst v ups)
  | .store t a x => (match tyShape T t with
    | some (_, size, _) => storeK s size (s.ev a) (s.ev x) fun _ ups => Φ (s.app o.dst (.tup []) ups)
    | none => False)
  | .binOp op t x y _ => binK T op t (s.ev x) (s.ev y) fun v => Φ (s.put o.dst v)
  | .unOp op _ x => unK op (s.ev x) fun v => Φ (s.put o.dst v)
  | .convert a b x => convertK T a b (s.ev x) fun v => Φ (s.put o.dst v)
  | .fieldAddr t x f => fieldAddrK T s t (s.ev x) f fun v => Φ (s.put o.dst v)
  | .field t x f => fieldK T t (s.ev x) f fun v => Φ (s.put o.dst v)
  | .indexAddr t x i => indexAddrK T s t (s.ev x) (s.ev i) fun v => Φ (s.put o.dst v)
  | .index t x i => indexK T t (s.ev x) (s.ev i) fun v => Φ (s.put o.dst v)
  | .extract x i => extractK (s.ev x) i fun v => Φ (s.put o.dst v)
  | .nilCheck x => nilCheckK s (s.ev x) fun v => Φ (s.put o.dst v)
  | .slice t x lo hi mx => (match mx with
    | none => (match lo, s.ev x with
      | some _, .row id n => (match id == 650 with
        | true => viewK T s t id n (lo.map s.ev) (hi.map s.ev) fun v => Φ (s.put o.dst v)
        | false => (match s.blk id with
          | .row _ _ sz es => n = es.length ∧ sliceK T { s with hp := (id, .fro sz es) :: s.hp } t (.sl none es) (lo.map s.ev) (hi.map s.ev) fun v => Φ (({ s with hp := (id, .fro sz es) :: s.hp } : AState).put o.dst v)
          | _ => False))
      | _, _ => sliceK T s t (s.ev x) (lo.map s.ev) (hi.map s.ev) fun v => Φ (s.put o.dst v))
    | some _ => False)
  | .makeSlice t x y => makeSliceK T s o.dst t (s.ev x) (s.ev y) fun v ups => Φ (s.app o.dst v ups)
  | .buildSlice t len ps => buildSliceK T s o.dst t len ps.toList fun v ups => Φ (s.app o.dst v ups)
  | .makeFunc f first caps => makeFuncK s f (first.toList.map s.ev) (caps.toList.map s.ev) fun v ups => Φ (s.app o.dst v ups)
  | .makeMap t r => (match r with
    | none => makeMapK P T s o.dst t fun v ups => Φ (s.app o.dst v ups)
    | some _ => False)
  | .insert t m x v => insertK P T s t (s.ev m) (s.ev x) (s.ev v) fun ups => Φ (s.app o.dst (.tup []) ups)
  | .lookup t m x ok => (match ok with
    | false => lookupK P T t (s.ev m) (s.ev x) fun v => Φ (s.put o.dst v)
    | true => False)
  | .call c => (match c.callee with
    | .value f => (match s.ev f with
      | .fn k caps => (match mutB k with
        | true => callMK P s o.dst k (vals s c.args.toList ++ caps) Φ
        | false => callK P s o.dst k (vals s c.args.toList ++ caps) Φ)
      | _ => False)
    | .builtin .append => appendOpK T s o.dst c.argTypes (vals s c.args.toList) fun v ups => Φ (s.app o.dst v ups)
    | .builtin b => builtinK T s b c.argTypes (vals s c.args.toList) fun v => Φ (s.put o.dst v)
    | _ => False)
  | _ => False

theorem Post.of {B : Base} {K : AState → Prop} {X : Ctx} {s : AState} {a : Act} {w : World} (hB : X.base = B) (h : R X s a w) (hK : K s) : Post B K a w := ⟨X, s, hB, h, hK⟩

theorem fn_eval {X : Ctx} {kd : Nat → Kd} {w : World} {v : Value} {k : FuncId} {caps : List AV} (h : VRel X kd w v (.fn k caps)) :
    ∃ vs : Array Value, v = .func (.func k) #[] vs ∧ vs.size = caps.length ∧ ∀ (i : Nat) (_ : i < caps.length), VRel X kd w (vs.getD i undef) (caps.getD i .top) := by
  cases h with
  | pure h => cases h with
    | fn f vs cs hl h => exact ⟨vs, rfl, hl, fun i hi => .pure (h i hi)⟩

theorem vals_rel {X : Ctx} {s : AState} {a : Act} {w : World} (h : R X s a w) (xs : Array Operand) :
    (xs.map a.eval).size = (vals s xs.toList).length ∧ ∀ (i : Nat) (_ : i < (vals s xs.toList).length), VRel X s.kds w ((xs.map a.eval).getD i undef) ((vals s xs.toList).getD i .top) := by
  refine ⟨by simp [vals], fun i hi => ?_⟩
  have hi' : i < xs.size := by simpa [vals] using hi
  have e1 : (xs.map a.eval).getD i undef = a.eval xs[i] := by simp [Array.getD_eq_getD_getElem?, hi']
  have e2 : (vals s xs.toList).getD i .top = s.ev xs[i] := by
    simp [vals, List.getD_eq_getElem?_getD, hi']
  rw [e1, e2]
  exact h.ev _

theorem pick2K_sound {P : Program} {X : Ctx} {kd : Nat → Kd} {w : World} {c x y : AV} {vc vx vy : Value} {K : AV → Prop} (hc : VRel X kd w vc c) (hx : VRel X kd w vx x) (hy : VRel X kd w vy y) (h : pick2K c x y K) :
    ∃ v av, (do pure (.value (if ← asBool vc then vx else vy)) : Sem Next).run P w = .ok (.value v) w ∧ VRel X kd w v av ∧ K av := by
  unfold pick2K at h
  split at h
  · exact pickK_sound hc hx hy h
  · split at h
    · rename_i c
      have e := hc.bool_inv
      subst e
      cases c with
      | true => exact ⟨vx, x, by simp [asBool], hx, h.1 rfl⟩
      | false => exact ⟨vy, y, by simp [asBool], hy, h.2 rfl⟩
    · exact h.elim

theorem list1 {α : Type} {x : Array α} {a : α} (h : x.toList = [a]) : x = #[a] := by
  rw [← Array.toArray_toList (xs := x), h]

theorem builtinK_sound {P : Program} {T : Tab} (hT : TabOk P T) {X : Ctx} {s : AState} {w : World} {b : Builtin} {tys : Array TypeId} {ty : TypeId} {cs : Array Bool} {vs : Array Value} {xs : List AV} {K : AV → Prop}
    (hl : vs.size = xs.length) (hv : ∀ (i : Nat) (_ : i < xs.length), VRel X s.kds w (vs.getD i undef) (xs.getD i .top)) (h : builtinK T s b tys xs K) :
    ∃ r ar, (builtin b tys ty cs vs).run P w = .ok (.value r) w ∧ VRel X s.kds w r ar ∧ K ar := by
  unfold builtinK at h
  obtain ⟨l, rfl⟩ : ∃ l : List Value, vs = l.toArray := ⟨vs.toList, by simp⟩
  have hv' : ∀ (i : Nat) (_ : i < xs.length), VRel X s.kds w (l.getD i undef) (xs.getD i .top) := by
    intro i hi
    have := hv i hi
    rwa [← arr_getD] at this
  split at h
  · rename_i t x ht
    have e := list1 ht
    subst e
    match l, hl with
    | [v], _ =>
      obtain ⟨r, ar, h1, h2, h3⟩ := lenK_sound (ty := ty) hT (hv' 0 (by simp)) h
      refine ⟨r, ar, ?_, h2, h3⟩
      simp only [builtin, Sem.run_bind]
      rw [show (Builtin.len_ #[t] ty #[v]).run P w = .ok r w from h1]
      rfl
  · rename_i x xs
    match l, hl with
    | v :: l, hl =>
      obtain ⟨r, ar, h1, h2, h3⟩ := maxK_sound (P := P) l xs v x K (hv' 0 (by simp)) (by simpa using hl) (fun i hi => by
        have := hv' (i + 1) (by simp; omega)
        rwa [getD_succ, getD_succ] at this) h
      refine ⟨r, ar, ?_, h2, h3⟩
      simp only [builtin, Builtin.max_, Sem.run_bind]
      rw [show (l.foldlM Builtin.max2 v).run P w = .ok r w from h1]
      rfl
  · rename_i x xs
    match l, hl with
    | v :: l, hl =>
      obtain ⟨r, ar, h1, h2, h3⟩ := minK_sound (P := P) l xs v x K (hv' 0 (by simp)) (by simpa using hl) (fun i hi => by
        have := hv' (i + 1) (by simp; omega)
        rwa [getD_succ, getD_succ] at this) h
      refine ⟨r, ar, ?_, h2, h3⟩
      simp only [builtin, Builtin.min_, Sem.run_bind]
      rw [show (l.foldlM Builtin.min2 v).run P w = .ok r w from h1]
      rfl
  · exact h.elim

theorem shape_size {P : Program} {T : Tab} (hT : TabOk P T) {t : TypeId} {ag fl : Bool} {size : Nat} (h : tyShape T t = some (ag, size, fl)) (w : World) : (sizeOf t).run P w = .ok size w := by
  unfold tyShape at h
  cases hi : T t with
  | none => simp [hi] at h
  | some i =>
    obtain ⟨nf, d, z, ok⟩ := hT.get hi
    simp only [hi, Option.some.injEq, Prod.mk.injEq] at h
    rw [← h.2.1]
    exact ok.run_size w

theorem storeK_sound {P : Program} {X : Ctx} {s : AState} {a : Act} {w : World} {t : TypeId} {size : Nat} {x y : AV} {v u : Value} {K : AV → List (Nat × ABlk) → Prop} (h : R X s a w) (hv : VRel X s.kds w v x) (hu : VRel X s.kds w u y)
    (hsz : (sizeOf t).run P w = .ok size w) (hK : storeK s size x y K) :
    ∃ ups X' w', (Instr.storeAt t v u).run P w = .ok () w' ∧ X'.base = X.base ∧ R X' { s with hp := ups ++ s.hp } a w' ∧ K .top ups := by
  unfold storeK at hK
  split at hK
  · exact storeEltK_sound h hv hu hsz hK
  · obtain ⟨ups, w', h1, h2, h3⟩ := storeVarK_sound h hv hu hsz hK
    exact ⟨ups, X, w', h1, rfl, h2, h3⟩

/-- One operation. -/
theorem opK_sound {P : Program} {T : Tab} (hT : TabOk P T) {X : Ctx} {s : AState} {a : Act} {w : World} {o : Oper} {Φ : AState → Prop} {Q : Exit → Act → World → Prop} (h : R X s a w) (hd : ∀ d, o.dst = some d → d < s.nt) (hK : opK P T s o Φ) :
    o.wp P a w (Post X.base Φ) Q := by
  unfold opK at hK
  -- a value of the same world, no block of the abstract heap turned
  have vput : ∀ (sem : Sem Next) (K : AV → Prop), execOp a.eval o = sem → (∃ r ar, sem.run P w = .ok (.value r) w ∧ VRel X s.kds w r ar ∧ K ar) → (∀ ar, K ar → Φ (s.put o.dst ar)) → o.wp P a w (Post X.base Φ) Q := by
    rintro sem K e ⟨r, ar, h1, h2, h3⟩ h4
    exact wp_of_run (by rw [e]; exact h1) (.of rfl (h.put h2 hd) (h4 _ h3))
  have vrun : ∀ (sem : Sem Value) (K : AV → Prop), execOp a.eval o = (do pure (.value (← sem))) → (∃ r ar, sem.run P w = .ok r w ∧ VRel X s.kds w r ar ∧ K ar) → (∀ ar, K ar → Φ (s.put o.dst ar)) → o.wp P a w (Post X.base Φ) Q := by
    rintro sem K e ⟨r, ar, h1, h2, h3⟩ h4
    refine vput _ K e ⟨r, ar, ?_, h2, h3⟩ h4
    rw [Sem.run_bind, h1]; rfl
  have vapp : ∀ (sem : Sem Value) (K : AV → List (Nat × ABlk) → Prop), execOp a.eval o = (do pure (.value (← sem))) →
      (∃ r ar ups X' w', sem.run P w = .ok r w' ∧ X'.base = X.base ∧ R X' { s with hp := ups ++ s.hp } a w' ∧ VRel X' ({ s with hp := ups ++ s.hp } : AState).kds w' r ar ∧ K ar ups) → (∀ ar ups, K ar ups → Φ (s.app o.dst ar ups)) → o.wp P a w (Post X.base Φ) Q := by
    rintro sem K e ⟨r, ar, ups, X', w', h1, h2, h3, h4, h5⟩ h6
    refine wp_of_run (w' := w') (v := r) (by rw [e, Sem.run_bind, h1]; rfl) (.of h2 (h3.put h4 hd) (h6 _ _ h5))
  cases ho : o.op <;> simp only [ho] at hK <;> try exact hK.elim
  case move x => exact vput (pure (.value (a.eval x))) (fun v => v = s.ev x) (by simp [execOp, ho]) ⟨_, _, rfl, h.ev x, rfl⟩ (fun _ e => e ▸ hK)
  case assign x => exact vput (pure (.value (a.eval x))) (fun v => v = s.ev x) (by simp [execOp, ho]) ⟨_, _, rfl, h.ev x, rfl⟩ (fun _ e => e ▸ hK)
  case pick c x y => exact vput (do pure (.value (if ← asBool (a.eval c) then a.eval x else a.eval y))) _ (by simp only [execOp, ho]) (pick2K_sound (h.ev c) (h.ev x) (h.ev y) hK) (fun _ e => e)
  case alloc t => exact vapp (Instr.alloc t true (.tuple #[])) _ (by simp only [execOp, ho]) (allocK_sound hT h hK) (fun _ _ e => e)
  case box t x => exact vapp (Instr.box t (a.eval x)) _ (by simp only [execOp, ho]) (boxOpK_sound h (h.ev x) hK) (fun _ _ e => e)
  case build t ps => exact vrun (Instr.build t (ps.map fun (i, x) => (i, a.eval x))) _ (by simp only [execOp, ho]) (buildK_sound hT h hK) (fun _ e => e)
  case load t x =>
    refine vapp (Instr.loadAt t (a.eval x)) _ (by simp only [execOp, ho]) ?_ (fun _ _ e => e)
    obtain ⟨r, ar, ups, X', h1, h2, h3, h4, h5⟩ := loadK_sound hT h (h.ev x) hK
    exact ⟨r, ar, ups, X', w, h1, h2, h3, h4, h5⟩
  case store t x y =>
    cases hs : tyShape T t with
    | none => simp [hs] at hK
    | some q =>
      obtain ⟨ag, size, fl⟩ := q
      simp only [hs] at hK
      obtain ⟨ups, X', w', h1, hX, h2, h3⟩ := storeK_sound h (h.ev x) (h.ev y) (shape_size hT hs w) hK
      refine wp_of_skip (w' := w') (by simp only [execOp, ho, Sem.run_bind, h1]; rfl) (.of hX (h2.put (.pure (.tup #[] [] rfl (fun i hi => absurd hi (by simp)))) hd) h3)
  case binOp op t x y ty => exact vrun (do eqGuard op t x y (a.eval x) (a.eval y); binOp op t (a.eval x) (a.eval y)) _ (by simp only [execOp, ho]) (binK_sound hT (h.ev x) (h.ev y) hK) (fun _ e => e)
  case unOp op t x => exact vrun (Op.unary op (a.eval x)) _ (by simp only [execOp, ho]) (unK_sound (h.ev x) hK) (fun _ e => e)
  case convert t t' x => exact vrun (convert t t' (a.eval x)) _ (by simp only [execOp, ho]) (convertK_sound hT (h.ev x) hK) (fun _ e => e)
  case fieldAddr t x f => exact vrun (Instr.fieldAt t (a.eval x) f) _ (by simp only [execOp, ho]) (fieldAddrK_sound hT (h.ev x) hK) (fun _ e => e)
  case field t x f => exact vrun (Instr.field t (a.eval x) f) _ (by simp only [execOp, ho]) (fieldK_sound hT (h.ev x) hK) (fun _ e => e)
  case indexAddr t x i => exact vrun (Instr.indexAt t (a.eval x) (a.eval i)) _ (by simp only [execOp, ho]) (indexAddrK_sound hT (h.ev x) (h.ev i) hK) (fun _ e => e)
  case index t x i => exact vrun (Instr.index t (a.eval x) (a.eval i)) _ (by simp only [execOp, ho]) (indexK_sound hT (h.ev x) (h.ev i) hK) (fun _ e => e)
  case extract x i => exact vrun (Instr.extract (a.eval x) i) _ (by simp only [execOp, ho]) (extractK_sound (h.ev x) hK) (fun _ e => e)
  case nilCheck x =>
    obtain ⟨e, hK⟩ := nilCheckK_sound (h.ev x) hK
    refine wp_of_run (w' := w) (v := a.eval x) ?_ (.of rfl (h.put (h.ev x) hd) hK)
    rcases e with ⟨p, e⟩ | ⟨f, c, e⟩ <;> simp only [execOp, ho, e] <;> rfl
  case slice t x lo hi mx =>
    cases mx with
    | some m => exact hK.elim
    | none =>
      have h2 : ∀ (s : AState) (l : Option Operand), l.map a.eval = none → l.map s.ev = none := by
        intro s l e
        cases l with
        | none => rfl
        | some y => cases e
      have hplain : sliceK T s t (s.ev x) (lo.map s.ev) (hi.map s.ev) (fun v => Φ (s.put o.dst v)) → o.wp P a w (Post X.base Φ) Q := by
        intro hK'
        have h1 : ∀ (l : Option Operand) (v : Value), l.map a.eval = some v → ∃ b, l.map s.ev = some b ∧ VRel X s.kds w v b := by
          intro l v e
          cases l with
          | none => cases e
          | some y => cases e; exact ⟨_, rfl, h.ev y⟩
        have hs := sliceK_sound hT h (h.ev x) (h1 lo) (h2 s lo) (h1 hi) (h2 s hi) hK'
        refine vrun (Instr.sliceAt t (a.eval x) (lo.map a.eval) (hi.map a.eval) none) _ ?_ hs (fun _ e => e)
        simp only [execOp, ho, Option.map_none]
      dsimp only at hK
      split at hK
      · rename_i l id n hx
        split at hK
        · have h1 : ∀ (l : Option Operand) (v : Value), l.map a.eval = some v → ∃ b, l.map s.ev = some b ∧ VRel X s.kds w v b := by
            intro l v e
            cases l with
            | none => cases e
            | some y => cases e; exact ⟨_, rfl, h.ev y⟩
          have hv := h.ev x
          rw [hx] at hv
          obtain ⟨r, ar, g1, g2, g3⟩ := viewK_sound hT h hv (h1 (some l)) (h2 s (some l)) (h1 hi) (h2 s hi) hK
          refine wp_of_run (w' := w) (v := r) ?_ (.of rfl (h.put g2 hd) g3)
          have e : execOp a.eval o = (do pure (.value (← Instr.sliceAt t (a.eval x) (Option.map a.eval (some l)) (hi.map a.eval) none))) := by simp only [execOp, ho, Option.map_none]
          rw [e, Sem.run_bind, g1]
          rfl
        split at hK
        · rename_i own nn sz es hb
          obtain ⟨hn, hK⟩ := hK
          obtain ⟨X', e', h'⟩ := h.freeze hb
          have hv0 := h'.ev x
          rw [show ({ s with hp := (id, .fro sz es) :: s.hp } : AState).ev x = .row id n from hx] at hv0
          obtain ⟨c', u, ⟨rfl, rfl⟩, hr⟩ := argC_sound (K := fun c' u => c' = .sl none es ∧ u = false) (Tb := fun _ => False) h' (fun _ _ hf => hf) hv0 (by unfold argC; simp [blk_upd, hn])
          have hv : VRel X' ({ s with hp := (id, .fro sz es) :: s.hp } : AState).kds w (a.eval x) (.sl none es) := .pure (hr.mono fun y hy => ⟨by
            cases e : X'.own y with
            | none => rfl
            | some id => exact absurd (hy.2 id e).1 (by simp), hy.1⟩)
          have h1 : ∀ (l : Option Operand) (v : Value), l.map a.eval = some v → ∃ b, l.map s.ev = some b ∧ VRel X' ({ s with hp := (id, .fro sz es) :: s.hp } : AState).kds w v b := by
            intro l v e
            cases l with
            | none => cases e
            | some y => cases e; exact ⟨_, rfl, h'.ev y⟩
          obtain ⟨r, ar, g1, g2, g3⟩ := sliceK_sound hT h' hv (h1 (some l)) (h2 s (some l)) (h1 hi) (h2 s hi) hK
          refine wp_of_run (w' := w) (v := r) ?_ (.of e' (h'.put g2 hd) g3)
          have e : execOp a.eval o = (do pure (.value (← Instr.sliceAt t (a.eval x) (Option.map a.eval (some l)) (hi.map a.eval) none))) := by simp only [execOp, ho, Option.map_none]
          rw [e, Sem.run_bind, g1]
          rfl
        · exact hK.elim
      · exact hplain hK
  case makeSlice t x y => exact vapp (Instr.makeSlice t (a.eval x) (a.eval y)) _ (by simp only [execOp, ho]) (makeSliceK_sound hT h (h.ev x) (h.ev y) hK) (fun _ _ e => e)
  case buildSlice t len ps =>
    have hs := buildSliceK_sound (P := P) hT h hK
    obtain ⟨r, ar, ups, X', w', h1, h2, h3, h4, h5⟩ := hs
    refine wp_of_run (w' := w') (v := r) ?_ (.of h2 (h3.put h4 hd) h5)
    have e : execOp a.eval o = (do pure (.value (← Instr.buildSlice t len (ps.map fun (i, x) => (i, a.eval x))))) := by simp only [execOp, ho]
    rw [e, Sem.run_bind, h1]
    rfl
  case makeFunc f first caps => exact vapp (Instr.makeFunc f (first.map a.eval) (caps.map a.eval)) _ (by simp only [execOp, ho]) (makeFuncK_sound h hK) (fun _ _ e => e)
  case makeMap t r =>
    cases r with
    | some r => exact hK.elim
    | none => exact vapp (Instr.makeMap t none) _ (by simp only [execOp, ho, Option.map_none]) (makeMapK_sound h hK) (fun _ _ e => e)
  case insert t m x v =>
    obtain ⟨ups, w', h1, h2, h3⟩ := insertK_sound hT h (h.ev m) (h.ev x) (h.ev v) hK
    exact wp_of_skip (w' := w') (by simp only [execOp, ho, Sem.run_bind, h1]; rfl) (.of rfl (h2.put (.pure (.tup #[] [] rfl (fun i hi => absurd hi (by simp)))) hd) h3)
  case lookup t m x ok =>
    cases ok with
    | true => exact hK.elim
    | false => exact vrun (Instr.lookup t (a.eval m) (a.eval x) false) _ (by simp only [execOp, ho]) (lookupK_sound hT (h.ev m) (h.ev x) hK) (fun _ e => e)
  case call c =>
    cases hc : c.callee with
    | value f =>
      simp only [hc] at hK
      have hf := h.ev f
      generalize s.ev f = af at hK hf
      cases af <;> try exact hK.elim
      rename_i k caps
      obtain ⟨cv, e, hcl, hcv⟩ := fn_eval hf
      obtain ⟨hvl, hvr⟩ := vals_rel h c.args
      have hl : (c.args.map a.eval ++ cv).size = (vals s c.args.toList ++ caps).length := by
        rw [Array.size_append, List.length_append, hvl, hcl]
      have hV : ∀ (i : Nat) (_ : i < (vals s c.args.toList ++ caps).length), VRel X s.kds w ((c.args.map a.eval ++ cv).getD i undef) ((vals s c.args.toList ++ caps).getD i .top) := fun i hi => by
        by_cases hi' : i < (vals s c.args.toList).length
        · have e1 : (c.args.map a.eval ++ cv).getD i undef = (c.args.map a.eval).getD i undef := by
            rw [← arr_getD, ← arr_getD, Array.toList_append, getD_append_left _ _ _ _ (by rw [Array.length_toList, hvl]; exact hi')]
          have e2 : (vals s c.args.toList ++ caps).getD i .top = (vals s c.args.toList).getD i .top := getD_append_left _ _ _ _ hi'
          rw [e1, e2]
          exact hvr i hi'
        · rw [List.length_append] at hi
          have e1 : (c.args.map a.eval ++ cv).getD i undef = cv.getD (i - (vals s c.args.toList).length) undef := by
            rw [← arr_getD, ← arr_getD, Array.toList_append, getD_append_right _ _ _ _ (by rw [Array.length_toList, hvl]; omega), Array.length_toList, hvl]
          have e2 : (vals s c.args.toList ++ caps).getD i .top = caps.getD (i - (vals s c.args.toList).length) .top := getD_append_right _ _ _ _ (by omega)
          rw [e1, e2]
          exact hcv _ (by omega)
      have hboth : (∀ w, (callFunc k (c.args.map a.eval ++ cv)).run P w = .ok (.enter k (c.args.map a.eval ++ cv)) w) ∧ Calls P k (c.args.map a.eval ++ cv) w fun e w' => ∃ v, e = .returned v ∧ Post X.base Φ (a.put o.dst v) w' := by
        cases hm : mutB k with
        | true =>
          simp only [hm] at hK
          exact callMK_sound h hd hl hV hK
        | false =>
          simp only [hm] at hK
          exact callK_sound h hd hl hV hK
      obtain ⟨g1, g2⟩ := hboth
      have hrun : (execOp a.eval o).run P w = .ok (.enter k (c.args.map a.eval ++ cv)) w := by
        simp only [execOp, ho, resolve, hc, e, Deferred.ofValue, Sem.run_bind, Sem.run_pure, Result.andThen_ok, invoke, Array.empty_append]
        exact g1 w
      unfold Oper.wp
      rw [hrun]
      refine g2.mono ?_
      rintro e w' ⟨v, rfl, hp⟩
      exact hp
    | invoke r n => simp [hc] at hK
    | builtin b =>
      obtain ⟨hvl, hvr⟩ := vals_rel h c.args
      have hbi : ∀ b', c.callee = .builtin b' → builtinK T s b' c.argTypes (vals s c.args.toList) (fun v => Φ (s.put o.dst v)) → o.wp P a w (Post X.base Φ) Q := by
        intro b' hc hK
        refine vput (builtin b' c.argTypes o.type (c.args.map fun | .const _ => true | _ => false) (c.args.map a.eval)) _ ?_ (builtinK_sound hT hvl hvr hK) (fun _ e => e)
        simp [execOp, ho, resolve, hc, invoke]
        rfl
      cases b
      case append =>
        simp only [hc] at hK
        unfold appendOpK at hK
        split at hK
        · rename_i t t' x y hty hxs
          obtain ⟨rfl, hK⟩ := hK
          rw [hxs] at hvl hvr
          have ety : c.argTypes = #[t', t'] := by rw [← Array.toArray_toList (xs := c.argTypes), hty]
          obtain ⟨v, u, e⟩ : ∃ v u, c.args.map a.eval = #[v, u] := by
            generalize c.args.map a.eval = vs at hvl
            obtain ⟨l⟩ := vs
            match l, hvl with
            | [v, u], _ => exact ⟨v, u, rfl⟩
          rw [e] at hvr
          have hs := appendK_sound (P := P) (ty := o.type) hT h (hvr 0 (by simp)) (hvr 1 (by simp)) hK
          obtain ⟨r, ar, ups, X', w', h1, h2, h3, h4, h5⟩ := hs
          refine wp_of_run (w' := w') (v := r) ?_ (.of h2 (h3.put h4 hd) h5)
          have h1' : (builtin .append c.argTypes o.type (c.args.map fun | .const _ => true | _ => false) (c.args.map a.eval)).run P w = .ok (.value r) w' := by
            rw [e, ety]
            simp only [builtin, Sem.run_bind]
            rw [show (Builtin.append_ #[t', t'] o.type #[v, u]).run P w = .ok r w' from h1]
            rfl
          simp only [execOp, ho, resolve, hc, invoke]
          exact h1'
        · exact hK.elim
      all_goals
        simp only [hc] at hK
        exact hbi _ hc hK

end Go.Proofs.Yteebkimhfaodnaa

