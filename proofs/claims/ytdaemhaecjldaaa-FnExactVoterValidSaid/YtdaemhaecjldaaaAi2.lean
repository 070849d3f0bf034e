/- The abstract state, the relation between it and the machine's frame and world, and how each part of the relation is carried over a change of the world. -/
import Derived.Test.YtdaemhaecjldaaaAi1
namespace Go.Proofs.Ytdaemhaecjldaaa
open Go Go.RowKit

/-- A value and all that it leads to is owned by its holder alone: the footprint is F. -/
inductive OwnV (w : World) : Value → AV → (Nat → Prop) → Prop where
  | int (k : IntKind) (n : Int) (F : Nat → Prop) (hF : ∀ x, ¬ F x) : OwnV w (.int k n) (.int k n) F
  | bool (b : Bool) (F : Nat → Prop) (hF : ∀ x, ¬ F x) : OwnV w (.bool b) (.bool b) F
  | nil (nn : Option Bool) (hn : nn ≠ some true) (F : Nat → Prop) (hF : ∀ x, ¬ F x) : OwnV w (.slice none 0 0) (.sl nn []) F
  | slice (b cap sz : Nat) (nn : Option Bool) (es : List (List AV)) (c : Array Value) (ty : TypeId) (FF : Nat → Nat → Nat → Prop) (F : Nat → Prop) (hn : nn ≠ some false)
      (hsz : ∀ e ∈ es, e.length = sz) (hz : 0 < sz) (hcap : es.length ≤ cap) (hb : w.heap[b]? = some (.cells c ty (0, 0))) (hc : c.size = cap * sz)
      (h : ∀ (i j : Nat) (_ : i < es.length) (_ : j < sz), OwnV w (c.getD (i * sz + j) undef) ((es.getD i []).getD j .top) (FF i j))
      (hd : ∀ (i j i' j' x : Nat) (_ : i < es.length) (_ : j < sz) (_ : i' < es.length) (_ : j' < sz), FF i j x → FF i' j' x → i = i' ∧ j = j')
      (hnb : ∀ (i j : Nat) (_ : i < es.length) (_ : j < sz), ¬ FF i j b)
      (hF : ∀ x, F x ↔ x = b ∨ ∃ i j, i < es.length ∧ j < sz ∧ FF i j x) : OwnV w (.slice (some ⟨b, 0, none⟩) es.length cap) (.sl nn es) F

theorem getD_cell {w : World} {b : Nat} {c : Array Value} {ty : TypeId} {fz : Nat × Nat} (hb : w.heap[b]? = some (.cells c ty fz)) {i : Nat} (hi : i < c.size) : w.cell? ⟨b, i, none⟩ = some (c.getD i undef) := by
  rw [cell_of_row w b i c ty fz hb]
  simp [hi]

theorem mul_lt_of {i j n sz cap : Nat} (hi : i < n) (hj : j < sz) (hn : n ≤ cap) : i * sz + j < cap * sz := by
  have h1 : (i + 1) * sz ≤ cap * sz := Nat.mul_le_mul_right _ (by omega)
  have h2 : (i + 1) * sz = i * sz + sz := by rw [Nat.add_mul, Nat.one_mul]
  omega

theorem OwnV.reads {w : World} {v : Value} {a : AV} {F : Nat → Prop} (h : OwnV w v a F) : Reads w F v a := by
  induction h with
  | int k n F hF => exact .int k n
  | bool b F hF => exact .bool b
  | nil nn hn F hF => exact .nil nn hn
  | slice b cap sz nn es c ty FF F hn hsz hz hcap hb hc _ hd hnb hF ih =>
    refine .slice b 0 cap sz nn es (fun i j => c.getD (i * sz + j) undef) hn hsz hz (fun _ => (hF b).2 (.inl rfl)) hcap ?_ ?_
    · intro i j hi hj
      rw [Nat.zero_add]
      exact getD_cell hb (by rw [hc]; exact mul_lt_of hi hj hcap)
    · intro i j hi hj
      exact (ih i j hi hj).mono (fun x hx => (hF x).2 (.inr ⟨i, j, hi, hj, hx⟩))

theorem OwnV.lt {w : World} {v : Value} {a : AV} {F : Nat → Prop} (h : OwnV w v a F) : ∀ x, F x → x < w.heap.size := by
  induction h with
  | int k n F hF => exact fun x hx => absurd hx (hF x)
  | bool b F hF => exact fun x hx => absurd hx (hF x)
  | nil nn hn F hF => exact fun x hx => absurd hx (hF x)
  | slice b cap sz nn es c ty FF F hn hsz hz hcap hb hc _ hd hnb hF ih =>
    intro x hx
    rcases (hF x).1 hx with rfl | ⟨i, j, hi, hj, hx⟩
    · exact (Array.getElem?_eq_some_iff.1 hb).1
    · exact ih i j hi hj x hx

theorem OwnV.step {w w' : World} {v : Value} {a : AV} {F : Nat → Prop} (h : OwnV w v a F) (hw : ∀ b, F b → w'.heap[b]? = w.heap[b]?) : OwnV w' v a F := by
  induction h with
  | int k n F hF => exact .int k n F hF
  | bool b F hF => exact .bool b F hF
  | nil nn hn F hF => exact .nil nn hn F hF
  | slice b cap sz nn es c ty FF F hn hsz hz hcap hb hc _ hd hnb hF ih =>
    refine .slice b cap sz nn es c ty FF F hn hsz hz hcap ((hw b ((hF b).2 (.inl rfl))).trans hb) hc ?_ hd hnb hF
    intro i j hi hj
    exact ih i j hi hj (fun x hx => hw x ((hF x).2 (.inr ⟨i, j, hi, hj, hx⟩)))

theorem OwnV.congr {w : World} {v : Value} {a : AV} {F F' : Nat → Prop} (h : OwnV w v a F) (hF' : ∀ x, F' x ↔ F x) : OwnV w v a F' := by
  have : F' = F := funext fun x => propext (hF' x)
  rw [this]; exact h

/-- The contents of an own block of the abstract heap. -/
inductive ABlk where
  | none
  | dead
  | var (cs : List AV)
  | row (own nn : Bool) (sz : Nat) (es : List (List AV))
  | fro (sz : Nat) (es : List (List AV))

inductive Kd where
  | none
  | dead
  | var
  | row (sz : Nat)

def ABlk.kd : ABlk → Kd
  | .none => .none
  | .dead => .dead
  | .var _ => .var
  | .row _ _ sz _ => .row sz
  | .fro sz _ => .row sz

def getL {β : Type} (d : β) : List (Nat × β) → Nat → β
  | [], _ => d
  | (k, v) :: r, i => if i = k then v else getL d r i

theorem getL_nil {β : Type} (d : β) (i : Nat) : getL d [] i = d := rfl
theorem getL_cons {β : Type} (d : β) (k : Nat) (v : β) (r : List (Nat × β)) (i : Nat) : getL d ((k, v) :: r) i = if i = k then v else getL d r i := rfl

structure AState where
  nt : Nat
  fr : List (Nat × AV)
  hp : List (Nat × ABlk)

def AState.get (s : AState) (i : Nat) : AV := getL .top s.fr i
def AState.blk (s : AState) (id : Nat) : ABlk := getL .none s.hp id
def AState.kds (s : AState) (id : Nat) : Kd := (s.blk id).kd
def AState.put (s : AState) (d : Option Nat) (v : AV) : AState :=
  match d with
  | some d => { s with fr := (d, v) :: s.fr }
  | none => s
def AState.setb (s : AState) (id : Nat) (b : ABlk) : AState := { s with hp := (id, b) :: s.hp }

/-- What stays fixed while a function runs: the world at its beginning, the blocks that it may write, the blocks that its arguments read. -/
structure Base where
  w0 : World
  M0 : Nat → Prop
  S0 : Nat → Prop
  bx : Option Nat

structure Ctx where
  base : Base
  at_ : Nat → Option Nat
  cap : Nat → Nat
  own : Nat → Option Nat

def Base.A (B : Base) (b : Nat) : Prop := B.S0 b ∨ B.M0 b ∨ B.w0.heap.size ≤ b
def Ctx.Sh (X : Ctx) (b : Nat) : Prop := X.own b = none ∧ X.base.A b

inductive VRel (X : Ctx) (kd : Nat → Kd) (w : World) : Value → AV → Prop where
  | top (v : Value) : VRel X kd w v .top
  | pure {v : Value} {a : AV} (h : Reads w X.Sh v a) : VRel X kd w v a
  | agg (vs : Array Value) (cs : List AV) (hl : vs.size = cs.length) (h : ∀ (i : Nat) (_ : i < cs.length), VRel X kd w (vs.getD i undef) (cs.getD i .top)) : VRel X kd w (.agg vs) (.agg cs)
  | tup (vs : Array Value) (cs : List AV) (hl : vs.size = cs.length) (h : ∀ (i : Nat) (_ : i < cs.length), VRel X kd w (vs.getD i undef) (cs.getD i .top)) : VRel X kd w (.tuple vs) (.tup cs)
  | loc (id off b : Nat) (hk : kd id = .var) (hi : X.at_ id = some b) : VRel X kd w (.pointer (some ⟨b, off, none⟩)) (.loc id off)
  | locD (v : Value) (id off : Nat) (h1 : v.oneCell' = true) (hk : kd id = .dead) : VRel X kd w v (.loc id off)
  | elt (id i off sz b : Nat) (hk : kd id = .row sz) (hi : X.at_ id = some b) : VRel X kd w (.pointer (some ⟨b, i * sz + off, none⟩)) (.elt id i off)
  | eltD (v : Value) (id i off : Nat) (h1 : v.oneCell' = true) (hk : kd id = .dead) : VRel X kd w v (.elt id i off)
  | pel (cs : List AV) (b o : Nat) (f : Nat → Value) (hl : 0 < cs.length) (hS : X.Sh b) (hc : ∀ (j : Nat) (_ : j < cs.length), w.cell? ⟨b, o + j, none⟩ = some (f j))
      (h : ∀ (j : Nat) (_ : j < cs.length), Reads w X.Sh (f j) (cs.getD j .top)) : VRel X kd w (.pointer (some ⟨b, o, none⟩)) (.pel cs)
  | row (id n sz b : Nat) (hk : kd id = .row sz) (hi : X.at_ id = some b) : VRel X kd w (.slice (some ⟨b, 0, none⟩) n (X.cap id)) (.row id n)
  | rowN (id sz : Nat) (hk : kd id = .row sz) (hi : X.at_ id = none) : VRel X kd w (.slice none 0 0) (.row id 0)
  | rowD (v : Value) (id n : Nat) (h1 : v.oneCell' = true) (hk : kd id = .dead) : VRel X kd w v (.row id n)
  | may (g : Bool) (v : Value) (a : AV) (h : g = true → VRel X kd w v a) : VRel X kd w v (.may g a)

/-- The names of a state stay good: each block is as it was, or dead. -/
def NameOk (X X' : Ctx) (kd kd' : Nat → Kd) (id : Nat) : Prop :=
  kd id = .none ∨ kd' id = .dead ∨ (kd id ≠ .dead ∧ kd' id = kd id ∧ X'.at_ id = X.at_ id ∧ X'.cap id = X.cap id)

theorem VRel.step {X X' : Ctx} {kd kd' : Nat → Kd} {w w' : World} (hn : ∀ id, NameOk X X' kd kd' id)
    (hS : ∀ b, X.Sh b → b < w.heap.size → w'.heap[b]? = w.heap[b]? ∧ X'.Sh b) {v : Value} {a : AV} (h : VRel X kd w v a) : VRel X' kd' w' v a := by
  induction h with
  | top v => exact .top v
  | pure h => exact .pure (h.step hS)
  | agg vs cs hl _ ih => exact .agg vs cs hl ih
  | tup vs cs hl _ ih => exact .tup vs cs hl ih
  | loc id off b hk hi =>
    rcases hn id with h | h | ⟨_, h1, h2, _⟩
    · rw [h] at hk; cases hk
    · exact .locD _ id off rfl h
    · exact .loc id off b (h1.trans hk) (h2.trans hi)
  | locD v id off h1 hk =>
    rcases hn id with h | h | ⟨h0, _⟩
    · rw [h] at hk; cases hk
    · exact .locD _ id off h1 h
    · exact absurd hk h0
  | elt id i off sz b hk hi =>
    rcases hn id with h | h | ⟨_, h1, h2, _⟩
    · rw [h] at hk; cases hk
    · exact .eltD _ id i off rfl h
    · exact .elt id i off sz b (h1.trans hk) (h2.trans hi)
  | eltD v id i off h1 hk =>
    rcases hn id with h | h | ⟨h0, _⟩
    · rw [h] at hk; cases hk
    · exact .eltD _ id i off h1 h
    · exact absurd hk h0
  | pel cs b o f hl hSb hc h =>
    have hb : b < w.heap.size := World.block_lt_of_cell? w _ (hc 0 hl)
    refine .pel cs b o f hl (hS b hSb hb).2 (fun j hj => ?_) (fun j hj => (h j hj).step hS)
    rw [← hc j hj]
    exact World.cell?_of_block (hS b hSb hb).1
  | row id n sz b hk hi =>
    rcases hn id with h | h | ⟨_, h1, h2, h3⟩
    · rw [h] at hk; cases hk
    · exact .rowD _ id n rfl h
    · rw [← h3]; exact .row id n sz b (h1.trans hk) (h2.trans hi)
  | rowN id sz hk hi =>
    rcases hn id with h | h | ⟨_, h1, h2, _⟩
    · rw [h] at hk; cases hk
    · exact .rowD _ id 0 rfl h
    · exact .rowN id sz (h1.trans hk) (h2.trans hi)
  | rowD v id n h1 hk =>
    rcases hn id with h | h | ⟨h0, _⟩
    · rw [h] at hk; cases hk
    · exact .rowD _ id n h1 h
    · exact absurd hk h0
  | may g v a _ ih => exact .may g v a ih

/-- The nested values of a row's cells: owned by the row alone (footprints FF), or immutable. -/
def RowIn (X : Ctx) (w : World) (id b : Nat) (c : Array Value) (sz : Nat) (es : List (List AV)) (own : Bool) : Prop :=
  (own = true ∧ ∃ FF : Nat → Nat → Nat → Prop,
      (∀ (i j : Nat) (_ : i < es.length) (_ : j < sz), OwnV w (c.getD (i * sz + j) undef) ((es.getD i []).getD j .top) (FF i j)) ∧
      (∀ (i j i' j' x : Nat) (_ : i < es.length) (_ : j < sz) (_ : i' < es.length) (_ : j' < sz), FF i j x → FF i' j' x → i = i' ∧ j = j') ∧
      (∀ (i j : Nat) (_ : i < es.length) (_ : j < sz), ¬ FF i j b) ∧
      ∀ x, X.own x = some id ↔ x = b ∨ ∃ i j, i < es.length ∧ j < sz ∧ FF i j x) ∨
  (own = false ∧ (∀ x, X.own x = some id ↔ x = b) ∧ ∀ (i j : Nat) (_ : i < es.length) (_ : j < sz), Reads w X.Sh (c.getD (i * sz + j) undef) ((es.getD i []).getD j .top))

def BRel (X : Ctx) (kd : Nat → Kd) (w : World) (id : Nat) : ABlk → Prop
  | .none => ∀ x, X.own x ≠ some id
  | .dead => ∀ x, X.own x ≠ some id
  | .var cs => ∃ b c ty, X.at_ id = some b ∧ w.heap[b]? = some (.cells c ty (0, 0)) ∧ (∀ x, X.own x = some id ↔ x = b) ∧ c.size = cs.length ∧
      ∀ (j : Nat) (_ : j < cs.length), VRel X kd w (c.getD j undef) (cs.getD j .top)
  | .row own nn sz es => 0 < sz ∧ (∀ e ∈ es, e.length = sz) ∧
      ((X.at_ id = none ∧ nn = false ∧ es = [] ∧ ∀ x, X.own x ≠ some id) ∨
       ∃ b c ty, X.at_ id = some b ∧ w.heap[b]? = some (.cells c ty (0, 0)) ∧ c.size = X.cap id * sz ∧ es.length ≤ X.cap id ∧ RowIn X w id b c sz es own)
  | .fro sz es => 0 < sz ∧ (∀ e ∈ es, e.length = sz) ∧ (∀ x, X.own x ≠ some id) ∧
      ((X.at_ id = none ∧ es = []) ∨
       ∃ b c ty, X.at_ id = some b ∧ w.heap[b]? = some (.cells c ty (0, 0)) ∧ c.size = X.cap id * sz ∧ es.length ≤ X.cap id ∧ X.Sh b ∧
         ∀ (i j : Nat) (_ : i < es.length) (_ : j < sz), Reads w X.Sh (c.getD (i * sz + j) undef) ((es.getD i []).getD j .top))

/-- A block of the abstract heap that a step does not touch. -/
theorem BRel.step {X X' : Ctx} {kd kd' : Nat → Kd} {w w' : World} (hn : ∀ id, NameOk X X' kd kd' id)
    (hS : ∀ b, X.Sh b → b < w.heap.size → w'.heap[b]? = w.heap[b]? ∧ X'.Sh b) {id : Nat} (hat : X'.at_ id = X.at_ id) (hcap : X'.cap id = X.cap id)
    (hown : ∀ x, X'.own x = some id ↔ X.own x = some id) (hh : ∀ x, X.own x = some id → w'.heap[x]? = w.heap[x]?) {B : ABlk} (h : BRel X kd w id B) : BRel X' kd' w' id B := by
  cases B with
  | none => exact fun x hx => h x ((hown x).1 hx)
  | dead => exact fun x hx => h x ((hown x).1 hx)
  | var cs =>
    obtain ⟨b, c, ty, h1, h2, h3, h4, h5⟩ := h
    exact ⟨b, c, ty, hat.trans h1, (hh b ((h3 b).2 rfl)).trans h2, fun x => (hown x).trans (h3 x), h4, fun j hj => (h5 j hj).step hn hS⟩
  | row own nn sz es =>
    obtain ⟨hz, hl, h⟩ := h
    refine ⟨hz, hl, ?_⟩
    rcases h with ⟨h1, h2, h3, h4⟩ | ⟨b, c, ty, h1, h2, h3, h4, h6⟩
    · exact .inl ⟨hat.trans h1, h2, h3, fun x hx => h4 x ((hown x).1 hx)⟩
    · have hb : X.own b = some id := by
        rcases h6 with ⟨_, FF, _, _, _, h10⟩ | ⟨_, h10, _⟩
        · exact (h10 b).2 (.inl rfl)
        · exact (h10 b).2 rfl
      refine .inr ⟨b, c, ty, hat.trans h1, (hh b hb).trans h2, by rw [hcap]; exact h3, by rw [hcap]; exact h4, ?_⟩
      rcases h6 with ⟨h7, FF, h8, h9, h10, h11⟩ | ⟨h7, h8, h9⟩
      · refine .inl ⟨h7, FF, fun i j hi hj => (h8 i j hi hj).step (fun x hx => hh x ((h11 x).2 (.inr ⟨i, j, hi, hj, hx⟩))), h9, h10, fun x => (hown x).trans (h11 x)⟩
      · exact .inr ⟨h7, fun x => (hown x).trans (h8 x), fun i j hi hj => (h9 i j hi hj).step hS⟩
  | fro sz es =>
    obtain ⟨hz, hl, ho, h⟩ := h
    refine ⟨hz, hl, fun x hx => ho x ((hown x).1 hx), ?_⟩
    rcases h with ⟨h1, h2⟩ | ⟨b, c, ty, h1, h2, h3, h4, h6, h7⟩
    · exact .inl ⟨hat.trans h1, h2⟩
    · have hb := (Array.getElem?_eq_some_iff.1 h2).1
      exact .inr ⟨b, c, ty, hat.trans h1, (hS b h6 hb).1.trans h2, by rw [hcap]; exact h3, by rw [hcap]; exact h4, (hS b h6 hb).2, fun i j hi hj => (h7 i j hi hj).step hS⟩

/-- The relation of an abstract state and the machine's frame and world. -/
structure R (X : Ctx) (s : AState) (a : Act) (w : World) : Prop where
  nt : a.tmps.size = s.nt
  df : a.defers = []
  fr : ∀ i, VRel X s.kds w (a.tmps.getD i undef) (s.get i)
  bl : ∀ id, BRel X s.kds w id (s.blk id)
  ow : ∀ x id, X.own x = some id → x < w.heap.size ∧ (X.base.M0 x ∨ X.base.w0.heap.size ≤ x)
  os : w.os = X.base.w0.os
  tape : w.tape = X.base.w0.tape
  output : w.output = X.base.w0.output
  size : X.base.w0.heap.size ≤ w.heap.size
  old : ∀ x, x < X.base.w0.heap.size → ¬ X.base.M0 x → w.heap[x]? = X.base.w0.heap[x]?
  bx : ∀ b, X.base.bx = some b → X.at_ 900 = some b

/-- How the world may turn in one step of a state: the blocks of the touched names alone (T), and new ones. -/
structure WStep (X X' : Ctx) (w w' : World) (T : Nat → Prop) : Prop where
  base : X'.base = X.base
  os : w'.os = w.os
  tape : w'.tape = w.tape
  output : w'.output = w.output
  size : w.heap.size ≤ w'.heap.size
  heap : ∀ x, x < w.heap.size → (∀ id, T id → X.own x ≠ some id) → w'.heap[x]? = w.heap[x]? ∧ X'.own x = X.own x
  at_ : ∀ id, ¬ T id → X'.at_ id = X.at_ id ∧ X'.cap id = X.cap id
  own : ∀ x id, ¬ T id → X'.own x = some id → X.own x = some id
  ow : ∀ x id, X'.own x = some id → x < w'.heap.size ∧ (X.base.M0 x ∨ X.base.w0.heap.size ≤ x)
  at9 : X'.at_ 900 = X.at_ 900

theorem WStep.sh {X X' : Ctx} {w w' : World} {T : Nat → Prop} (h : WStep X X' w w' T) : ∀ b, X.Sh b → b < w.heap.size → w'.heap[b]? = w.heap[b]? ∧ X'.Sh b := by
  intro b hb hlt
  have := h.heap b hlt (fun id _ => by rw [hb.1]; exact fun e => by cases e)
  exact ⟨this.1, this.2.trans hb.1, by rw [h.base]; exact hb.2⟩

/-- One step of a state: the touched blocks are shown to be right; all else is carried. -/
theorem R.step {X X' : Ctx} {s s' : AState} {a a' : Act} {w w' : World} {T : Nat → Prop} (h : R X s a w) (hw : WStep X X' w w' T)
    (hnt : a'.tmps.size = s'.nt) (hdf : a'.defers = [])
    (hk : ∀ id, ¬ T id → s'.blk id = s.blk id)
    (hn : ∀ id, T id → NameOk X X' s.kds s'.kds id)
    (hfr : (∀ v av, VRel X s.kds w v av → VRel X' s'.kds w' v av) → ∀ i, VRel X' s'.kds w' (a'.tmps.getD i undef) (s'.get i))
    (hbl : (∀ v av, VRel X s.kds w v av → VRel X' s'.kds w' v av) → ∀ id, T id → BRel X' s'.kds w' id (s'.blk id)) : R X' s' a' w' := by
  have hN : ∀ id, NameOk X X' s.kds s'.kds id := by
    intro id
    by_cases hT : T id
    · exact hn id hT
    · have hk' := hk id hT
      have e : s'.kds id = s.kds id := by unfold AState.kds; rw [hk']
      by_cases hd : s.kds id = .dead
      · exact .inr (.inl (e.trans hd))
      · exact .inr (.inr ⟨hd, e, (hw.at_ id hT).1, (hw.at_ id hT).2⟩)
  have hV : ∀ v av, VRel X s.kds w v av → VRel X' s'.kds w' v av := fun v av hv => hv.step hN hw.sh
  refine ⟨hnt, hdf, hfr hV, ?_, ?_, ?_, ?_, ?_, ?_, ?_, ?_⟩
  · intro id
    by_cases hT : T id
    · exact hbl hV id hT
    · rw [hk id hT]
      refine (h.bl id).step hN hw.sh (hw.at_ id hT).1 (hw.at_ id hT).2 ?_ ?_
      · intro x
        refine ⟨hw.own x id hT, fun hx => ?_⟩
        have := hw.heap x (h.ow x id hx).1 (fun id' hT' e => by rw [hx] at e; cases e; exact hT hT')
        rw [this.2]; exact hx
      · intro x hx
        exact (hw.heap x (h.ow x id hx).1 (fun id' hT' e => by rw [hx] at e; cases e; exact hT hT')).1
  · intro x id hx
    rw [hw.base]; exact hw.ow x id hx
  · rw [hw.base]; exact hw.os.trans h.os
  · rw [hw.base]; exact hw.tape.trans h.tape
  · rw [hw.base]; exact hw.output.trans h.output
  · rw [hw.base]; exact Nat.le_trans h.size hw.size
  · rw [hw.base]
    intro x hx hM
    refine (hw.heap x (Nat.lt_of_lt_of_le hx h.size) (fun id _ e => ?_)).1.trans (h.old x hx hM)
    rcases (h.ow x id e).2 with h1 | h1
    · exact hM h1
    · omega
  · intro b hb
    rw [hw.base] at hb
    exact hw.at9.trans (h.bx b hb)

end Go.Proofs.Ytdaemhaecjldaaa
