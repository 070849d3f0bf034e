/- The boundary of a call: what is handed over and handed back, as owned parts and immutable ones; and the way from a state to the boundary and back. -/
import Derived.Test.YtdaemhaecjldaaaAi8
namespace Go.Proofs.Ytdaemhaecjldaaa
open Go Go.RowKit

/-- A continuation, kept where simp does not look. -/
class Kont (α : Type) where
  k : α

def nnOf (nn : Bool) : Option Bool := if nn then some true else none

/-- An owned slice, with its room. -/
def OwnS (w : World) (v : Value) (nn : Bool) (sz : Nat) (es : List (List AV)) (F : Nat → Prop) : Prop :=
  0 < sz ∧ (∀ e ∈ es, e.length = sz) ∧
  ((v = .slice none 0 0 ∧ es = [] ∧ nn = false ∧ ∀ x, ¬ F x) ∨
   ∃ (b cap : Nat) (c : Array Value) (ty : TypeId) (FF : Nat → Nat → Nat → Prop), v = .slice (some ⟨b, 0, none⟩) es.length cap ∧ w.heap[b]? = some (.cells c ty (0, 0)) ∧ c.size = cap * sz ∧ es.length ≤ cap ∧
     (∀ (i j : Nat) (_ : i < es.length) (_ : j < sz), OwnV w (c.getD (i * sz + j) undef) ((es.getD i []).getD j .top) (FF i j)) ∧
     (∀ (i j i' j' x : Nat) (_ : i < es.length) (_ : j < sz) (_ : i' < es.length) (_ : j' < sz), FF i j x → FF i' j' x → i = i' ∧ j = j') ∧
     (∀ (i j : Nat) (_ : i < es.length) (_ : j < sz), ¬ FF i j b) ∧ ∀ x, F x ↔ x = b ∨ ∃ i j, i < es.length ∧ j < sz ∧ FF i j x)

theorem OwnS.lt {w : World} {v : Value} {nn : Bool} {sz : Nat} {es : List (List AV)} {F : Nat → Prop} (h : OwnS w v nn sz es F) : ∀ x, F x → x < w.heap.size := by
  obtain ⟨_, _, h⟩ := h
  rcases h with ⟨_, _, _, h⟩ | ⟨b, cap, c, ty, FF, _, hb, _, _, hO, _, _, hF⟩
  · exact fun x hx => absurd hx (h x)
  · intro x hx
    rcases (hF x).1 hx with rfl | ⟨i, j, hi, hj, hx⟩
    · exact (Array.getElem?_eq_some_iff.1 hb).1
    · exact (hO i j hi hj).lt x hx

/-- A cell at the boundary. -/
inductive BCell (w : World) (S : Nat → Prop) : Value → AV → (Nat → Prop) → Prop where
  | pure (v : Value) (a : AV) (F : Nat → Prop) (h : Reads w S v a) (hF : ∀ x, ¬ F x) : BCell w S v a F
  | osl (v : Value) (nn : Bool) (sz : Nat) (es : List (List AV)) (F : Nat → Prop) (h : OwnS w v nn sz es F) : BCell w S v (.osl nn sz es) F

/-- Cells at the boundary, one after the other. -/
structure BCells (w : World) (S : Nat → Prop) (vs : Nat → Value) (cs : List AV) (FF : Nat → Nat → Prop) : Prop where
  cell : ∀ (i : Nat) (_ : i < cs.length), BCell w S (vs i) (cs.getD i .top) (FF i)
  dis : ∀ (i j x : Nat) (_ : i < cs.length) (_ : j < cs.length), FF i x → FF j x → i = j

/-- A part of a result: one cell, or an aggregate. -/
inductive BPart (w : World) (S : Nat → Prop) : Value → AV → (Nat → Prop) → Prop where
  | cell (v : Value) (a : AV) (F : Nat → Prop) (h : BCell w S v a F) : BPart w S v a F
  | agg (vs : Array Value) (cs : List AV) (FF : Nat → Nat → Prop) (F : Nat → Prop) (hl : vs.size = cs.length) (h : BCells w S (fun i => vs.getD i undef) cs FF)
      (hF : ∀ x, F x ↔ ∃ i, i < cs.length ∧ FF i x) : BPart w S (.agg vs) (.agg cs) F

/-- A result. -/
inductive BRes (w : World) (S : Nat → Prop) : Value → AV → (Nat → Prop) → Prop where
  | part (v : Value) (a : AV) (F : Nat → Prop) (h : BPart w S v a F) : BRes w S v a F
  | tup (vs : Array Value) (rs : List AV) (FF : Nat → Nat → Prop) (F : Nat → Prop) (hl : vs.size = rs.length) (h : ∀ (i : Nat) (_ : i < rs.length), BPart w S (vs.getD i undef) (rs.getD i .top) (FF i))
      (hd : ∀ (i j x : Nat) (_ : i < rs.length) (_ : j < rs.length), FF i x → FF j x → i = j) (hF : ∀ x, F x ↔ ∃ i, i < rs.length ∧ FF i x) : BRes w S (.tuple vs) (.tup rs) F
  | box (b : Nat) (c : Array Value) (ty : TypeId) (cs : List AV) (F : Nat → Prop) (hb : w.heap[b]? = some (.cells c ty (0, 0))) (hl : c.size = cs.length)
      (h : ∀ (i : Nat) (_ : i < cs.length), Reads w S (c.getD i undef) (cs.getD i .top)) (hF : ∀ x, F x ↔ x = b) : BRes w S (.pointer (some ⟨b, 0, none⟩)) (.box cs) F

/-- The variable that is handed over by its address. -/
structure BoxAt (w : World) (S : Nat → Prop) (b : Nat) (cs : List AV) (BF : Nat → Nat → Prop) : Prop where
  at_ : ∃ c ty, w.heap[b]? = some (.cells c ty (0, 0)) ∧ c.size = cs.length ∧ BCells w S (fun i => c.getD i undef) cs BF
  nb : ∀ (i : Nat) (_ : i < cs.length), ¬ BF i b

/-- How a call may turn the world. -/
structure WFrame (w w' : World) (M : Nat → Prop) : Prop where
  os : w'.os = w.os
  tape : w'.tape = w.tape
  output : w'.output = w.output
  size : w.heap.size ≤ w'.heap.size
  heap : ∀ x, x < w.heap.size → ¬ M x → w'.heap[x]? = w.heap[x]?

def ArgRel (w : World) (S : Nat → Prop) (hb : Bool) (b : Nat) (v : Value) (a : AV) : Prop :=
  Reads w S v a ∨ (hb = true ∧ a = .loc 0 0 ∧ v = .pointer (some ⟨b, 0, none⟩))

def BoxM (hb : Bool) (b : Nat) (cs : List AV) (BF : Nat → Nat → Prop) (x : Nat) : Prop := hb = true ∧ (x = b ∨ ∃ i, i < cs.length ∧ BF i x)

/-- The contract of a function. 'bx': the cells of the variable whose address is handed over (if hb). -/
def FSpec (P : Program) (k : FuncId) (args : List AV) (hb : Bool) (bx : List AV) (Q : AV → List AV → Prop) : Prop :=
  (∀ (vs : Array Value) (w : World), (callFunc k vs).run P w = .ok (.enter k vs) w) ∧
  ∀ (w : World) (S : Nat → Prop) (vs : Array Value) (b : Nat) (BF : Nat → Nat → Prop),
    vs.size = args.length → (∀ (i : Nat) (_ : i < args.length), ArgRel w S hb b (vs.getD i undef) (args.getD i .top)) → (hb = true → BoxAt w S b bx BF) →
    (∀ x, BoxM hb b bx BF x → ¬ S x) →
    Calls P k vs w fun e w' => ∃ v r bx' F BF', e = .returned v ∧ Q r bx' ∧ WFrame w w' (BoxM hb b bx BF) ∧
      BRes w' (fun x => ¬ F x ∧ ¬ BoxM hb b bx' BF' x ∧ (S x ∨ BoxM hb b bx BF x ∨ w.heap.size ≤ x)) v r F ∧
      (hb = true → BoxAt w' (fun x => ¬ F x ∧ ¬ BoxM hb b bx' BF' x ∧ (S x ∨ BoxM hb b bx BF x ∨ w.heap.size ≤ x)) b bx' BF') ∧
      (∀ x, F x → ¬ BoxM hb b bx' BF' x) ∧ (∀ x, F x ∨ BoxM hb b bx' BF' x → (BoxM hb b bx BF x ∨ w.heap.size ≤ x) ∧ x < w'.heap.size)

theorem FSpec.mono {P : Program} {k : FuncId} {args : List AV} {hb : Bool} {bx : List AV} {Q Q' : AV → List AV → Prop} (h : FSpec P k args hb bx Q) (hq : ∀ r b, Q r b → Q' r b) : FSpec P k args hb bx Q' := by
  refine ⟨h.1, fun w S vs b BF h1 h2 h3 h4 => ?_⟩
  refine (h.2 w S vs b BF h1 h2 h3 h4).mono ?_
  rintro e w' ⟨v, r, bx', F, BF', he, hQ, hr⟩
  exact ⟨v, r, bx', F, BF', he, hq _ _ hQ, hr⟩

/-! ### From a state to the boundary -/

def expC (s : AState) (fin : Bool) (c : AV) (K : AV → List Nat → Prop) : Prop :=
  match c with
  | .int k n => K (.int k n) []
  | .bool b => K (.bool b) []
  | .sl nn es => K (.sl nn es) []
  | .fn f cs => K (.fn f cs) []
  | .row id n => (match s.blk id with
    | .row true nn sz es => n = es.length ∧ K (.osl nn sz es) [id]
    | .row false nn _ es => fin = true ∧ n = es.length ∧ K (.sl (nnOf nn) es) []
    | .fro _ es => n = es.length ∧ K (.sl none es) []
    | _ => False)
  | _ => False

def expL (s : AState) (fin : Bool) : List AV → (List AV → List Nat → Prop) → Prop
  | [], K => K [] []
  | c :: cs, K => expC s fin c fun c' u => expL s fin cs fun cs' us => K (c' :: cs') (u ++ us)

/-- What may be read at the boundary as immutable. -/
def ESet (X : Ctx) (s : AState) (fin : Bool) (x : Nat) : Prop := X.base.A x ∧ ∀ id, X.own x = some id → fin = true ∧ ∃ nn sz es, s.blk id = .row false nn sz es

theorem R.ownA {X : Ctx} {s : AState} {a : Act} {w : World} (h : R X s a w) {x id : Nat} (hx : X.own x = some id) : X.base.A x := by
  rcases (h.ow x id hx).2 with h | h
  · exact .inr (.inl h)
  · exact .inr (.inr h)

theorem Sh_ESet {X : Ctx} {s : AState} {fin : Bool} {x : Nat} (h : X.Sh x) : ESet X s fin x :=
  ⟨h.2, fun id e => by rw [h.1] at e; cases e⟩

theorem rowReads {w : World} {S : Nat → Prop} {b cap sz n : Nat} {nn : Option Bool} {c : Array Value} {ty : TypeId} {es : List (List AV)} (hb : w.heap[b]? = some (.cells c ty (0, 0))) (hc : c.size = cap * sz) (hle : es.length ≤ cap)
    (hz : 0 < sz) (hl : ∀ e ∈ es, e.length = sz) (hn : n = es.length) (hnn : nn ≠ some false) (hS : S b)
    (h : ∀ (i j : Nat) (_ : i < es.length) (_ : j < sz), Reads w S (c.getD (i * sz + j) undef) ((es.getD i []).getD j .top)) : Reads w S (.slice (some ⟨b, 0, none⟩) n cap) (.sl nn es) := by
  subst hn
  refine .slice b 0 cap sz nn es (fun i j => c.getD (i * sz + j) undef) hnn hl hz (fun _ => hS) hle ?_ h
  intro i j hi hj
  rw [Nat.zero_add]
  exact getD_cell hb (by rw [hc]; exact mul_lt_of hi hj hle)

theorem expC_sound {X : Ctx} {s : AState} {a : Act} {w : World} {fin : Bool} {c : AV} {v : Value} {K : AV → List Nat → Prop} (h : R X s a w) (hv : VRel X s.kds w v c) (hK : expC s fin c K) :
    ∃ (c' : AV) (u : List Nat) (F : Nat → Prop), K c' u ∧ BCell w (ESet X s fin) v c' F ∧ (∀ x, F x ↔ ∃ id, id ∈ u ∧ X.own x = some id) ∧ ∀ id, id ∈ u → ∃ nn sz es, s.blk id = .row true nn sz es := by
  unfold expC at hK
  split at hK
  · refine ⟨_, _, fun _ => False, hK, ?_, by simp, by simp⟩
    cases hv.int_inv; exact .pure _ _ _ (.int _ _) (fun _ h => h)
  · refine ⟨_, _, fun _ => False, hK, ?_, by simp, by simp⟩
    cases hv.bool_inv; exact .pure _ _ _ (.bool _) (fun _ h => h)
  · refine ⟨_, _, fun _ => False, hK, ?_, by simp, by simp⟩
    exact .pure _ _ _ (hv.sl_inv.mono fun x hx => Sh_ESet hx) (fun _ h => h)
  · refine ⟨_, _, fun _ => False, hK, ?_, by simp, by simp⟩
    exact .pure _ _ _ (hv.fn_inv.mono fun x hx => Sh_ESet hx) (fun _ h => h)
  · rename_i id n
    split at hK
    · rename_i nn sz es hb
      obtain ⟨hn, hK⟩ := hK
      have hkd : s.kds id = .row sz := by unfold AState.kds; rw [hb]; rfl
      have hB := h.bl id
      rw [hb] at hB
      obtain ⟨hz, hl, hB⟩ := hB
      refine ⟨_, _, fun x => X.own x = some id, hK, .osl _ _ _ _ _ ⟨hz, hl, ?_⟩, by simp, ?_⟩
      · rcases hB with ⟨h1, h2, h3, h4⟩ | ⟨b, c, ty, h1, h2, h3, h4, h6⟩
        · rcases hv.row_inv hkd with ⟨b, _, hi⟩ | ⟨e, _, _⟩
          · rw [h1] at hi; cases hi
          · exact .inl ⟨e, h3, h2, fun x hx => h4 x hx⟩
        · rcases hv.row_inv hkd with ⟨b', e, hi⟩ | ⟨_, _, hi⟩
          · rw [h1] at hi; cases hi
            rcases h6 with ⟨_, FF, h7, h8, h9, h10⟩ | ⟨h7, _⟩
            · exact .inr ⟨b, X.cap id, c, ty, FF, by rw [e, hn], h2, h3, h4, h7, h8, h9, h10⟩
            · cases h7
          · rw [h1] at hi; cases hi
      · intro id' hid'
        rw [List.mem_singleton] at hid'
        subst hid'
        exact ⟨_, _, _, hb⟩
    · rename_i nn sz es hb
      obtain ⟨hfin, hn, hK⟩ := hK
      have hkd : s.kds id = .row sz := by unfold AState.kds; rw [hb]; rfl
      have hB := h.bl id
      rw [hb] at hB
      obtain ⟨hz, hl, hB⟩ := hB
      refine ⟨_, _, fun _ => False, hK, .pure _ _ _ ?_ (fun _ h => h), by simp, by simp⟩
      rcases hB with ⟨h1, h2, h3, h4⟩ | ⟨b, c, ty, h1, h2, h3, h4, h6⟩
      · rcases hv.row_inv hkd with ⟨b, _, hi⟩ | ⟨e, _, _⟩
        · rw [h1] at hi; cases hi
        · rw [e, h3]; exact .nil _ (by rw [h2]; simp [nnOf])
      · rcases hv.row_inv hkd with ⟨b', e, hi⟩ | ⟨_, _, hi⟩
        · rw [h1] at hi; cases hi
          rw [e]
          rcases h6 with ⟨h7, _⟩ | ⟨_, h8, h9⟩
          · cases h7
          · have hob := (h8 b).2 rfl
            refine rowReads h2 h3 h4 hz hl hn (by cases nn <;> simp [nnOf]) ⟨h.ownA hob, fun id' e => ?_⟩ (fun i j hi hj => (h9 i j hi hj).mono fun x hx => Sh_ESet hx)
            rw [hob] at e; cases e
            exact ⟨hfin, _, _, _, hb⟩
        · rw [h1] at hi; cases hi
    · rename_i sz es hb
      obtain ⟨hn, hK⟩ := hK
      have hkd : s.kds id = .row sz := by unfold AState.kds; rw [hb]; rfl
      have hB := h.bl id
      rw [hb] at hB
      obtain ⟨hz, hl, ho, hB⟩ := hB
      refine ⟨_, _, fun _ => False, hK, .pure _ _ _ ?_ (fun _ h => h), by simp, by simp⟩
      rcases hB with ⟨h1, h2⟩ | ⟨b, c, ty, h1, h2, h3, h4, h6, h7⟩
      · rcases hv.row_inv hkd with ⟨b, _, hi⟩ | ⟨e, _, _⟩
        · rw [h1] at hi; cases hi
        · rw [e, h2]; exact .nil _ (by simp)
      · rcases hv.row_inv hkd with ⟨b', e, hi⟩ | ⟨_, _, hi⟩
        · rw [h1] at hi; cases hi
          rw [e]
          exact rowReads h2 h3 h4 hz hl hn (by simp) (Sh_ESet h6) (fun i j hi hj => (h7 i j hi hj).mono fun x hx => Sh_ESet hx)
        · rw [h1] at hi; cases hi
    · exact hK.elim
  · exact hK.elim

theorem getD_zero {α : Type} (x : α) (l : List α) (d : α) : (x :: l).getD 0 d = x := rfl
theorem getD_succ {α : Type} (x : α) (l : List α) (i : Nat) (d : α) : (x :: l).getD (i + 1) d = l.getD i d := rfl

theorem expL_sound {X : Ctx} {s : AState} {a : Act} {w : World} {fin : Bool} (h : R X s a w) : ∀ (cs : List AV) (vs : Nat → Value) (K : List AV → List Nat → Prop),
    (∀ (i : Nat) (_ : i < cs.length), VRel X s.kds w (vs i) (cs.getD i .top)) → expL s fin cs K →
    ∃ (cs' : List AV) (us : List Nat) (FF : Nat → Nat → Prop), K cs' us ∧ cs'.length = cs.length ∧ (∀ (i : Nat) (_ : i < cs'.length), BCell w (ESet X s fin) (vs i) (cs'.getD i .top) (FF i)) ∧
      (∀ id, id ∈ us → ∃ nn sz es, s.blk id = .row true nn sz es) ∧ (∀ x, (∃ i, i < cs'.length ∧ FF i x) ↔ ∃ id, id ∈ us ∧ X.own x = some id) ∧
      (us.Nodup → ∀ (i j x : Nat) (_ : i < cs'.length) (_ : j < cs'.length), FF i x → FF j x → i = j) := by
  intro cs
  induction cs with
  | nil =>
    intro vs K _ hK
    exact ⟨[], [], fun _ _ => False, hK, rfl, by simp, by simp, by simp, by simp⟩
  | cons c cs ih =>
    intro vs K hv hK
    have h0 := hv 0 (by simp)
    rw [getD_zero] at h0
    obtain ⟨c', u, F, hK, hC, hF, hu⟩ := expC_sound h h0 hK
    obtain ⟨cs', us, FF, hK, hl, hCs, hus, hFF, hd⟩ := ih (fun i => vs (i + 1)) _ (fun i hi => by
      have := hv (i + 1) (by simp; omega)
      rwa [getD_succ] at this) hK
    refine ⟨c' :: cs', u ++ us, fun i => match i with | 0 => F | i + 1 => FF i, hK, by simp [hl], ?_, ?_, ?_, ?_⟩
    · intro i hi
      cases i with
      | zero => exact hC
      | succ i => exact hCs i (by simp at hi; omega)
    · intro id hid
      rcases List.mem_append.1 hid with e | e
      · exact hu id e
      · exact hus id e
    · intro x
      constructor
      · rintro ⟨i, hi, hx⟩
        cases i with
        | zero => obtain ⟨id, h1, h2⟩ := (hF x).1 hx; exact ⟨id, List.mem_append.2 (.inl h1), h2⟩
        | succ i => obtain ⟨id, h1, h2⟩ := (hFF x).1 ⟨i, by simp at hi; omega, hx⟩; exact ⟨id, List.mem_append.2 (.inr h1), h2⟩
      · rintro ⟨id, h1, h2⟩
        rcases List.mem_append.1 h1 with e | e
        · exact ⟨0, by simp, (hF x).2 ⟨id, e, h2⟩⟩
        · obtain ⟨i, hi, hx⟩ := (hFF x).2 ⟨id, e, h2⟩
          exact ⟨i + 1, by simp; omega, hx⟩
    · intro hnd i j x hi hj hx hy
      obtain ⟨_, hnd2, hnd3⟩ := List.nodup_append.1 hnd
      cases i with
      | zero =>
        cases j with
        | zero => rfl
        | succ j =>
          obtain ⟨id, h1, h2⟩ := (hF x).1 hx
          obtain ⟨id', h3, h4⟩ := (hFF x).1 ⟨j, by simp at hj; omega, hy⟩
          rw [h2] at h4; cases h4
          exact absurd rfl (hnd3 id h1 id h3)
      | succ i =>
        cases j with
        | zero =>
          obtain ⟨id, h1, h2⟩ := (hF x).1 hy
          obtain ⟨id', h3, h4⟩ := (hFF x).1 ⟨i, by simp at hi; omega, hx⟩
          rw [h2] at h4; cases h4
          exact absurd rfl (hnd3 id h1 id h3)
        | succ j => rw [hd hnd2 i j x (by simp at hi; omega) (by simp at hj; omega) hx hy]

end Go.Proofs.Ytdaemhaecjldaaa
