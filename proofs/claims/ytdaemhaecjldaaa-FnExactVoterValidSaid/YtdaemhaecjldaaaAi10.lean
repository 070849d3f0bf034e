/- From the boundary into a state: owned parts get names. -/
import Derived.Test.YtdaemhaecjldaaaAi9
namespace Go.Proofs.Ytdaemhaecjldaaa
open Go Go.RowKit

def impC (n : Nat) : AV → AV
  | .osl _ _ es => .row n es.length
  | a => a
def impCB (n : Nat) : AV → List (Nat × ABlk)
  | .osl nn sz es => [(n, .row true nn sz es)]
  | _ => []
def impL : Nat → List AV → List AV
  | _, [] => []
  | n, a :: r => impC n a :: impL (n + 1) r
def impLB : Nat → List AV → List (Nat × ABlk)
  | _, [] => []
  | n, a :: r => impCB n a ++ impLB (n + 1) r
def impP (n : Nat) : AV → AV
  | .agg cs => .agg (impL n cs)
  | a => impC n a
def impPB (n : Nat) : AV → List (Nat × ABlk)
  | .agg cs => impLB n cs
  | a => impCB n a
def impT : Nat → List AV → List AV
  | _, [] => []
  | n, a :: r => impP n a :: impT (n + 100) r
def impTB : Nat → List AV → List (Nat × ABlk)
  | _, [] => []
  | n, a :: r => impPB n a ++ impTB (n + 100) r
def imp (n : Nat) : AV → AV
  | .tup vs => .tup (impT n vs)
  | .box _ => .loc n 0
  | a => impP n a
def impB (n : Nat) : AV → List (Nat × ABlk)
  | .tup vs => impTB n vs
  | .box cs => [(n, .var cs)]
  | a => impPB n a

/-- One owned part that gets a name. -/
structure Imp where
  id : Nat
  nn : Bool
  sz : Nat
  es : List (List AV)
  v : Value
  F : Nat → Prop

def Imp.blk (m : Imp) : Nat × ABlk := (m.id, .row true m.nn m.sz m.es)
def blockOf : Value → Option Nat
  | .slice (some a) _ _ => some a.block
  | _ => none
def capOf : Value → Nat
  | .slice _ _ c => c
  | _ => 0

/-- The names of a context fit the parts. -/
def Fits (X : Ctx) (kd : Nat → Kd) (L : List Imp) : Prop := ∀ m, m ∈ L → X.at_ m.id = blockOf m.v ∧ X.cap m.id = capOf m.v ∧ kd m.id = .row m.sz

theorem Fits.of_append_left {X : Ctx} {kd : Nat → Kd} {L L' : List Imp} (h : Fits X kd (L ++ L')) : Fits X kd L := fun m hm => h m (List.mem_append.2 (.inl hm))
theorem Fits.of_append_right {X : Ctx} {kd : Nat → Kd} {L L' : List Imp} (h : Fits X kd (L ++ L')) : Fits X kd L' := fun m hm => h m (List.mem_append.2 (.inr hm))

/-- What a boundary value gives: the parts, and the value under their names. -/
structure Got (w : World) (S : Nat → Prop) (v : Value) (a : AV) (B : List (Nat × ABlk)) (F : Nat → Prop) (L : List Imp) : Prop where
  blks : L.map Imp.blk = B
  own : ∀ m, m ∈ L → OwnS w m.v m.nn m.sz m.es m.F
  all : ∀ x, F x ↔ ∃ m, m ∈ L ∧ m.F x
  dis : L.Pairwise (fun m m' => ∀ x, m.F x → ¬ m'.F x)
  rel : ∀ (X : Ctx) (kd : Nat → Kd), (∀ x, S x → X.Sh x) → Fits X kd L → VRel X kd w v a

theorem got_cell {w : World} {S : Nat → Prop} {v : Value} {a : AV} {F : Nat → Prop} (n : Nat) (h : BCell w S v a F) : ∃ L, Got w S v (impC n a) (impCB n a) F L := by
  cases h with
  | pure a F h hF =>
    have e1 : impC n a = a := by cases h <;> rfl
    have e2 : impCB n a = [] := by cases h <;> rfl
    rw [e1, e2]
    exact ⟨[], rfl, by simp, fun x => ⟨fun e => absurd e (hF x), by simp⟩, .nil, fun X kd hS _ => .pure (h.mono hS)⟩
  | osl nn sz es F h =>
    refine ⟨[⟨n, nn, sz, es, v, F⟩], rfl, ?_, ?_, by simp, ?_⟩
    · intro m hm
      rw [List.mem_singleton] at hm
      subst hm; exact h
    · intro x; simp
    · intro X kd _ hf
      obtain ⟨h1, h2, h3⟩ := hf _ (List.mem_singleton.2 rfl)
      obtain ⟨hz, hl, h⟩ := h
      rcases h with ⟨rfl, rfl, _, _⟩ | ⟨b, cap, c, ty, FF, rfl, _⟩
      · exact .rowN n sz h3 h1
      · have h2' : X.cap n = cap := h2
        show VRel X kd w (.slice (some ⟨b, 0, none⟩) es.length cap) (.row n es.length)
        rw [← h2']
        exact .row n _ sz b h3 h1

theorem got_cells {w : World} {S : Nat → Prop} : ∀ (cs : List AV) (n : Nat) (vs : Nat → Value) (FF : Nat → Nat → Prop), BCells w S vs cs FF →
    ∃ L : List Imp, L.map Imp.blk = impLB n cs ∧ (∀ m, m ∈ L → OwnS w m.v m.nn m.sz m.es m.F) ∧ (∀ x, (∃ i, i < cs.length ∧ FF i x) ↔ ∃ m, m ∈ L ∧ m.F x) ∧ L.Pairwise (fun m m' => ∀ x, m.F x → ¬ m'.F x) ∧
      (impL n cs).length = cs.length ∧
      ∀ (X : Ctx) (kd : Nat → Kd), (∀ x, S x → X.Sh x) → Fits X kd L → ∀ (i : Nat) (_ : i < cs.length), VRel X kd w (vs i) ((impL n cs).getD i .top)
  | [], n, vs, FF, _ => ⟨[], rfl, by simp, by simp, .nil, rfl, by simp⟩
  | c :: cs, n, vs, FF, h => by
    have h0 := h.cell 0 (by simp)
    rw [getD_zero] at h0
    obtain ⟨L0, g⟩ := got_cell n h0
    obtain ⟨L, l1, l2, l3, l4, l5, l6⟩ := got_cells cs (n + 1) (fun i => vs (i + 1)) (fun i => FF (i + 1))
      ⟨fun i hi => by have := h.cell (i + 1) (by simp; omega); rwa [getD_succ] at this, fun i j x hi hj hx hy => by have := h.dis (i + 1) (j + 1) x (by simp; omega) (by simp; omega) hx hy; omega⟩
    refine ⟨L0 ++ L, ?_, ?_, ?_, ?_, ?_, ?_⟩
    · rw [List.map_append, g.blks, l1]; rfl
    · intro m hm
      rcases List.mem_append.1 hm with e | e
      · exact g.own m e
      · exact l2 m e
    · intro x
      constructor
      · rintro ⟨i, hi, hx⟩
        cases i with
        | zero => obtain ⟨m, h1, h2⟩ := (g.all x).1 hx; exact ⟨m, List.mem_append.2 (.inl h1), h2⟩
        | succ i => obtain ⟨m, h1, h2⟩ := (l3 x).1 ⟨i, by simp at hi; omega, hx⟩; exact ⟨m, List.mem_append.2 (.inr h1), h2⟩
      · rintro ⟨m, h1, h2⟩
        rcases List.mem_append.1 h1 with e | e
        · exact ⟨0, by simp, (g.all x).2 ⟨m, e, h2⟩⟩
        · obtain ⟨i, hi, hx⟩ := (l3 x).2 ⟨m, e, h2⟩
          exact ⟨i + 1, by simp; omega, hx⟩
    · rw [List.pairwise_append]
      refine ⟨g.dis, l4, ?_⟩
      intro m hm m' hm' x hx hx'
      have h1 := (g.all x).2 ⟨m, hm, hx⟩
      obtain ⟨i, hi, hy⟩ := (l3 x).2 ⟨m', hm', hx'⟩
      have := h.dis 0 (i + 1) x (by simp) (by simp; omega) h1 hy
      omega
    · simp [impL, l5]
    · intro X kd hS hf i hi
      cases i with
      | zero => exact g.rel X kd hS hf.of_append_left
      | succ i => exact l6 X kd hS hf.of_append_right i (by simp at hi; omega)

theorem got_part {w : World} {S : Nat → Prop} {v : Value} {a : AV} {F : Nat → Prop} (n : Nat) (h : BPart w S v a F) : ∃ L, Got w S v (impP n a) (impPB n a) F L := by
  cases h with
  | cell v a F h =>
    have e : impP n a = impC n a ∧ impPB n a = impCB n a ∨ ∃ cs, a = .agg cs := by
      cases a <;> first | exact .inl ⟨rfl, rfl⟩ | exact .inr ⟨_, rfl⟩
    rcases e with ⟨e1, e2⟩ | ⟨cs, rfl⟩
    · rw [e1, e2]; exact got_cell n h
    · cases h with
      | pure a F h hF =>
        cases h with
        | agg vs cs hl h =>
          obtain ⟨L, l1, l2, l3, l4, l5, l6⟩ := got_cells cs n (fun i => vs.getD i undef) (fun _ _ => False) ⟨fun i hi => .pure _ _ _ (h i hi) (fun _ e => e), fun _ _ _ _ _ e => e.elim⟩
          refine ⟨L, l1, l2, fun x => ⟨fun e => absurd e (hF x), fun e => ?_⟩, l4, fun X kd hS hf => .agg _ _ (by rw [l5]; exact hl) (fun i hi => l6 X kd hS hf i (by rw [l5] at hi; exact hi))⟩
          obtain ⟨i, _, e⟩ := (l3 x).2 e; exact e.elim
  | agg vs cs FF F hl h hF =>
    obtain ⟨L, l1, l2, l3, l4, l5, l6⟩ := got_cells cs n _ FF h
    exact ⟨L, l1, l2, fun x => (hF x).trans (l3 x), l4, fun X kd hS hf => .agg _ _ (by rw [l5]; exact hl) (fun i hi => l6 X kd hS hf i (by rw [l5] at hi; exact hi))⟩

theorem got_parts {w : World} {S : Nat → Prop} : ∀ (rs : List AV) (n : Nat) (vs : Nat → Value) (FF : Nat → Nat → Prop), (∀ (i : Nat) (_ : i < rs.length), BPart w S (vs i) (rs.getD i .top) (FF i)) →
    (∀ (i j x : Nat) (_ : i < rs.length) (_ : j < rs.length), FF i x → FF j x → i = j) →
    ∃ L : List Imp, L.map Imp.blk = impTB n rs ∧ (∀ m, m ∈ L → OwnS w m.v m.nn m.sz m.es m.F) ∧ (∀ x, (∃ i, i < rs.length ∧ FF i x) ↔ ∃ m, m ∈ L ∧ m.F x) ∧ L.Pairwise (fun m m' => ∀ x, m.F x → ¬ m'.F x) ∧
      (impT n rs).length = rs.length ∧
      ∀ (X : Ctx) (kd : Nat → Kd), (∀ x, S x → X.Sh x) → Fits X kd L → ∀ (i : Nat) (_ : i < rs.length), VRel X kd w (vs i) ((impT n rs).getD i .top)
  | [], n, vs, FF, _, _ => ⟨[], rfl, by simp, by simp, .nil, rfl, by simp⟩
  | c :: cs, n, vs, FF, h, hd => by
    have h0 := h 0 (by simp)
    rw [getD_zero] at h0
    obtain ⟨L0, g⟩ := got_part n h0
    obtain ⟨L, l1, l2, l3, l4, l5, l6⟩ := got_parts cs (n + 100) (fun i => vs (i + 1)) (fun i => FF (i + 1))
      (fun i hi => by have := h (i + 1) (by simp; omega); rwa [getD_succ] at this) (fun i j x hi hj hx hy => by have := hd (i + 1) (j + 1) x (by simp; omega) (by simp; omega) hx hy; omega)
    refine ⟨L0 ++ L, ?_, ?_, ?_, ?_, ?_, ?_⟩
    · rw [List.map_append, g.blks, l1]; rfl
    · intro m hm
      rcases List.mem_append.1 hm with e | e
      · exact g.own m e
      · exact l2 m e
    · intro x
      constructor
      · rintro ⟨i, hi, hx⟩
        cases i with
        | zero => obtain ⟨m, h1, h2⟩ := (g.all x).1 hx; exact ⟨m, List.mem_append.2 (.inl h1), h2⟩
        | succ i => obtain ⟨m, h1, h2⟩ := (l3 x).1 ⟨i, by simp at hi; omega, hx⟩; exact ⟨m, List.mem_append.2 (.inr h1), h2⟩
      · rintro ⟨m, h1, h2⟩
        rcases List.mem_append.1 h1 with e | e
        · exact ⟨0, by simp, (g.all x).2 ⟨m, e, h2⟩⟩
        · obtain ⟨i, hi, hx⟩ := (l3 x).2 ⟨m, e, h2⟩
          exact ⟨i + 1, by simp; omega, hx⟩
    · rw [List.pairwise_append]
      refine ⟨g.dis, l4, ?_⟩
      intro m hm m' hm' x hx hx'
      have h1 := (g.all x).2 ⟨m, hm, hx⟩
      obtain ⟨i, hi, hy⟩ := (l3 x).2 ⟨m', hm', hx'⟩
      have := hd 0 (i + 1) x (by simp) (by simp; omega) h1 hy
      omega
    · simp [impT, l5]
    · intro X kd hS hf i hi
      cases i with
      | zero => exact g.rel X kd hS hf.of_append_left
      | succ i => exact l6 X kd hS hf.of_append_right i (by simp at hi; omega)

/-- A named part is a row of the state. -/
theorem OwnS.brel {X : Ctx} {kd : Nat → Kd} {w : World} {m : Imp} (h : OwnS w m.v m.nn m.sz m.es m.F) (hat : X.at_ m.id = blockOf m.v) (hcap : X.cap m.id = capOf m.v) (hown : ∀ x, X.own x = some m.id ↔ m.F x) :
    BRel X kd w m.id (.row true m.nn m.sz m.es) := by
  obtain ⟨hz, hl, h⟩ := h
  refine ⟨hz, hl, ?_⟩
  rcases h with ⟨hv, he, hn, hF⟩ | ⟨b, cap, c, ty, FF, hv, hb, hc, hle, h1, h2, h3, h4⟩
  · exact .inl ⟨by rw [hat, hv]; rfl, hn, he, fun x hx => hF x ((hown x).1 hx)⟩
  · exact .inr ⟨b, c, ty, by rw [hat, hv]; rfl, hb, by rw [hcap, hv]; exact hc, by rw [hcap, hv]; exact hle, .inl ⟨rfl, FF, h1, h2, h3, fun x => (hown x).trans (h4 x)⟩⟩

/-- The owner that a list of parts gives to a block. -/
theorem ownL_ex (L : List Imp) (hd : L.Pairwise (fun m m' => ∀ x, m.F x → ¬ m'.F x)) (d : Nat → Option Nat) :
    ∃ f : Nat → Option Nat, (∀ m, m ∈ L → ∀ x, m.F x → f x = some m.id) ∧ ∀ x, (∀ m, m ∈ L → ¬ m.F x) → f x = d x := by
  classical
  induction L with
  | nil => exact ⟨d, by simp, fun _ _ => rfl⟩
  | cons m L ih =>
    obtain ⟨h1, h2⟩ := List.pairwise_cons.1 hd
    obtain ⟨f, f1, f2⟩ := ih h2
    refine ⟨fun x => if m.F x then some m.id else f x, ?_, ?_⟩
    · intro m' hm' x hx
      rcases List.mem_cons.1 hm' with rfl | e
      · exact if_pos hx
      · show (if m.F x then some m.id else f x) = _
        rw [if_neg (fun e' => h1 m' e x e' hx)]
        exact f1 m' e x hx
    · intro x hx
      show (if m.F x then some m.id else f x) = _
      rw [if_neg (hx m (List.mem_cons.2 (.inl rfl)))]
      exact f2 x (fun m' hm' => hx m' (List.mem_cons.2 (.inr hm')))

/-- The places of the names. -/
theorem atL_ex {β : Type} (L : List Imp) (hnd : (L.map Imp.id).Nodup) (g : Imp → β) (d : Nat → β) :
    ∃ f : Nat → β, (∀ m, m ∈ L → f m.id = g m) ∧ ∀ i, i ∉ L.map Imp.id → f i = d i := by
  induction L with
  | nil => exact ⟨d, by simp, fun _ _ => rfl⟩
  | cons m L ih =>
    rw [List.map_cons, List.nodup_cons] at hnd
    obtain ⟨f, f1, f2⟩ := ih hnd.2
    refine ⟨fun i => if i = m.id then g m else f i, ?_, ?_⟩
    · intro m' hm'
      rcases List.mem_cons.1 hm' with rfl | e
      · exact if_pos rfl
      · show (if m'.id = m.id then g m else f m'.id) = _
        rw [if_neg (fun e' => hnd.1 (by rw [← e']; exact List.mem_map_of_mem e))]
        exact f1 m' e
    · intro i hi
      rw [List.map_cons, List.mem_cons, not_or] at hi
      show (if i = m.id then g m else f i) = _
      rw [if_neg hi.1]
      exact f2 i hi.2

theorem getL_append {β : Type} (d : β) (B r : List (Nat × β)) (i : Nat) : getL d (B ++ r) i = if i ∈ B.map Prod.fst then getL d B i else getL d r i := by
  induction B with
  | nil => simp
  | cons p B ih =>
    obtain ⟨k, v⟩ := p
    simp only [List.cons_append, getL_cons, List.map_cons, List.mem_cons, ih]
    by_cases h : i = k
    · simp [h]
    · simp only [h, if_false, false_or]

theorem getL_imp (d : ABlk) (L : List Imp) (hnd : (L.map Imp.id).Nodup) {m : Imp} (hm : m ∈ L) : getL d (L.map Imp.blk) m.id = .row true m.nn m.sz m.es := by
  induction L with
  | nil => cases hm
  | cons m' L ih =>
    rw [List.map_cons, List.nodup_cons] at hnd
    show getL d ((m'.id, ABlk.row true m'.nn m'.sz m'.es) :: L.map Imp.blk) m.id = _
    rw [getL_cons]
    rcases List.mem_cons.1 hm with rfl | e
    · rw [if_pos rfl]
    · rw [if_neg (fun e' => hnd.1 (by rw [← e']; exact List.mem_map_of_mem e))]
      exact ih hnd.2 e

end Go.Proofs.Ytdaemhaecjldaaa
