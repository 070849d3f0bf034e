/- A call: from the state before to the state behind it. -/
import Derived.Test.YtdaemhaecjldaaaAi10
namespace Go.Proofs.Ytdaemhaecjldaaa
open Go Go.RowKit

/-- A cell of an argument, as the callee reads it; 'u': a row of the caller's own is shown to it. -/
def argC (s : AState) (c : AV) (K : AV → Bool → Prop) : Prop :=
  match c with
  | .int k n => K (.int k n) false
  | .bool b => K (.bool b) false
  | .sl nn es => K (.sl nn es) false
  | .fn f cs => K (.fn f cs) false
  | .row id n => (match s.blk id with
    | .row _ nn _ es => n = es.length ∧ K (.sl (nnOf nn) es) true
    | .fro _ es => n = es.length ∧ K (.sl none es) false
    | _ => False)
  | _ => False

def argL (s : AState) : List AV → (List AV → Bool → Prop) → Prop
  | [], K => K [] false
  | c :: cs, K => argC s c fun c' u => argL s cs fun cs' us => K (c' :: cs') (u || us)

def argP (s : AState) (hb : Bool) (bid : Nat) (c : AV) (K : AV → Bool → Prop) : Prop :=
  match c with
  | .agg cs => argL s cs fun cs' u => K (.agg cs') u
  | .loc id off => hb = true ∧ id = bid ∧ off = 0 ∧ K (.loc 0 0) false
  | c => argC s c K

def argsK (s : AState) (hb : Bool) (bid : Nat) : List AV → (List AV → Bool → Prop) → Prop
  | [], K => K [] false
  | c :: cs, K => argP s hb bid c fun c' u => argsK s hb bid cs fun cs' us => K (c' :: cs') (u || us)

/-- What a callee may read: all but what is handed over to be written. -/
def CSet (X : Ctx) (used : Bool) (Tb : Nat → Prop) (x : Nat) : Prop := X.base.A x ∧ ∀ id, X.own x = some id → used = true ∧ ¬ Tb id

theorem Sh_CSet {X : Ctx} {used : Bool} {Tb : Nat → Prop} {x : Nat} (h : X.Sh x) : CSet X used Tb x :=
  ⟨h.2, fun id e => by rw [h.1] at e; cases e⟩

theorem CSet.mono {X : Ctx} {u u' : Bool} {Tb : Nat → Prop} (hu : u = true → u' = true) {x : Nat} (h : CSet X u Tb x) : CSet X u' Tb x :=
  ⟨h.1, fun id e => ⟨hu (h.2 id e).1, (h.2 id e).2⟩⟩

def rowName : AV → Option Nat
  | .row id _ => some id
  | _ => none

theorem argC_sound {X : Ctx} {s : AState} {a : Act} {w : World} {c : AV} {v : Value} {K : AV → Bool → Prop} {Tb : Nat → Prop} (h : R X s a w) (hTb : ∀ id, rowName c = some id → ¬ Tb id)
    (hv : VRel X s.kds w v c) (hK : argC s c K) : ∃ (c' : AV) (u : Bool), K c' u ∧ Reads w (CSet X u Tb) v c' := by
  unfold argC at hK
  split at hK
  · exact ⟨_, _, hK, by cases hv.int_inv; exact .int _ _⟩
  · exact ⟨_, _, hK, by cases hv.bool_inv; exact .bool _⟩
  · exact ⟨_, _, hK, hv.sl_inv.mono fun x hx => Sh_CSet hx⟩
  · exact ⟨_, _, hK, hv.fn_inv.mono fun x hx => Sh_CSet hx⟩
  · rename_i id n
    have hnT := hTb id rfl
    split at hK
    · rename_i own nn sz es hb
      obtain ⟨hn, hK⟩ := hK
      have hkd : s.kds id = .row sz := by unfold AState.kds; rw [hb]; rfl
      have hB := h.bl id
      rw [hb] at hB
      obtain ⟨hz, hl, hB⟩ := hB
      refine ⟨_, _, hK, ?_⟩
      rcases hB with ⟨h1, h2, h3, h4⟩ | ⟨b, c, ty, h1, h2, h3, h4, h6⟩
      · rcases hv.row_inv hkd with ⟨b, _, hi⟩ | ⟨e, _, _⟩
        · rw [h1] at hi; cases hi
        · rw [e, h3]; exact .nil _ (by rw [h2]; simp [nnOf])
      · rcases hv.row_inv hkd with ⟨b', e, hi⟩ | ⟨_, _, hi⟩
        · rw [h1] at hi; cases hi
          rw [e]
          have hC : ∀ x, X.own x = some id → CSet X true Tb x := fun x hx => ⟨h.ownA hx, fun id' e => by rw [hx] at e; cases e; exact ⟨rfl, hnT⟩⟩
          rcases h6 with ⟨_, FF, h7, _, _, h10⟩ | ⟨_, h8, h9⟩
          · exact rowReads h2 h3 h4 hz hl hn (by cases nn <;> simp [nnOf]) (hC b ((h10 b).2 (.inl rfl))) (fun i j hi hj => (h7 i j hi hj).reads.mono fun x hx => hC x ((h10 x).2 (.inr ⟨i, j, hi, hj, hx⟩)))
          · exact rowReads h2 h3 h4 hz hl hn (by cases nn <;> simp [nnOf]) (hC b ((h8 b).2 rfl)) (fun i j hi hj => (h9 i j hi hj).mono fun x hx => Sh_CSet hx)
        · rw [h1] at hi; cases hi
    · rename_i sz es hb
      obtain ⟨hn, hK⟩ := hK
      have hkd : s.kds id = .row sz := by unfold AState.kds; rw [hb]; rfl
      have hB := h.bl id
      rw [hb] at hB
      obtain ⟨hz, hl, ho, hB⟩ := hB
      refine ⟨_, _, hK, ?_⟩
      rcases hB with ⟨h1, h2⟩ | ⟨b, c, ty, h1, h2, h3, h4, h6, h7⟩
      · rcases hv.row_inv hkd with ⟨b, _, hi⟩ | ⟨e, _, _⟩
        · rw [h1] at hi; cases hi
        · rw [e, h2]; exact .nil _ (by simp)
      · rcases hv.row_inv hkd with ⟨b', e, hi⟩ | ⟨_, _, hi⟩
        · rw [h1] at hi; cases hi
          rw [e]
          exact rowReads h2 h3 h4 hz hl hn (by simp) (Sh_CSet h6) (fun i j hi hj => (h7 i j hi hj).mono fun x hx => Sh_CSet hx)
        · rw [h1] at hi; cases hi
    · exact hK.elim
  · exact hK.elim

/-- No row among the cells has a name of Tb. -/
def noT (Tb : Nat → Prop) : List AV → Prop
  | [] => True
  | .row id _ :: r => ¬ Tb id ∧ noT Tb r
  | _ :: r => noT Tb r

theorem noT_head {Tb : Nat → Prop} {c : AV} {r : List AV} (h : noT Tb (c :: r)) : (∀ id, rowName c = some id → ¬ Tb id) ∧ noT Tb r := by
  cases c <;> first
    | exact ⟨(fun id e => by cases e), h⟩
    | exact ⟨(fun id e => by cases e; exact h.1), h.2⟩

theorem argL_sound {X : Ctx} {s : AState} {a : Act} {w : World} {Tb : Nat → Prop} (h : R X s a w) : ∀ (cs : List AV) (vs : Nat → Value) (K : List AV → Bool → Prop), noT Tb cs →
    (∀ (i : Nat) (_ : i < cs.length), VRel X s.kds w (vs i) (cs.getD i .top)) → argL s cs K →
    ∃ (cs' : List AV) (u : Bool), K cs' u ∧ cs'.length = cs.length ∧ ∀ (i : Nat) (_ : i < cs'.length), Reads w (CSet X u Tb) (vs i) (cs'.getD i .top)
  | [], vs, K, _, _, hK => ⟨[], false, hK, rfl, by simp⟩
  | c :: cs, vs, K, hT, hv, hK => by
    have h0 := hv 0 (by simp)
    rw [getD_zero] at h0
    obtain ⟨hT1, hT2⟩ := noT_head hT
    obtain ⟨c', u, hK, hC⟩ := argC_sound (Tb := Tb) h hT1 h0 hK
    obtain ⟨cs', us, hK, hl, hCs⟩ := argL_sound h cs (fun i => vs (i + 1)) _ hT2 (fun i hi => by
      have := hv (i + 1) (by simp; omega)
      rwa [getD_succ] at this) hK
    refine ⟨c' :: cs', u || us, hK, by simp [hl], ?_⟩
    intro i hi
    cases i with
    | zero => exact hC.mono fun x hx => hx.mono (fun e => by simp [e])
    | succ i => exact (hCs i (by simp at hi; omega)).mono fun x hx => hx.mono (fun e => by simp [e])

def noTP (Tb : Nat → Prop) : List AV → Prop
  | [] => True
  | .agg cs :: r => noT Tb cs ∧ noTP Tb r
  | .row id _ :: r => ¬ Tb id ∧ noTP Tb r
  | _ :: r => noTP Tb r

theorem argsK_sound {X : Ctx} {s : AState} {a : Act} {w : World} {Tb : Nat → Prop} {hb : Bool} {bid b : Nat} (h : R X s a w) (hbid : hb = true → X.at_ bid = some b ∧ s.kds bid = .var) : ∀ (cs : List AV) (vs : Nat → Value) (K : List AV → Bool → Prop), noTP Tb cs →
    (∀ (i : Nat) (_ : i < cs.length), VRel X s.kds w (vs i) (cs.getD i .top)) → argsK s hb bid cs K →
    ∃ (cs' : List AV) (u : Bool), K cs' u ∧ cs'.length = cs.length ∧ ∀ (i : Nat) (_ : i < cs'.length), ArgRel w (CSet X u Tb) hb b (vs i) (cs'.getD i .top)
  | [], vs, K, _, _, hK => ⟨[], false, hK, rfl, by simp⟩
  | c :: cs, vs, K, hT, hv, hK => by
    have h0 := hv 0 (by simp)
    rw [getD_zero] at h0
    have tail : ∀ (c' : AV) (u : Bool), noTP Tb cs → ArgRel w (CSet X u Tb) hb b (vs 0) c' → (argsK s hb bid cs fun cs' us => K (c' :: cs') (u || us)) →
        ∃ (cs' : List AV) (u : Bool), K cs' u ∧ cs'.length = (c :: cs).length ∧ ∀ (i : Nat) (_ : i < cs'.length), ArgRel w (CSet X u Tb) hb b (vs i) (cs'.getD i .top) := by
      intro c' u hT' hC hK
      obtain ⟨cs', us, hK, hl, hCs⟩ := argsK_sound h hbid cs (fun i => vs (i + 1)) _ hT' (fun i hi => by
        have := hv (i + 1) (by simp; omega)
        rwa [getD_succ] at this) hK
      refine ⟨c' :: cs', u || us, hK, by simp [hl], ?_⟩
      intro i hi
      cases i with
      | zero => exact hC.imp (fun e => e.mono fun x hx => hx.mono (fun e => by simp [e])) id
      | succ i => exact (hCs i (by simp at hi; omega)).imp (fun e => e.mono fun x hx => hx.mono (fun e => by simp [e])) id
    unfold argsK argP at hK
    split at hK
    · rename_i cc
      obtain ⟨hT1, hT2⟩ := hT
      obtain ⟨us, e, hus, hur⟩ := h0.agg_inv
      obtain ⟨cs', u, hK, hl, hr⟩ := argL_sound h cc (fun i => us.getD i undef) _ hT1 hur hK
      refine tail _ u hT2 (.inl ?_) hK
      rw [e]
      exact .agg _ _ (by omega) (fun i hi => hr i hi)
    · rename_i id off
      obtain ⟨h1, h2, h3, hK⟩ := hK
      subst h2; subst h3
      obtain ⟨h4, h5⟩ := hbid h1
      obtain ⟨b', e, h6⟩ := h0.loc_inv h5
      rw [h4] at h6; cases h6
      exact tail _ _ hT (.inr ⟨h1, rfl, e⟩) hK
    · rename_i hna hnl
      have hT' : (∀ id, rowName c = some id → ¬ Tb id) ∧ noTP Tb cs := by
        cases c <;> first
          | exact (hna _ rfl).elim
          | exact ⟨(fun id e => by cases e), hT⟩
          | exact ⟨(fun id e => by cases e; exact hT.1), hT.2⟩
      obtain ⟨c', u, hK, hC⟩ := argC_sound (Tb := Tb) h hT'.1 h0 hK
      exact tail c' u hT'.2 (.inl hC) hK

end Go.Proofs.Ytdaemhaecjldaaa
