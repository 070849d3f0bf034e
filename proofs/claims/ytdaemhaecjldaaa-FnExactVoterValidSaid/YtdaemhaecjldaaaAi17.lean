/- Rows: making them, growing them, writing them. First: what is put into a row, and what becomes of the names in it. -/
import Derived.Test.YtdaemhaecjldaaaAi16
namespace Go.Proofs.Ytdaemhaecjldaaa
open Go Go.RowKit

/-- A cell as it goes into a row: the pure value, the names used up, whether it is owned. -/
def purK (s : AState) (c : AV) (K : AV → List Nat → Bool → Prop) : Prop :=
  match c with
  | .int k n => K (.int k n) [] true
  | .bool b => K (.bool b) [] true
  | .sl (some false) [] => K (.sl (some false) []) [] true
  | .sl nn es => K (.sl nn es) [] false
  | .row id n => (match s.blk id with
    | .row own nn _ es => n = es.length ∧ K (.sl (nnOf nn) es) [id] own
    | .fro _ es => n = es.length ∧ K (.sl none es) [] false
    | _ => False)
  | _ => False

def purLK (s : AState) : List AV → (List AV → List Nat → Bool → Prop) → Prop
  | [], K => K [] [] true
  | c :: cs, K => purK s c fun c' u o => purLK s cs fun cs' us os => K (c' :: cs') (u ++ us) (o && os)

def purLLK (s : AState) : List (List AV) → (List (List AV) → List Nat → Bool → Prop) → Prop
  | [], K => K [] [] true
  | r :: rs, K => purLK s r fun r' u o => purLLK s rs fun rs' us os => K (r' :: rs') (u ++ us) (o && os)

/-- What may be read of values that go into a row while the names u are used up. -/
def PSet (X : Ctx) (u : List Nat) (x : Nat) : Prop := X.Sh x ∨ ∃ t, t ∈ u ∧ X.own x = some t

theorem PSet.mono {X : Ctx} {u u' : List Nat} (h : ∀ i, i ∈ u → i ∈ u') {x : Nat} (hx : PSet X u x) : PSet X u' x :=
  hx.imp id (fun ⟨t, h1, h2⟩ => ⟨t, h t h1, h2⟩)

theorem purK_sound {X : Ctx} {s : AState} {a : Act} {w : World} {c : AV} {v : Value} {K : AV → List Nat → Bool → Prop} (h : R X s a w) (hv : VRel X s.kds w v c) (hK : purK s c K) :
    ∃ (c' : AV) (u : List Nat) (o : Bool), K c' u o ∧ (∀ i, i ∈ u → ∃ own nn sz es, s.blk i = .row own nn sz es) ∧ v.oneCell' = true ∧ Reads w (PSet X u) v c' ∧
      (o = true → ∃ F : Nat → Prop, OwnV w v c' F ∧ ∀ x, F x → ∃ t, t ∈ u ∧ X.own x = some t) := by
  unfold purK at hK
  split at hK
  · refine ⟨_, _, _, hK, by simp, ?_, ?_, fun _ => ⟨fun _ => False, ?_, fun _ e => e.elim⟩⟩
    · rw [hv.int_inv]; rfl
    · rw [hv.int_inv]; exact .int _ _
    · rw [hv.int_inv]; exact .int _ _ _ (fun _ e => e)
  · refine ⟨_, _, _, hK, by simp, ?_, ?_, fun _ => ⟨fun _ => False, ?_, fun _ e => e.elim⟩⟩
    · rw [hv.bool_inv]; rfl
    · rw [hv.bool_inv]; exact .bool _
    · rw [hv.bool_inv]; exact .bool _ _ (fun _ e => e)
  · have hr := hv.sl_inv
    have e : v = .slice none 0 0 := by
      generalize ha : AV.sl (some false) [] = aa at hr
      cases hr with
      | nil => rfl
      | empty a cap nn hn => cases ha; exact absurd rfl hn
      | slice b o cap sz nn es f hn => cases ha; exact absurd rfl hn
      | _ => cases ha
    subst e
    exact ⟨_, _, _, hK, by simp, rfl, .nil _ (by simp), fun _ => ⟨fun _ => False, .nil _ (by simp) _ (fun _ e => e), fun _ e => e.elim⟩⟩
  · have hr := hv.sl_inv
    refine ⟨_, _, _, hK, by simp, hv.one rfl, hr.mono fun x hx => .inl hx, fun e => by cases e⟩
  · rename_i id n
    split at hK
    · rename_i own nn sz es hb
      obtain ⟨hn, hK⟩ := hK
      have hkd : s.kds id = .row sz := by unfold AState.kds; rw [hb]; rfl
      have hB := h.bl id
      rw [hb] at hB
      obtain ⟨hz, hl, hB⟩ := hB
      refine ⟨_, _, _, hK, fun i hi => ?_, hv.one rfl, ?_⟩
      · rw [List.mem_singleton] at hi; subst hi; exact ⟨_, _, _, _, hb⟩
      · rcases hB with ⟨h1, h2, h3, h4⟩ | ⟨b, c, ty, h1, h2, h3, h4, h6⟩
        · rcases hv.row_inv hkd with ⟨b, _, hi⟩ | ⟨e, _, _⟩
          · rw [h1] at hi; cases hi
          · rw [e, h3, h2]
            exact ⟨.nil _ (by simp [nnOf]), fun _ => ⟨fun _ => False, .nil _ (by simp [nnOf]) _ (fun _ e => e), fun _ e => e.elim⟩⟩
        · rcases hv.row_inv hkd with ⟨b', e, hi⟩ | ⟨_, _, hi⟩
          · rw [h1] at hi; cases hi
            rw [e]
            have hnn : nnOf nn ≠ some false := by cases nn <;> simp [nnOf]
            rcases h6 with ⟨ho, FF, h7, h8, h9, h10⟩ | ⟨ho, h8, h9⟩
            · have hO : OwnV w (.slice (some ⟨b, 0, none⟩) n (X.cap id)) (.sl (nnOf nn) es) (fun x => X.own x = some id) := by
                rw [hn]
                exact .slice b (X.cap id) sz (nnOf nn) es c ty FF _ hnn hl hz h4 h2 h3 h7 h8 h9 h10
              exact ⟨hO.reads.mono fun x hx => .inr ⟨id, List.mem_singleton.2 rfl, hx⟩, fun _ => ⟨_, hO, fun x hx => ⟨id, List.mem_singleton.2 rfl, hx⟩⟩⟩
            · refine ⟨rowReads h2 h3 h4 hz hl hn hnn (.inr ⟨id, List.mem_singleton.2 rfl, (h8 b).2 rfl⟩) (fun i j hi hj => (h9 i j hi hj).mono fun x hx => .inl hx), fun e => ?_⟩
              rw [ho] at e; cases e
          · rw [h1] at hi; cases hi
    · rename_i sz es hb
      obtain ⟨hn, hK⟩ := hK
      have hkd : s.kds id = .row sz := by unfold AState.kds; rw [hb]; rfl
      have hB := h.bl id
      rw [hb] at hB
      obtain ⟨hz, hl, ho, hB⟩ := hB
      refine ⟨_, _, _, hK, by simp, hv.one rfl, ?_, fun e => by cases e⟩
      rcases hB with ⟨h1, h2⟩ | ⟨b, c, ty, h1, h2, h3, h4, h6, h7⟩
      · rcases hv.row_inv hkd with ⟨b, _, hi⟩ | ⟨e, _, _⟩
        · rw [h1] at hi; cases hi
        · rw [e, h2]; exact .nil _ (by simp)
      · rcases hv.row_inv hkd with ⟨b', e, hi⟩ | ⟨_, _, hi⟩
        · rw [h1] at hi; cases hi
          rw [e]
          exact rowReads h2 h3 h4 hz hl hn (by simp) (.inl h6) (fun i j hi hj => (h7 i j hi hj).mono fun x hx => .inl hx)
        · rw [h1] at hi; cases hi
    · exact hK.elim
  · exact hK.elim

theorem purLK_sound {X : Ctx} {s : AState} {a : Act} {w : World} (h : R X s a w) : ∀ (cs : List AV) (vs : Nat → Value) (K : List AV → List Nat → Bool → Prop),
    (∀ (i : Nat) (_ : i < cs.length), VRel X s.kds w (vs i) (cs.getD i .top)) → purLK s cs K →
    ∃ (cs' : List AV) (us : List Nat) (o : Bool), K cs' us o ∧ cs'.length = cs.length ∧ (∀ i, i ∈ us → ∃ own nn sz es, s.blk i = .row own nn sz es) ∧ (∀ (i : Nat) (_ : i < cs'.length), (vs i).oneCell' = true) ∧
      (∀ (i : Nat) (_ : i < cs'.length), Reads w (PSet X us) (vs i) (cs'.getD i .top)) ∧
      (o = true → us.Nodup → ∃ FF : Nat → Nat → Prop, (∀ (i : Nat) (_ : i < cs'.length), OwnV w (vs i) (cs'.getD i .top) (FF i)) ∧ (∀ (i x : Nat) (_ : i < cs'.length), FF i x → ∃ t, t ∈ us ∧ X.own x = some t) ∧
        ∀ (i j x : Nat) (_ : i < cs'.length) (_ : j < cs'.length), FF i x → FF j x → i = j)
  | [], vs, K, _, hK => ⟨[], [], true, hK, rfl, by simp, by simp, by simp, fun _ _ => ⟨fun _ _ => False, by simp, by simp, by simp⟩⟩
  | c :: cs, vs, K, hv, hK => by
    have h0 := hv 0 (by simp)
    rw [getD_zero] at h0
    obtain ⟨c', u, o, hK, hu, h1, hR, hO⟩ := purK_sound h h0 hK
    obtain ⟨cs', us, os, hK, hl, hus, hones, hRs, hOs⟩ := purLK_sound h cs (fun i => vs (i + 1)) _ (fun i hi => by
      have := hv (i + 1) (by simp; omega)
      rwa [getD_succ] at this) hK
    refine ⟨c' :: cs', u ++ us, o && os, hK, by simp [hl], ?_, ?_, ?_, ?_⟩
    · intro i hi
      rcases List.mem_append.1 hi with e | e
      · exact hu i e
      · exact hus i e
    · intro i hi
      cases i with
      | zero => exact h1
      | succ i => exact hones i (by simp at hi; omega)
    · intro i hi
      cases i with
      | zero => exact hR.mono fun x hx => hx.mono fun t ht => List.mem_append.2 (.inl ht)
      | succ i => exact (hRs i (by simp at hi; omega)).mono fun x hx => hx.mono fun t ht => List.mem_append.2 (.inr ht)
    · intro ho hnd
      rw [Bool.and_eq_true] at ho
      obtain ⟨hnd1, hnd2, hnd3⟩ := List.nodup_append.1 hnd
      obtain ⟨F, f1, f2⟩ := hO ho.1
      obtain ⟨FF, g1, g2, g3⟩ := hOs ho.2 hnd2
      refine ⟨fun i => match i with | 0 => F | i + 1 => FF i, ?_, ?_, ?_⟩
      · intro i hi
        cases i with
        | zero => exact f1
        | succ i => exact g1 i (by simp at hi; omega)
      · intro i x hi hx
        cases i with
        | zero => obtain ⟨t, e1, e2⟩ := f2 x hx; exact ⟨t, List.mem_append.2 (.inl e1), e2⟩
        | succ i => obtain ⟨t, e1, e2⟩ := g2 i x (by simp at hi; omega) hx; exact ⟨t, List.mem_append.2 (.inr e1), e2⟩
      · intro i j x hi hj hx hy
        cases i with
        | zero =>
          cases j with
          | zero => rfl
          | succ j =>
            obtain ⟨t, e1, e2⟩ := f2 x hx
            obtain ⟨t', e3, e4⟩ := g2 j x (by simp at hj; omega) hy
            rw [e2] at e4; cases e4
            exact absurd rfl (hnd3 t e1 t e3)
        | succ i =>
          cases j with
          | zero =>
            obtain ⟨t, e1, e2⟩ := f2 x hy
            obtain ⟨t', e3, e4⟩ := g2 i x (by simp at hi; omega) hx
            rw [e2] at e4; cases e4
            exact absurd rfl (hnd3 t e1 t e3)
          | succ j => rw [g3 i j x (by simp at hi; omega) (by simp at hj; omega) hx hy]

theorem purLLK_sound {X : Ctx} {s : AState} {a : Act} {w : World} (h : R X s a w) : ∀ (rs : List (List AV)) (vs : Nat → Nat → Value) (K : List (List AV) → List Nat → Bool → Prop),
    (∀ (i j : Nat) (_ : i < rs.length) (_ : j < (rs.getD i []).length), VRel X s.kds w (vs i j) ((rs.getD i []).getD j .top)) → purLLK s rs K →
    ∃ (rs' : List (List AV)) (us : List Nat) (o : Bool), K rs' us o ∧ rs'.length = rs.length ∧ (∀ (i : Nat) (_ : i < rs.length), (rs'.getD i []).length = (rs.getD i []).length) ∧ (∀ i, i ∈ us → ∃ own nn sz es, s.blk i = .row own nn sz es) ∧
      (∀ (i j : Nat) (_ : i < rs'.length) (_ : j < (rs'.getD i []).length), (vs i j).oneCell' = true) ∧
      (∀ (i j : Nat) (_ : i < rs'.length) (_ : j < (rs'.getD i []).length), Reads w (PSet X us) (vs i j) ((rs'.getD i []).getD j .top)) ∧
      (o = true → us.Nodup → ∃ FF : Nat → Nat → Nat → Prop, (∀ (i j : Nat) (_ : i < rs'.length) (_ : j < (rs'.getD i []).length), OwnV w (vs i j) ((rs'.getD i []).getD j .top) (FF i j)) ∧
        (∀ (i j x : Nat) (_ : i < rs'.length) (_ : j < (rs'.getD i []).length), FF i j x → ∃ t, t ∈ us ∧ X.own x = some t) ∧
        ∀ (i j i' j' x : Nat) (_ : i < rs'.length) (_ : j < (rs'.getD i []).length) (_ : i' < rs'.length) (_ : j' < (rs'.getD i' []).length), FF i j x → FF i' j' x → i = i' ∧ j = j')
  | [], vs, K, _, hK => ⟨[], [], true, hK, rfl, by simp, by simp, by simp, by simp, fun _ _ => ⟨fun _ _ _ => False, by simp, by simp, by simp⟩⟩
  | r :: rs, vs, K, hv, hK => by
    have h0 := fun j hj => hv 0 j (by simp) hj
    rw [getD_zero] at h0
    obtain ⟨r', u, o, hK, hrl, hu, h1, hR, hO⟩ := purLK_sound h r (vs 0) _ h0 hK
    obtain ⟨rs', us, os, hK, hl, hll, hus, hones, hRs, hOs⟩ := purLLK_sound h rs (fun i => vs (i + 1)) _ (fun i j hi hj => by
      have := hv (i + 1) j (by simp; omega) (by rw [getD_succ]; exact hj)
      rwa [getD_succ] at this) hK
    refine ⟨r' :: rs', u ++ us, o && os, hK, by simp [hl], ?_, ?_, ?_, ?_, ?_⟩
    · intro i hi
      cases i with
      | zero => exact hrl
      | succ i => rw [getD_succ, getD_succ]; exact hll i (by simp at hi; omega)
    · intro i hi
      rcases List.mem_append.1 hi with e | e
      · exact hu i e
      · exact hus i e
    · intro i j hi hj
      cases i with
      | zero => exact h1 j hj
      | succ i => exact hones i j (by simp at hi; omega) hj
    · intro i j hi hj
      cases i with
      | zero => exact (hR j hj).mono fun x hx => hx.mono fun t ht => List.mem_append.2 (.inl ht)
      | succ i => exact (hRs i j (by simp at hi; omega) hj).mono fun x hx => hx.mono fun t ht => List.mem_append.2 (.inr ht)
    · intro ho hnd
      rw [Bool.and_eq_true] at ho
      obtain ⟨hnd1, hnd2, hnd3⟩ := List.nodup_append.1 hnd
      obtain ⟨F, f1, f2, f3⟩ := hO ho.1 hnd1
      obtain ⟨FF, g1, g2, g3⟩ := hOs ho.2 hnd2
      refine ⟨fun i => match i with | 0 => F | i + 1 => FF i, ?_, ?_, ?_⟩
      · intro i j hi hj
        cases i with
        | zero => exact f1 j hj
        | succ i => exact g1 i j (by simp at hi; omega) hj
      · intro i j x hi hj hx
        cases i with
        | zero => obtain ⟨t, e1, e2⟩ := f2 j x hj hx; exact ⟨t, List.mem_append.2 (.inl e1), e2⟩
        | succ i => obtain ⟨t, e1, e2⟩ := g2 i j x (by simp at hi; omega) hj hx; exact ⟨t, List.mem_append.2 (.inr e1), e2⟩
      · intro i j i' j' x hi hj hi' hj' hx hy
        cases i with
        | zero =>
          cases i' with
          | zero => exact ⟨rfl, f3 j j' x hj hj' hx hy⟩
          | succ i' =>
            obtain ⟨t, e1, e2⟩ := f2 j x hj hx
            obtain ⟨t', e3, e4⟩ := g2 i' j' x (by simp at hi'; omega) hj' hy
            rw [e2] at e4; cases e4
            exact absurd rfl (hnd3 t e1 t e3)
        | succ i =>
          cases i' with
          | zero =>
            obtain ⟨t, e1, e2⟩ := f2 j' x hj' hy
            obtain ⟨t', e3, e4⟩ := g2 i j x (by simp at hi; omega) hj hx
            rw [e2] at e4; cases e4
            exact absurd rfl (hnd3 t e1 t e3)
          | succ i' =>
            obtain ⟨e1, e2⟩ := g3 i j i' j' x (by simp at hi; omega) hj (by simp at hi'; omega) hj' hx hy
            exact ⟨by rw [e1], e2⟩

end Go.Proofs.Ytdaemhaecjldaaa
