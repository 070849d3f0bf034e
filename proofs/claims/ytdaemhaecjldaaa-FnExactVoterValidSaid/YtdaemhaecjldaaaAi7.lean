/- Why the operations that read cells are right. -/
import Derived.Test.YtdaemhaecjldaaaAi6
namespace Go.Proofs.Ytdaemhaecjldaaa
open Go Go.RowKit

theorem blk_upd (s : AState) (id : Nat) (B : ABlk) (id' : Nat) : ({ s with hp := (id, B) :: s.hp } : AState).blk id' = if id' = id then B else s.blk id' := rfl
theorem blk_nil (s : AState) (id' : Nat) : ({ s with hp := [] ++ s.hp } : AState).blk id' = s.blk id' := rfl

/-- Nested values of an own row may be read as immutable ones: the row then owns its own block alone. -/
theorem R.disown {X : Ctx} {s : AState} {a : Act} {w : World} (h : R X s a w) {id : Nat} {nn : Bool} {sz : Nat} {es : List (List AV)} (hb : s.blk id = .row true nn sz es) :
    ∃ X' : Ctx, X'.base = X.base ∧ X'.at_ = X.at_ ∧ X'.cap = X.cap ∧ R X' { s with hp := (id, .row false nn sz es) :: s.hp } a w := by
  have hB := h.bl id
  rw [hb] at hB
  obtain ⟨hz, hl, hB⟩ := hB
  let X' : Ctx := { X with own := fun x => if X.own x = some id ∧ X.at_ id ≠ some x then none else X.own x }
  have hX' : ∀ x, X'.own x = if X.own x = some id ∧ X.at_ id ≠ some x then none else X.own x := fun _ => rfl
  have hkd : ∀ id', ({ s with hp := (id, .row false nn sz es) :: s.hp } : AState).kds id' = s.kds id' := by
    intro id'
    show (({ s with hp := (id, .row false nn sz es) :: s.hp } : AState).blk id').kd = (s.blk id').kd
    rw [blk_upd]
    split
    · rename_i e; rw [e, hb]; rfl
    · rfl
  refine ⟨X', rfl, rfl, rfl, ?_⟩
  refine h.step (T := fun i => i = id) (w' := w) ?_ h.nt h.df ?_ ?_ ?_ ?_
  · refine ⟨rfl, rfl, rfl, rfl, Nat.le_refl _, ?_, fun _ _ => ⟨rfl, rfl⟩, ?_, ?_, rfl⟩
    · intro x _ hx
      refine ⟨rfl, ?_⟩
      rw [hX', if_neg]
      exact fun e => hx id rfl e.1
    · intro x id' _ hx
      rw [hX'] at hx
      split at hx
      · cases hx
      · exact hx
    · intro x id' hx
      rw [hX'] at hx
      split at hx
      · cases hx
      · exact h.ow x id' hx
  · intro id' hid
    rw [blk_upd, if_neg hid]
  · intro id' hid
    subst hid
    refine .inr (.inr ⟨?_, hkd id', rfl, rfl⟩)
    unfold AState.kds; rw [hb]; exact fun e => by cases e
  · intro hV i
    exact hV _ _ (h.fr i)
  · intro hV id' hid
    subst hid
    rw [blk_upd, if_pos rfl]
    refine ⟨hz, hl, ?_⟩
    rcases hB with ⟨h1, h2, h3, h4⟩ | ⟨b, c, ty, h1, h2, h3, h4, h6⟩
    · refine .inl ⟨h1, h2, h3, fun x hx => ?_⟩
      rw [hX'] at hx
      split at hx
      · cases hx
      · exact h4 x hx
    · refine .inr ⟨b, c, ty, h1, h2, h3, h4, .inr ⟨rfl, ?_, ?_⟩⟩
      · rcases h6 with ⟨_, FF, _, _, _, h10⟩ | ⟨h7, _⟩
        · intro x
          rw [hX']
          constructor
          · intro hx
            split at hx
            · cases hx
            · rename_i hne
              by_cases e : X.at_ id' = some x
              · rw [h1] at e; cases e; rfl
              · exact absurd ⟨hx, e⟩ hne
          · rintro rfl
            rw [if_neg (fun e => e.2 h1)]
            exact (h10 x).2 (.inl rfl)
        · cases h7
      · rcases h6 with ⟨_, FF, h7, h8, h9, h10⟩ | ⟨h7, _⟩
        · intro i j hi hj
          refine (h7 i j hi hj).reads.mono (fun x hx => ?_)
          have hox : X.own x = some id' := (h10 x).2 (.inr ⟨i, j, hi, hj, hx⟩)
          have hxb : X.at_ id' ≠ some x := by
            intro e; rw [h1] at e; cases e; exact h9 i j hi hj hx
          refine ⟨?_, ?_⟩
          · rw [hX', if_pos ⟨hox, hxb⟩]
          · rcases (h.ow x id' hox).2 with h | h
            · exact .inr (.inl h)
            · exact .inr (.inr h)
        · cases h7

theorem getD_mem {α : Type} (l : List α) (j : Nat) (d : α) (h : j < l.length) : l.getD j d ∈ l := by
  rw [List.getD_eq_getElem?_getD, List.getElem?_eq_getElem h]
  exact List.getElem_mem h

theorem take_drop_getD {α : Type} (l : List α) (o n j : Nat) (d : α) (hj : j < n) : ((l.drop o).take n).getD j d = l.getD (o + j) d := by
  simp only [List.getD_eq_getElem?_getD]
  rw [List.getElem?_take_of_lt hj, List.getElem?_drop]

/-- The cells from an address on: in the machine as in the abstract. -/
theorem cellsK_sound {X : Ctx} {s : AState} {a : Act} {w : World} {x : AV} {v : Value} {flat : Bool} {size : Nat} {K : List AV → List (Nat × ABlk) → Prop} (h : R X s a w) (hx : VRel X s.kds w v x) (hK : cellsK s flat size x K) :
    ∃ (b o : Nat) (f : Nat → Value) (cs : List AV) (ups : List (Nat × ABlk)) (X' : Ctx), v = .pointer (some ⟨b, o, none⟩) ∧ cs.length = size ∧ (∀ j, j < size → w.cell? ⟨b, o + j, none⟩ = some (f j)) ∧
      X'.base = X.base ∧ R X' { s with hp := ups ++ s.hp } a w ∧ (∀ j, j < size → VRel X' ({ s with hp := ups ++ s.hp } : AState).kds w (f j) (cs.getD j .top)) ∧ K cs ups := by
  unfold cellsK at hK
  split at hK
  · rename_i id off
    split at hK
    · rename_i cs hb
      obtain ⟨hl, hK⟩ := hK
      have hkd : s.kds id = .var := by unfold AState.kds; rw [hb]; rfl
      obtain ⟨b, rfl, hi⟩ := hx.loc_inv hkd
      have hB := h.bl id
      rw [hb] at hB
      obtain ⟨b', c, ty, h1, h2, h3, h4, h5⟩ := hB
      rw [hi] at h1; cases h1
      refine ⟨b, off, fun j => c.getD (off + j) undef, _, [], X, rfl, by simp; omega, ?_, rfl, h, ?_, hK⟩
      · intro j hj
        exact getD_cell h2 (by omega)
      · intro j hj
        rw [take_drop_getD _ _ _ _ _ hj]
        exact h5 (off + j) (by omega)
    · exact hK.elim
  · rename_i id e off
    have key : ∀ (own nn : Bool) (sz : Nat) (es : List (List AV)), s.blk id = .row own nn sz es → e < es.length → off + size ≤ sz → size = 0 ∨ 0 < size →
        (own = false ∨ (((es.getD e []).drop off).take size).all AV.flat = true) → ∃ (b o : Nat) (f : Nat → Value), v = .pointer (some ⟨b, o, none⟩) ∧ (∀ j, j < size → w.cell? ⟨b, o + j, none⟩ = some (f j)) ∧
        ∀ j, j < size → VRel X s.kds w (f j) ((((es.getD e []).drop off).take size).getD j .top) := by
      intro own nn sz es hb he hsz _ hown
      have hkd : s.kds id = .row sz := by unfold AState.kds; rw [hb]; rfl
      obtain ⟨b, rfl, hi⟩ := hx.elt_inv hkd
      have hB := h.bl id
      rw [hb] at hB
      obtain ⟨hz, hl, hB⟩ := hB
      rcases hB with ⟨h1, _⟩ | ⟨b', c, ty, h1, h2, h3, h4, h6⟩
      · rw [hi] at h1; cases h1
      · rw [hi] at h1; cases h1
        refine ⟨b, e * sz + off, fun j => c.getD (e * sz + (off + j)) undef, rfl, ?_, ?_⟩
        · intro j hj
          rw [Nat.add_assoc]
          exact getD_cell h2 (by rw [h3]; exact mul_lt_of he (by omega) h4)
        · intro j hj
          rw [take_drop_getD _ _ _ _ _ hj]
          rcases h6 with ⟨h7, FF, h8, _⟩ | ⟨_, _, h8⟩
          · rcases hown with hown | hown
            · rw [h7] at hown; cases hown
            · have hrow := h8 e (off + j) he (by omega)
              have hfl : AV.flat ((es.getD e []).getD (off + j) .top) = true := by
                have hlen : (es.getD e []).length = sz := hl _ (by rw [List.getD_eq_getElem?_getD, List.getElem?_eq_getElem he]; exact List.getElem_mem he)
                have hmem : ((es.getD e []).getD (off + j) .top) ∈ ((es.getD e []).drop off).take size := by
                  rw [← take_drop_getD _ _ size _ _ hj]
                  have hjl : j < (((es.getD e []).drop off).take size).length := by simp only [List.length_take, List.length_drop, hlen]; omega
                  exact getD_mem _ _ _ hjl
                exact List.all_eq_true.1 hown _ hmem
              show VRel X s.kds w (c.getD (e * sz + (off + j)) undef) _
              generalize (es.getD e []).getD (off + j) .top = av at *
              generalize c.getD (e * sz + (off + j)) undef = vv at *
              cases hrow with
              | int => exact .pure (.int _ _)
              | bool => exact .pure (.bool _)
              | nil => cases hfl
              | slice => cases hfl
          · exact .pure (h8 e (off + j) he (by omega))
    split at hK
    · rename_i nn sz es hb
      obtain ⟨he, hsz, hK⟩ := hK
      split at hK
      · obtain ⟨hfl, hK⟩ := hK
        obtain ⟨b, o, f, hv, hc, hr⟩ := key true nn sz es hb he hsz (by omega) (.inr hfl)
        have hlen : (es.getD e []).length = sz := by
          have hB := h.bl id; rw [hb] at hB
          exact hB.2.1 _ (by rw [List.getD_eq_getElem?_getD, List.getElem?_eq_getElem he]; exact List.getElem_mem he)
        exact ⟨b, o, f, _, [], X, hv, by simp only [List.length_take, List.length_drop, hlen]; omega, hc, rfl, h, hr, hK⟩
      · have hB := h.bl id
        obtain ⟨X', hXb, hXa, hXc, hR⟩ := h.disown hb
        have hkd : s.kds id = .row sz := by unfold AState.kds; rw [hb]; rfl
        obtain ⟨b, rfl, hi⟩ := hx.elt_inv hkd
        have hlen : (es.getD e []).length = sz := by
          rw [hb] at hB
          exact hB.2.1 _ (by rw [List.getD_eq_getElem?_getD, List.getElem?_eq_getElem he]; exact List.getElem_mem he)
        have hB' := hR.bl id
        rw [blk_upd, if_pos rfl] at hB'
        obtain ⟨hz, hl, hB'⟩ := hB'
        rcases hB' with ⟨h1, _⟩ | ⟨b', c, ty, h1, h2, h3, h4, h6⟩
        · rw [hXa, hi] at h1; cases h1
        · rw [hXa, hi] at h1; cases h1
          rcases h6 with ⟨h7, _⟩ | ⟨_, _, h8⟩
          · cases h7
          · refine ⟨b, e * sz + off, fun j => c.getD (e * sz + (off + j)) undef, _, [(id, .row false nn sz es)], X', rfl, by simp only [List.length_take, List.length_drop, hlen]; omega, ?_, hXb, hR, ?_, hK⟩
            · intro j hj
              rw [Nat.add_assoc]
              exact getD_cell h2 (by rw [h3]; exact mul_lt_of he (by omega) h4)
            · intro j hj
              rw [take_drop_getD _ _ _ _ _ hj]
              exact .pure (h8 e (off + j) he (by omega))
    · rename_i nn sz es hb
      obtain ⟨he, hsz, hK⟩ := hK
      obtain ⟨b, o, f, hv, hc, hr⟩ := key false nn sz es hb he hsz (by omega) (.inl rfl)
      have hlen : (es.getD e []).length = sz := by
        have hB := h.bl id; rw [hb] at hB
        exact hB.2.1 _ (by rw [List.getD_eq_getElem?_getD, List.getElem?_eq_getElem he]; exact List.getElem_mem he)
      exact ⟨b, o, f, _, [], X, hv, by simp only [List.length_take, List.length_drop, hlen]; omega, hc, rfl, h, hr, hK⟩
    · rename_i sz es hb
      obtain ⟨he, hsz, hK⟩ := hK
      have hkd : s.kds id = .row sz := by unfold AState.kds; rw [hb]; rfl
      obtain ⟨b, rfl, hi⟩ := hx.elt_inv hkd
      have hB := h.bl id
      rw [hb] at hB
      obtain ⟨hz, hl, ho, hB⟩ := hB
      have hlen : (es.getD e []).length = sz := hl _ (by rw [List.getD_eq_getElem?_getD, List.getElem?_eq_getElem he]; exact List.getElem_mem he)
      rcases hB with ⟨h1, _⟩ | ⟨b', c, ty, h1, h2, h3, h4, h6, h7⟩
      · rw [hi] at h1; cases h1
      · rw [hi] at h1; cases h1
        refine ⟨b, e * sz + off, fun j => c.getD (e * sz + (off + j)) undef, _, [], X, rfl, by simp only [List.length_take, List.length_drop, hlen]; omega, ?_, rfl, h, ?_, hK⟩
        · intro j hj
          rw [Nat.add_assoc]
          exact getD_cell h2 (by rw [h3]; exact mul_lt_of he (by omega) h4)
        · intro j hj
          rw [take_drop_getD _ _ _ _ _ hj]
          exact .pure (h7 e (off + j) he (by omega))
    · exact hK.elim
  · rename_i cs
    obtain ⟨hl, hK⟩ := hK
    obtain ⟨b, o, g, rfl, hl', hS, hc, hr⟩ := hx.pel_inv
    refine ⟨b, o, g, _, [], X, rfl, by simp; omega, fun j hj => hc j (by omega), rfl, h, ?_, hK⟩
    intro j hj
    have := take_drop_getD cs 0 size j .top hj
    simp only [List.drop_zero, Nat.zero_add] at this
    rw [this]
    exact .pure (hr j (by omega))
  · exact hK.elim

theorem loadK_sound {P : Program} {T : Tab} (hT : TabOk P T) {X : Ctx} {s : AState} {a : Act} {w : World} {t : TypeId} {x : AV} {v : Value} {K : AV → List (Nat × ABlk) → Prop} (h : R X s a w) (hx : VRel X s.kds w v x) (hK : loadK T s t x K) :
    ∃ r ar ups X', (Instr.loadAt t v).run P w = .ok r w ∧ X'.base = X.base ∧ R X' { s with hp := ups ++ s.hp } a w ∧ VRel X' ({ s with hp := ups ++ s.hp } : AState).kds w r ar ∧ K ar ups := by
  unfold loadK tyShape at hK
  cases hi : T t with
  | none => simp [hi] at hK
  | some i =>
    obtain ⟨nf, d, z, ok⟩ := hT.get hi
    simp only [hi] at hK
    cases hag : i.agg with
    | true =>
      simp only [hag] at hK
      obtain ⟨b, o, f, cs, ups, X', rfl, hl, hc, hXb, hR, hr, hK⟩ := cellsK_sound h hx hK
      refine ⟨.agg ((List.range i.size).map f).toArray, .agg cs, ups, X', ?_, hXb, hR, ?_, hK⟩
      · simp only [Instr.loadAt, Instr.sureAddr, Sem.run_bind, Sem.run_pure, Result.andThen_ok, loadVar, ok.run_agg, ok.run_size, hag, if_true]
        rw [run_loadCells w ⟨b, o, none⟩ i.size f (fun j hj => by rw [addr_add]; exact hc j hj)]
        rfl
      · refine .agg _ _ (by simp [hl]) (fun j hj => ?_)
        have : (((List.range i.size).map f).toArray).getD j undef = f j := by
          have hj' : j < i.size := by omega
          simp [Array.getD, hj']
        rw [this]
        exact hr j (by omega)
    | false =>
      simp only [hag] at hK
      obtain ⟨h1, hK⟩ := hK
      obtain ⟨b, o, f, cs, ups, X', rfl, hl, hc, hXb, hR, hr, hK⟩ := cellsK_sound h hx hK
      refine ⟨f 0, cs.getD 0 .top, ups, X', ?_, hXb, hR, hr 0 (by omega), hK⟩
      have := hc 0 (by omega)
      rw [Nat.add_zero] at this
      simp only [Instr.loadAt, Instr.sureAddr, Sem.run_bind, Sem.run_pure, Result.andThen_ok, loadVar, ok.run_agg, hag, Bool.false_eq_true, if_false, run_load, this]

end Go.Proofs.Ytdaemhaecjldaaa
