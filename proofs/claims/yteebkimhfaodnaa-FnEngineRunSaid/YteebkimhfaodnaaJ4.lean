/- Shared texts J (part 4): Ai51, Ai53, Ai54, Ai55, AiT, AiS, W1, W2, W3, W4, W5, W6, W7, W8, W9, W10, W11, W12, W13, W14, W15, W16, W17, W18, W19, W20, W21, W22, W23, W24, W25, Ty1, Ty4, Ty5, Ty6, W42, W46, W47, W48, W49, W50, W51, W52, W53, W60, W61, W62 -/
import Derived.Test.YteebkimhfaodnaaChecked
import Derived.Shelf.SlSortCmp.NoneTotal
import Derived.Maps.Views
import Derived.Test.YteebkimhfaodnaaJ3

set_option linter.unusedSimpArgs false
set_option linter.unusedVariables false

/- Ghost steps at the end of a piece of code: the state may be seen as another one. -/
namespace Go.Proofs.Yteebkimhfaodnaa
open Go Go.RowKit

def Ghost (s t : AState) : Prop := ∀ (X : Ctx) (a : Act) (w : World), R X s a w → ∃ X' : Ctx, X'.base = X.base ∧ R X' t a w

theorem Ghost.refl (s : AState) : Ghost s s := fun X _ _ h => ⟨X, rfl, h⟩
theorem Ghost.trans {s t u : AState} (h : Ghost s t) (h' : Ghost t u) : Ghost s u := fun X a w hR => by
  obtain ⟨X1, e1, h1⟩ := h X a w hR
  obtain ⟨X2, e2, h2⟩ := h' X1 a w h1
  exact ⟨X2, e2.trans e1, h2⟩
theorem Ghost.weak {s t : AState} {ρ : List (Nat × Nat)} (hw : Weak ρ s t) : Ghost s t := fun X a w h => h.weak hw

/-- The state may be seen as another one before it goes on (the rest stands in an instance, out of simp's sight). -/
def GhostK (s : AState) [K : Kont (AState → Prop)] : Prop := ∃ t, Ghost s t ∧ K.k t

theorem GhostK.go {s : AState} {Kx : AState → Prop} (t : AState) (hg : Ghost s t) (h : Kx t) : @GhostK s ⟨Kx⟩ := ⟨t, hg, h⟩

theorem semL_ghostX {P : Program} {B : Base} {c : Code} {s : AState} {Kx : Exit → AState → Prop} (h : @SemL P B c s ⟨fun e s => @GhostK s ⟨Kx e⟩⟩) : @SemL P B c s ⟨Kx⟩ := by
  intro X a w hB hR
  refine wp_mono (h X a w hB hR) ?_
  rintro e a' w' ⟨X', s', h1, h2, t, hg, hk⟩
  obtain ⟨X2, h3, h4⟩ := hg X' a' w' h2
  exact ⟨X2, t, h3.trans h1, h4, hk⟩

/-- A frozen row may be read as a slice. -/
theorem Ghost.pure {s : AState} (i id n sz : Nat) {es : List (List AV)} (h1 : s.get i = .row id n) (h2 : s.blk id = .fro sz es) (h3 : n = es.length) : Ghost s (s.put (some i) (.sl none es)) := by
  intro X a w h
  refine ⟨X, rfl, ⟨h.nt, h.df, fun j => ?_, h.bl, h.ow, h.os, h.tape, h.output, h.size, h.old, h.bx⟩⟩
  show VRel X _ w (a.tmps.getD j undef) (getL .top ((i, .sl none es) :: s.fr) j)
  rw [getL_cons]
  split
  · rename_i e
    subst e
    have hv := h.fr j
    rw [h1] at hv
    obtain ⟨c', u, ⟨rfl, rfl⟩, hr⟩ := argC_sound (K := fun c' u => c' = .sl none es ∧ u = false) (Tb := fun _ => False) h (fun _ _ hf => hf) hv (by unfold argC; simp [h2, h3])
    refine .pure (hr.mono fun x hx => ⟨?_, hx.1⟩)
    cases e : X.own x with
    | none => rfl
    | some id => exact absurd (hx.2 id e).1 (by simp)
  · exact h.fr j

end Go.Proofs.Yteebkimhfaodnaa

/- A contract of a function that writes into rows that are lent to it, out of its body. -/
namespace Go.Proofs.Yteebkimhfaodnaa
open Go Go.RowKit

/-- The state at the beginning of such a function. -/
def startM (nt : Nat) (args ls : List AV) : AState := { nt := nt, fr := argsIn 0 args, hp := impLB 800 ls }

/-- What the rows hold at the end. -/
def lentEnd (s : AState) : Nat → List AV → (List AV → Prop) → Prop
  | _, [], K => K []
  | n, .osl nn sz es :: r, K => (match s.blk n with
    | .row true nn' sz' es' => (nn' = nn ∧ sz' = sz ∧ es'.length = es.length) ∧ lentEnd s (n + 1) r fun ls' => K (.osl nn' sz' es' :: ls')
    | _ => False)
  | _, _, _ => False

def flatRes : AV → Bool
  | .int _ _ => true
  | .bool _ => true
  | .tup [] => true
  | _ => false

def exitKM (T : Tab) (s : AState) (rs : List ResultVar) (ls : List AV) (Q : AV → List AV → Prop) : Prop :=
  resK T s rs fun vals => flatRes (packA vals) = true ∧ lentEnd s 800 ls fun ls' => Q (packA vals) ls'

end Go.Proofs.Yteebkimhfaodnaa

/- Regions that draw their order, in which two operations may come in either order: both ways are run. -/
namespace Go.Proofs.Yteebkimhfaodnaa
open Go Go.RowKit

/-- One operation more that operation b waits for. -/
def addDep (ops : Array Oper) (b a : Nat) : Array Oper := ops.modify b fun o => { o with after := o.after.push ⟨a, .data⟩ }

/-- An order in which the operations of a region may be done. -/
def ValE (ops : Array Oper) : Array Bool → List Nat → Prop
  | L, [] => Region.ready .any ops L = []
  | L, i :: r => i ∈ Region.ready .any ops L ∧ ValE ops (L.setIfInBounds i true) r

section
variable {P : Program} {T : Tab} {B : Base} {ops : Array Oper}

theorem go_val : ∀ (fuel t : Nat) (L : Array Bool), L.size = ops.size → cntF L.toList ≤ fuel → ValE ops L (Region.linearise.go .any ops fuel t L []) := by
  intro fuel
  induction fuel with
  | zero =>
    intro t L hL hc
    show Region.ready .any ops L = []
    cases e : Region.ready .any ops L with
    | nil => rfl
    | cons i r =>
      exfalso
      obtain ⟨h1, _⟩ := deps_ready (ops := ops) (L := L) (i := i) (by rw [e]; simp)
      exact cntF_zero _ i (by omega) (unlisted h1).2.2
  | succ fuel ih =>
    intro t L hL hc
    simp only [Region.linearise.go]
    change ValE ops L (match (Region.ready .any ops L)[t % (Region.ready .any ops L).length]? with
      | some i => Region.linearise.go .any ops fuel (t / (Region.ready .any ops L).length) (L.setIfInBounds i true) [i]
      | none => [].reverse)
    cases hi : (Region.ready .any ops L)[t % (Region.ready .any ops L).length]? with
    | none =>
      show Region.ready .any ops L = []
      cases hr : Region.ready .any ops L with
      | nil => rfl
      | cons x xs =>
        rw [hr] at hi
        have hlt : t % (x :: xs).length < (x :: xs).length := Nat.mod_lt _ (by simp)
        simp at hi
        simp at hlt
        omega
    | some i =>
      simp only []
      rw [linearise_go_acc, List.reverse_singleton, List.singleton_append]
      have hm := List.mem_of_getElem? hi
      obtain ⟨h1, _⟩ := deps_ready hm
      refine ⟨hm, ih _ _ (by simp [hL]) ?_⟩
      have := cnt_set (unlisted h1).2.2
      omega

theorem val_run {Q : Exit → Act → World → Prop} : ∀ (l : List Nat) (fuel : Nat) (L : Array Bool) (a : Act) (w : World), ValE ops L l → wpAny P .any ops Q fuel L a w → wpOps P ops Q l a w
  | [], fuel, L, a, w, hv, h => by
    have hv : Region.ready .any ops L = [] := hv
    cases fuel with
    | zero => simpa [wpOps] using h.2
    | succ n => simpa [wpOps] using h.1 hv
  | i :: r, fuel, L, a, w, hv, h => by
    obtain ⟨h1, h2⟩ := hv
    cases fuel with
    | zero => rw [h.1] at h1; cases h1
    | succ n =>
      rw [wpOps_cons]
      exact wpOp_mono (fun a w hk => val_run r n _ a w h2 hk) (h.2 i h1)

theorem addDep_get {b a i : Nat} : (addDep ops b a)[i]? = if i = b then (ops[i]?).map (fun o => { o with after := o.after.push ⟨a, .data⟩ }) else ops[i]? := by
  unfold addDep
  rw [Array.getElem?_modify]
  by_cases h : i = b
  · rw [if_pos h, if_pos h.symm]
  · rw [if_neg h, if_neg (fun e => h e.symm)]

theorem depsOf_push (o : Oper) (a : Nat) : depsOf { o with after := o.after.push ⟨a, .data⟩ } = depsOf o ++ [a] := by
  unfold depsOf
  simp [Region.binds]

/-- Other operations are ready as they were. -/
theorem ready_ne {b a i : Nat} {L : Array Bool} (h : i ≠ b) : i ∈ Region.ready .any (addDep ops b a) L ↔ i ∈ Region.ready .any ops L := by
  rw [ready_iff, ready_iff, addDep_get, if_neg h]

theorem ready_of {b a : Nat} {L : Array Bool} (ha : L.getD a false = true) (i : Nat) : i ∈ Region.ready .any (addDep ops b a) L ↔ i ∈ Region.ready .any ops L := by
  by_cases h : i = b
  · rw [ready_iff, ready_iff, addDep_get, if_pos h]
    refine and_congr Iff.rfl ⟨?_, ?_⟩
    · rintro ⟨o, e, hd⟩
      obtain ⟨o', e', rfl⟩ := Option.map_eq_some_iff.1 e
      exact ⟨o', e', fun j hj => hd j (by rw [depsOf_push]; exact List.mem_append_left _ hj)⟩
    · rintro ⟨o, e, hd⟩
      refine ⟨_, by rw [e]; rfl, fun j hj => ?_⟩
      rw [depsOf_push, List.mem_append] at hj
      rcases hj with hj | hj
      · exact hd j hj
      · rw [List.mem_singleton.1 hj]; exact ha
  · exact ready_ne h

theorem ready_sub {b a i : Nat} {L : Array Bool} (h : i ∈ Region.ready .any (addDep ops b a) L) : i ∈ Region.ready .any ops L := by
  by_cases e : i = b
  · rw [ready_iff, addDep_get, if_pos e] at h
    obtain ⟨h1, o, h2, hd⟩ := h
    obtain ⟨o', e', rfl⟩ := Option.map_eq_some_iff.1 h2
    rw [ready_iff]
    exact ⟨h1, o', e', fun j hj => hd j (by rw [depsOf_push]; exact List.mem_append_left _ hj)⟩
  · exact (ready_ne e).1 h

theorem nil_of_sub {l l' : List Nat} (h : ∀ i, i ∈ l → i ∈ l') (h' : l' = []) : l = [] := by
  cases l with
  | nil => rfl
  | cons x r => have := h x (by simp); rw [h'] at this; cases this

theorem val_listed {b a : Nat} : ∀ (l : List Nat) (L : Array Bool), L.getD a false = true → ValE ops L l → ValE (addDep ops b a) L l
  | [], L, ha, h => nil_of_sub (fun i hi => ready_sub hi) h
  | i :: r, L, ha, ⟨h1, h2⟩ => ⟨(ready_of ha i).2 h1, val_listed r _ (getD_set_true ha) h2⟩

theorem val_two {b a : Nat} (hab : a ≠ b) : ∀ (l : List Nat) (L : Array Bool), L.size = ops.size → ValE ops L l → ValE (addDep ops b a) L l ∨ ValE (addDep ops a b) L l
  | [], L, _, h => .inl (nil_of_sub (fun i hi => ready_sub hi) h)
  | i :: r, L, hL, ⟨h1, h2⟩ => by
    obtain ⟨q1, o, q2, _⟩ := ready_iff.1 h1
    have hlt : i < L.size := by rw [hL]; exact lt_of_get q2
    by_cases e : i = a
    · subst e
      exact .inl ⟨(ready_ne hab).2 h1, val_listed r _ (by rw [getD_set hlt, if_pos rfl]) h2⟩
    · by_cases e2 : i = b
      · subst e2
        exact .inr ⟨(ready_ne (Ne.symm hab)).2 h1, val_listed r _ (by rw [getD_set hlt, if_pos rfl]) h2⟩
      · rcases val_two hab r _ (by simp [hL]) h2 with h | h
        · exact .inl ⟨(ready_ne e2).2 h1, h⟩
        · exact .inr ⟨(ready_ne e).2 h1, h⟩

theorem wpOp_addDep {b a i : Nat} {Q : Exit → Act → World → Prop} {K : Act → World → Prop} {x : Act} {w : World} (h : wpOp P (addDep ops b a) Q i K x w) : wpOp P ops Q i K x w := by
  have hy : ∀ j : Nat, (((addDep ops b a)[j]?).bind fun o : Oper => o.dst) = ((ops[j]?).bind fun o : Oper => o.dst) := by
    intro j
    rw [addDep_get]
    split
    · cases ops[j]? <;> rfl
    · rfl
  have hyl : yielded (addDep ops b a) x.tmps = yielded ops x.tmps := by
    funext j
    unfold yielded
    have := hy j
    cases h1 : (addDep ops b a)[j]? with
    | none =>
      rw [h1] at this
      cases h2 : ops[j]? with
      | none => rfl
      | some o2 =>
        exfalso
        rw [addDep_get, h2] at h1
        split at h1 <;> cases h1
    | some o1 =>
      cases h2 : ops[j]? with
      | none =>
        exfalso
        rw [addDep_get, h2] at h1
        split at h1 <;> cases h1
      | some o2 =>
        rw [h1, h2] at this
        have : o1.dst = o2.dst := this
        simp only [Option.bind_some, this]
  unfold wpOp at h ⊢
  rw [hyl, addDep_get] at h
  by_cases e : i = b
  · rw [if_pos e] at h
    cases ho : ops[i]? with
    | none => rw [ho] at h; exact h
    | some o => rw [ho] at h; exact h
  · rw [if_neg e] at h; exact h

theorem wpOps_addDep {b a : Nat} {Q : Exit → Act → World → Prop} : ∀ (l : List Nat) (x : Act) (w : World), wpOps P (addDep ops b a) Q l x w → wpOps P ops Q l x w
  | [], x, w, h => by simpa [wpOps] using h
  | i :: r, x, w, h => by
    rw [wpOps_cons] at h ⊢
    exact wpOp_mono (fun x w hk => wpOps_addDep r x w hk) (wpOp_addDep h)

/-- A region in which the operations a and b may come in either order. -/
theorem semL_two (hT : TabOk P T) {Kx : Exit → AState → Prop} {s : AState} {id n : Nat} (a b : Nat) {ord1 ord2 : List (Nat × List Nat)} (hm : P.follows .mixedOrders = true) (hn : s.nt = n) (hab : a ≠ b)
    (hk1 : drawOkS (rkS (0, 0)) T (addDep ops b a) n ord1 = true) (hk2 : drawOkS (rkS (a, b)) T (addDep ops a b) n ord2 = true)
    (h1 : drawK P T (addDep ops b a).toList (Kx .normal) ord1 s) (h2 : drawK P T (addDep ops a b).toList (Kx .normal) ord2 s) : @SemL P B (.region id ops true) s ⟨Kx⟩ := by
  intro X x w hXB hR
  refine wp_region_draw fun t => ?_
  simp only [Region.schedule, hm, Bool.true_or, if_true]
  have hsz : ∀ b a, (addDep ops b a).size = ops.size := fun b a => by unfold addDep; simp
  have hv := go_val (ops := ops) ops.size t (Array.replicate ops.size false) (by simp) (by
    rw [Array.toList_replicate]
    generalize ops.size = m
    induction m with
    | zero => exact Nat.le_refl _
    | succ m ih => rw [List.replicate_succ]; simp only [cntF]; simp; omega)
  have e1 := draw_start (B := B) hT hn hk1 hXB hR h1
  have e2 := draw_start (B := B) hT hn hk2 hXB hR h2
  rw [hsz] at e1 e2
  rcases val_two hab _ _ (by simp) hv with hv | hv
  · exact wpOps_addDep _ _ _ (val_run _ _ _ _ _ hv e1)
  · exact wpOps_addDep _ _ _ (val_run _ _ _ _ _ hv e2)

end

end Go.Proofs.Yteebkimhfaodnaa

/- Nested slices of own rows: taken out under a name of their own, and put back. -/
namespace Go.Proofs.Yteebkimhfaodnaa
open Go Go.RowKit

theorem OwnV.sl_own {w : World} {v : Value} {q : Option Bool} {zs : List (List AV)} {F : Nat → Prop} (h : OwnV w v (.sl q zs) F) (sz : Nat) (hz : 0 < sz) (hl : ∀ e ∈ zs, e.length = sz) : OwnS w v false sz zs F := by
  cases h with
  | nil nn hn F hF => exact ⟨hz, hl, .inl ⟨rfl, rfl, rfl, hF⟩⟩
  | slice b cap sz' nn es c ty FF F hn hsz hz' hcap ht hb hc h hd hnb hF =>
    by_cases he : zs = []
    · subst he
      have hc0 : cap = 0 := ht rfl
      exact ⟨hz, hl, .inr ⟨b, cap, c, ty, fun _ _ _ => False, rfl, hb, by rw [hc, hc0, Nat.zero_mul, Nat.zero_mul], ⟨hcap, ht⟩, by simp, by simp, by simp, fun x => (hF x).trans ⟨fun e => e.elim .inl (fun ⟨i, j, h1, _⟩ => by simp at h1), fun e => e.elim .inl (fun ⟨i, j, h1, _⟩ => by simp at h1)⟩⟩⟩
    · have h0 : 0 < zs.length := List.length_pos_iff.2 he
      have e1 := hsz _ (List.getElem_mem h0)
      have e2 := hl _ (List.getElem_mem h0)
      have : sz' = sz := by omega
      subst this
      exact ⟨hz, hl, .inr ⟨b, cap, c, ty, FF, rfl, hb, hc, ⟨hcap, ht⟩, h, hd, hnb, hF⟩⟩

theorem OwnS.sl_back {w : World} {v : Value} {nn : Bool} {sz : Nat} {zs : List (List AV)} {F : Nat → Prop} (h : OwnS w v nn sz zs F) : OwnV w v (.sl none zs) F := by
  obtain ⟨hz, hl, h⟩ := h
  rcases h with ⟨rfl, rfl, _, h4⟩ | ⟨b, cap, c, ty, FF, rfl, h2, h3, h4, h5, h6, h7, h8⟩
  · exact .nil none (by simp) F h4
  · exact .slice b cap sz none zs c ty FF F (by simp) hl hz h4.1 h4.2 h2 h3 h5 h6 h7 h8

/-- A nested slice is taken out: it stands under a name of its own, and the row has a hole there. -/
theorem Ghost.open {s : AState} (id id2 k j sz2 : Nat) {nn : Bool} {sz : Nat} {es : List (List AV)} {q : Option Bool} {zs : List (List AV)} (hb : s.blk id = .row true nn sz es) (hk : k < es.length) (hj : j < sz)
    (hc : (es.getD k []).getD j .top = .sl q zs) (hz2 : 0 < sz2) (hl2 : ∀ e ∈ zs, e.length = sz2) (hn : s.blk id2 = .none) (h9 : nF id2) :
    Ghost s { s with hp := (id, .hole nn sz es k j (.row id2 zs.length)) :: (id2, .row true false sz2 zs) :: s.hp } := by
  classical
  intro X a w h
  have hne : id2 ≠ id := fun e => by rw [e, hb] at hn; cases hn
  have hB := h.bl id
  rw [hb] at hB
  obtain ⟨hz, hl, hB⟩ := hB
  rcases hB with ⟨_, _, h3, _⟩ | ⟨b, c, ty, h1, h2, h3, h4, ht, h6⟩
  · rw [h3] at hk; exact absurd hk (by simp)
  rcases h6 with ⟨_, FF, f1, f2, f3, f4⟩ | ⟨h7, _⟩
  case inr => cases h7
  have hO := f1 k j hk hj
  rw [hc] at hO
  have hS := hO.sl_own sz2 hz2 hl2
  have hFi : ∀ x, FF k j x → X.own x = some id := fun x hx => (f4 x).2 (.inr ⟨k, j, hk, hj, hx⟩)
  obtain ⟨v, hv⟩ : ∃ v, v = c.getD (k * sz + j) undef := ⟨_, rfl⟩
  rw [← hv] at hS hO
  -- where the nested slice lies
  obtain ⟨at2, cap2, hat2⟩ : ∃ (at2 : Option Nat) (cap2 : Nat), (v = .slice none 0 0 ∧ at2 = none) ∨ ∃ b2, v = .slice (some ⟨b2, 0, none⟩) zs.length cap2 ∧ at2 = some b2 := by
    obtain ⟨_, _, hS⟩ := hS
    rcases hS with ⟨e, _⟩ | ⟨b2, cap, c2, ty2, FF2, e, _⟩
    · exact ⟨none, 0, .inl ⟨e, rfl⟩⟩
    · exact ⟨some b2, cap, .inr ⟨b2, e, rfl⟩⟩
  let X' : Ctx := { X with at_ := upd X.at_ id2 at2, cap := upd X.cap id2 cap2, own := fun x => if FF k j x then some id2 else X.own x }
  have hX' : ∀ x, X'.own x = if FF k j x then some id2 else X.own x := fun _ => rfl
  let s' : AState := { s with hp := (id, .hole nn sz es k j (.row id2 zs.length)) :: (id2, .row true false sz2 zs) :: s.hp }
  have hs' : ∀ i, s'.blk i = if i = id then .hole nn sz es k j (.row id2 zs.length) else if i = id2 then .row true false sz2 zs else s.blk i := fun _ => rfl
  have hat_ : ∀ i, i ≠ id2 → X'.at_ i = X.at_ i ∧ X'.cap i = X.cap i := fun i hi => ⟨if_neg hi, if_neg hi⟩
  have hkds : s'.kds id2 = .row sz2 := by unfold AState.kds; rw [hs', if_neg hne, if_pos rfl]; rfl
  have hvr : VRel X' s'.kds w v (.row id2 zs.length) := by
    rcases hat2 with ⟨e, e2⟩ | ⟨b2, e, e2⟩
    · have hz0 : zs = [] := by
        obtain ⟨_, _, hS⟩ := hS
        rcases hS with ⟨_, e3, _⟩ | ⟨b2, cap, c2, ty2, FF2, e3, _⟩
        · exact e3
        · rw [e] at e3; cases e3
      rw [e, hz0]
      exact .rowN id2 sz2 hkds (by show upd X.at_ id2 at2 id2 = none; rw [upd_same, e2])
    · rw [e]
      have := VRel.row (X := X') (w := w) (kd := s'.kds) id2 zs.length sz2 b2 hkds (by show upd X.at_ id2 at2 id2 = some b2; rw [upd_same, e2])
      have hc2 : X'.cap id2 = cap2 := upd_same _ _ _
      rwa [hc2] at this
  refine ⟨X', rfl, h.step (T := fun i => i = id ∨ i = id2) (w' := w) ⟨rfl, rfl, rfl, rfl, Nat.le_refl _, ?_, ?_, ?_, ?_, ?_⟩ h.nt h.df ?_ ?_ ?_ ?_⟩
  · intro x _ hx
    refine ⟨rfl, ?_⟩
    rw [hX', if_neg (fun e => hx id (.inl rfl) (hFi x e))]
  · intro i hi
    exact hat_ i (fun e => hi (.inr e))
  · intro x i hi hx
    rw [hX'] at hx
    split at hx
    · cases hx; exact absurd (.inr rfl) hi
    · exact hx
  · intro x i hx
    rw [hX'] at hx
    split at hx
    · rename_i e; exact h.ow x id (hFi x e)
    · exact h.ow x i hx
  · intro i hi
    refine hat_ i (fun e => ?_)
    subst e
    unfold Fx at hi; unfold nF at h9; omega
  · intro i hi
    show s'.blk i = _
    rw [hs', if_neg (fun e => hi (.inl e)), if_neg (fun e => hi (.inr e))]
  · intro i hi
    rcases hi with rfl | rfl
    · refine .inr (.inr ⟨?_, ?_, (hat_ i hne.symm).1, (hat_ i hne.symm).2⟩)
      · unfold AState.kds; rw [hb]; exact fun e => by cases e
      · show (s'.blk i).kd = (s.blk i).kd
        rw [hs', if_pos rfl, hb]; rfl
    · exact .inl (by unfold AState.kds; rw [hn]; rfl)
  · intro hV i
    exact hV _ _ (h.fr i)
  · intro hV i hi
    show BRel X' s'.kds w i (s'.blk i)
    rw [hs']
    by_cases e : i = id
    · subst e
      rw [if_pos rfl]
      obtain ⟨GG, hGG⟩ : ∃ GG : Nat → Nat → Nat → Prop, ∀ i' l' x, GG i' l' x ↔ ¬ (i' = k ∧ l' = j) ∧ FF i' l' x := ⟨fun i' l' x => ¬ (i' = k ∧ l' = j) ∧ FF i' l' x, fun _ _ _ => Iff.rfl⟩
      refine ⟨hz, hl, hk, hj, b, c, ty, (hat_ i hne.symm).1.trans h1, h2, by rw [(hat_ i hne.symm).2]; exact h3, by rw [(hat_ i hne.symm).2]; exact h4, by rw [← hv]; exact hvr, GG, ?_, fun x hx => ((hGG _ _ _).1 hx).1 ⟨rfl, rfl⟩, ?_, ?_, ?_⟩
      · intro i' l' h5 h6 hne'
        exact (f1 i' l' h5 h6).congr fun x => (hGG _ _ _).trans ⟨fun e => e.2, fun e => ⟨hne', e⟩⟩
      · intro i1 l1 i2 l2 x g1 g2 g3 g4 g5 g6
        exact f2 i1 l1 i2 l2 x g1 g2 g3 g4 ((hGG _ _ _).1 g5).2 ((hGG _ _ _).1 g6).2
      · intro i1 l1 g1 g2 g3
        exact f3 i1 l1 g1 g2 ((hGG _ _ _).1 g3).2
      · intro x
        rw [hX']
        constructor
        · intro hx
          split at hx
          · exact absurd (Option.some.inj hx) hne
          · rename_i hn2
            rcases (f4 x).1 hx with e | ⟨i1, l1, g1, g2, g3⟩
            · exact .inl e
            · refine .inr ⟨i1, l1, g1, g2, (hGG _ _ _).2 ⟨fun e => ?_, g3⟩⟩
              obtain ⟨rfl, rfl⟩ := e
              exact hn2 g3
        · intro hx
          have hnF : ¬ FF k j x := by
            intro hF
            rcases hx with e | ⟨i1, l1, g1, g2, g3⟩
            · subst e; exact f3 k j hk hj hF
            · obtain ⟨g4, g5⟩ := (hGG _ _ _).1 g3
              exact g4 (f2 i1 l1 k j x g1 g2 hk hj g5 hF)
          rw [if_neg hnF]
          refine (f4 x).2 ?_
          rcases hx with e | ⟨i1, l1, g1, g2, g3⟩
          · exact .inl e
          · exact .inr ⟨i1, l1, g1, g2, ((hGG _ _ _).1 g3).2⟩
    · rw [if_neg e]
      have e2 : i = id2 := by rcases hi with e' | e'; exact absurd e' e; exact e'
      subst e2
      rw [if_pos rfl]
      have hown2 : ∀ x, X'.own x = some i ↔ FF k j x := by
        intro x
        rw [hX']
        constructor
        · intro hx
          split at hx
          · assumption
          · have := h.bl i
            rw [hn] at this
            exact absurd hx (this x)
        · intro hx; rw [if_pos hx]
      obtain ⟨_, hl', hS⟩ := hS
      refine ⟨hz2, hl2, ?_⟩
      rcases hS with ⟨e1, e3, _, e4⟩ | ⟨b2, cap, c2, ty2, FF2, e1, e3, e4, e5, g1, g2, g3, g4⟩
      · refine .inl ⟨?_, rfl, e3, fun x hx => e4 x ((hown2 x).1 hx)⟩
        show upd X.at_ i at2 i = none
        rw [upd_same]
        rcases hat2 with ⟨_, e2⟩ | ⟨b2, e5, _⟩
        · exact e2
        · rw [e1] at e5; cases e5
      · have hh : at2 = some b2 ∧ cap2 = cap := by
          rcases hat2 with ⟨e6, _⟩ | ⟨b3, e6, e7⟩
          · rw [e1] at e6; cases e6
          · rw [e1] at e6
            obtain ⟨e8, e9, e10⟩ := Value.slice.inj e6
            cases e8
            exact ⟨e7, e10.symm⟩
        have hc2 : X'.cap i = cap := (upd_same _ _ _).trans hh.2
        refine .inr ⟨b2, c2, ty2, (upd_same _ _ _).trans hh.1, e3, by rw [hc2]; exact e4, by rw [hc2]; exact e5.1, fun q => by rw [hc2]; exact e5.2 q, .inl ⟨rfl, FF2, g1, g2, g3, fun x => (hown2 x).trans (g4 x)⟩⟩

/-- The own row that a name stands for, as an owned slice. -/
theorem R.ownS {X : Ctx} {s : AState} {a : Act} {w : World} (h : R X s a w) {id n sz : Nat} {nn : Bool} {es : List (List AV)} {v : Value} (hb : s.blk id = .row true nn sz es) (hn : n = es.length) (hv : VRel X s.kds w v (.row id n)) : OwnS w v nn sz es (fun x => X.own x = some id) := by
  have hkd : s.kds id = .row sz := by unfold AState.kds; rw [hb]; rfl
  have hB := h.bl id
  rw [hb] at hB
  obtain ⟨hz, hl, hB⟩ := hB
  refine ⟨hz, hl, ?_⟩
  rcases hB with ⟨h1, h2, h3, h4⟩ | ⟨b, c, ty, h1, h2, h3, h4, ht, h6⟩
  · rcases hv.row_inv hkd with ⟨b, _, hi⟩ | ⟨e, _, _⟩
    · rw [h1] at hi; cases hi
    · exact .inl ⟨e, h3, h2, fun x hx => h4 x hx⟩
  · rcases hv.row_inv hkd with ⟨b', e, hi⟩ | ⟨_, _, hi⟩
    · rw [h1] at hi; cases hi
      rcases h6 with ⟨_, FF, h7, h8, h9, h10⟩ | ⟨h7, _⟩
      · exact .inr ⟨b, X.cap id, c, ty, FF, by rw [e, hn], h2, h3, ⟨h4, ht⟩, h7, h8, h9, h10⟩
      · cases h7
    · rw [h1] at hi; cases hi

/-- A slice is put back into the hole. -/
theorem Ghost.close {s : AState} (id id2 k j : Nat) (es' : List (List AV)) {nn nn2 : Bool} {sz sz2 n : Nat} {es zs : List (List AV)} (hb : s.blk id = .hole nn sz es k j (.row id2 n)) (hb2 : s.blk id2 = .row true nn2 sz2 zs) (hn : n = zs.length)
    (hl' : es'.length = es.length) (hlen' : ∀ e ∈ es', e.length = sz) (hsame : ∀ i l, i < es.length → l < sz → ¬ (i = k ∧ l = j) → (es'.getD i []).getD l .top = (es.getD i []).getD l .top) (hcell : (es'.getD k []).getD j .top = .sl none zs) :
    Ghost s { s with hp := (id, .row true nn sz es') :: (id2, .dead) :: s.hp } := by
  classical
  intro X a w h
  have hne : id2 ≠ id := fun e => by rw [e, hb] at hb2; cases hb2
  have hB := h.bl id
  rw [hb] at hB
  obtain ⟨hz, hl, hk, hj, b, c, ty, h1, h2, h3, h4, h5, FF, f1, f2, f3, f4, f5⟩ := hB
  have hO := (h.ownS hb2 hn h5).sl_back
  let X' : Ctx := { X with own := fun x => if X.own x = some id2 then some id else X.own x }
  have hX' : ∀ x, X'.own x = if X.own x = some id2 then some id else X.own x := fun _ => rfl
  let s' : AState := { s with hp := (id, .row true nn sz es') :: (id2, .dead) :: s.hp }
  have hs' : ∀ i, s'.blk i = if i = id then .row true nn sz es' else if i = id2 then .dead else s.blk i := fun _ => rfl
  refine ⟨X', rfl, h.step (T := fun i => i = id ∨ i = id2) (w' := w) ⟨rfl, rfl, rfl, rfl, Nat.le_refl _, ?_, fun _ _ => ⟨rfl, rfl⟩, ?_, ?_, fun _ _ => ⟨rfl, rfl⟩⟩ h.nt h.df ?_ ?_ ?_ ?_⟩
  · intro x _ hx
    refine ⟨rfl, ?_⟩
    rw [hX', if_neg (fun e => hx id2 (.inr rfl) e)]
  · intro x i hi hx
    rw [hX'] at hx
    split at hx
    · cases hx; exact absurd (.inl rfl) hi
    · exact hx
  · intro x i hx
    rw [hX'] at hx
    split at hx
    · rename_i e; exact h.ow x id2 e
    · exact h.ow x i hx
  · intro i hi
    show s'.blk i = _
    rw [hs', if_neg (fun e => hi (.inl e)), if_neg (fun e => hi (.inr e))]
  · intro i hi
    rcases hi with rfl | rfl
    · refine .inr (.inr ⟨?_, ?_, rfl, rfl⟩)
      · unfold AState.kds; rw [hb]; exact fun e => by cases e
      · show (s'.blk i).kd = (s.blk i).kd
        rw [hs', if_pos rfl, hb]; rfl
    · refine .inr (.inl ?_)
      show (s'.blk i).kd = _
      rw [hs', if_neg hne, if_pos rfl]; rfl
  · intro hV i
    exact hV _ _ (h.fr i)
  · intro hV i hi
    show BRel X' s'.kds w i (s'.blk i)
    rw [hs']
    by_cases e : i = id
    · subst e
      rw [if_pos rfl]
      obtain ⟨GG, hGG⟩ : ∃ GG : Nat → Nat → Nat → Prop, ∀ i' l' x, GG i' l' x ↔ (if i' = k ∧ l' = j then X.own x = some id2 else FF i' l' x) := ⟨fun i' l' x => if i' = k ∧ l' = j then X.own x = some id2 else FF i' l' x, fun _ _ _ => Iff.rfl⟩
      have hF5 : ∀ i1 l1 x, i1 < es.length → l1 < sz → FF i1 l1 x → X.own x = some i := fun i1 l1 x g1 g2 g3 => (f5 x).2 (.inr ⟨i1, l1, g1, g2, g3⟩)
      have hbo : X.own b = some i := (f5 b).2 (.inl rfl)
      refine ⟨hz, hlen', .inr ⟨b, c, ty, h1, h2, h3, by rw [hl']; exact h4, fun q => ?_, .inl ⟨rfl, GG, ?_, ?_, ?_, ?_⟩⟩⟩
      · have := congrArg List.length q
        rw [hl', List.length_nil] at this
        omega
      · intro i1 l1 g1 g2
        rw [hl'] at g1
        by_cases g3 : i1 = k ∧ l1 = j
        · obtain ⟨rfl, rfl⟩ := g3
          rw [hcell]
          exact hO.congr fun x => (hGG _ _ _).trans (by rw [if_pos ⟨rfl, rfl⟩])
        · rw [hsame i1 l1 g1 g2 g3]
          exact (f1 i1 l1 g1 g2 g3).congr fun x => (hGG _ _ _).trans (by rw [if_neg g3])
      · intro i1 l1 i2 l2 x g1 g2 g3 g4 g5 g6
        rw [hl'] at g1 g3
        rw [hGG] at g5 g6
        by_cases c1 : i1 = k ∧ l1 = j
        · rw [if_pos c1] at g5
          by_cases c2 : i2 = k ∧ l2 = j
          · exact ⟨c1.1.trans c2.1.symm, c1.2.trans c2.2.symm⟩
          · rw [if_neg c2] at g6
            have := hF5 i2 l2 x g3 g4 g6
            rw [g5] at this; exact absurd (Option.some.inj this) hne
        · rw [if_neg c1] at g5
          by_cases c2 : i2 = k ∧ l2 = j
          · rw [if_pos c2] at g6
            have := hF5 i1 l1 x g1 g2 g5
            rw [g6] at this; exact absurd (Option.some.inj this) hne
          · rw [if_neg c2] at g6
            exact f3 i1 l1 i2 l2 x g1 g2 g3 g4 g5 g6
      · intro i1 l1 g1 g2 g3
        rw [hl'] at g1
        rw [hGG] at g3
        split at g3
        · rw [hbo] at g3; exact absurd (Option.some.inj g3).symm hne
        · exact f4 i1 l1 g1 g2 g3
      · intro x
        rw [hX', hl']
        constructor
        · intro hx
          split at hx
          · rename_i e2
            exact .inr ⟨k, j, hk, hj, (hGG _ _ _).2 (by rw [if_pos ⟨rfl, rfl⟩]; exact e2)⟩
          · rcases (f5 x).1 hx with e2 | ⟨i1, l1, g1, g2, g3⟩
            · exact .inl e2
            · refine .inr ⟨i1, l1, g1, g2, (hGG _ _ _).2 ?_⟩
              rw [if_neg]
              · exact g3
              · rintro ⟨rfl, rfl⟩; exact f2 x g3
        · rintro (e2 | ⟨i1, l1, g1, g2, g3⟩)
          · rw [e2, if_neg (fun e3 => hne (Option.some.inj (e3.symm.trans hbo)))]; exact hbo
          · rw [hGG] at g3
            split at g3
            · rw [if_pos g3]
            · have := hF5 i1 l1 x g1 g2 g3
              rw [this, if_neg (fun e3 => hne (Option.some.inj e3).symm)]
    · rw [if_neg e]
      have e2 : i = id2 := by rcases hi with e' | e'; exact absurd e' e; exact e'
      subst e2
      rw [if_pos rfl]
      intro x hx
      rw [hX'] at hx
      split at hx
      · exact hne (Option.some.inj hx).symm
      · rename_i hn2; exact hn2 hx

end Go.Proofs.Yteebkimhfaodnaa

/- The table of the types of this program, printed by wip/gen/tabgen.py out of the seat's translation; that it is right is one closed computation. -/
namespace Go.Proofs.Yteebkimhfaodnaa
open Go Go.RowKit

def ti2 : TI := ⟨.int .i64, 1, 8, true, false, [.int .i64 0]⟩
def ti3 : TI := ⟨.int .i64, 1, 8, true, false, [.int .i64 0]⟩
def ti4 : TI := ⟨.bool, 1, 1, true, false, [.bool false]⟩
def ti5 : TI := ⟨.int .u8, 1, 1, true, false, [.int .u8 0]⟩
def ti12 : TI := ⟨.int .u64, 1, 8, true, false, [.int .u64 0]⟩
def ti18 : TI := ⟨.struct [(0, 17)], 1, 8, false, false, [.top]⟩
def ti21 : TI := ⟨.int .i32, 1, 4, true, false, [.int .i32 0]⟩
def ti22 : TI := ⟨.slice 5, 1, 24, false, false, [.sl (some false) []]⟩
def ti23 : TI := ⟨.slice 61, 1, 24, false, false, [.sl (some false) []]⟩
def ti24 : TI := ⟨.slice 56, 1, 24, false, false, [.sl (some false) []]⟩
def ti27 : TI := ⟨.slice 67, 1, 24, false, false, [.sl (some false) []]⟩
def ti28 : TI := ⟨.slice 47, 1, 24, false, false, [.sl (some false) []]⟩
def ti29 : TI := ⟨.struct [(0, 23), (1, 24), (2, 27), (3, 28)], 4, 96, false, false, [.sl (some false) [], .sl (some false) [], .sl (some false) [], .sl (some false) []]⟩
def ti30 : TI := ⟨.struct [(0, 23), (1, 24), (2, 27), (3, 28)], 4, 96, false, false, [.sl (some false) [], .sl (some false) [], .sl (some false) [], .sl (some false) []]⟩
def ti32 : TI := ⟨.other, 1, 8, false, false, [.top]⟩
def ti35 : TI := ⟨.other, 1, 8, false, false, [.top]⟩
def ti36 : TI := ⟨.other, 1, 8, false, false, [.top]⟩
def ti37 : TI := ⟨.other, 1, 8, false, false, [.top]⟩
def ti39 : TI := ⟨.slice 3, 1, 24, false, false, [.sl (some false) []]⟩
def ti44 : TI := ⟨.struct [(0, 4), (1, 23), (2, 23)], 3, 56, false, false, [.bool false, .sl (some false) [], .sl (some false) []]⟩
def ti45 : TI := ⟨.struct [(0, 4), (1, 23), (2, 23)], 3, 56, false, false, [.bool false, .sl (some false) [], .sl (some false) []]⟩
def ti46 : TI := ⟨.struct [(0, 3), (1, 3), (2, 39), (3, 45)], 6, 96, false, false, [.int .i64 0, .int .i64 0, .sl (some false) [], .bool false, .sl (some false) [], .sl (some false) []]⟩
def ti47 : TI := ⟨.struct [(0, 3), (1, 3), (2, 39), (3, 45)], 6, 96, false, false, [.int .i64 0, .int .i64 0, .sl (some false) [], .bool false, .sl (some false) [], .sl (some false) []]⟩
def ti55 : TI := ⟨.struct [(0, 3), (1, 3), (2, 3), (3, 3)], 4, 32, true, true, [.int .i64 0, .int .i64 0, .int .i64 0, .int .i64 0]⟩
def ti56 : TI := ⟨.struct [(0, 3), (1, 3), (2, 3), (3, 3)], 4, 32, true, true, [.int .i64 0, .int .i64 0, .int .i64 0, .int .i64 0]⟩
def ti58 : TI := ⟨.other, 1, 8, false, false, [.top]⟩
def ti59 : TI := ⟨.other, 1, 8, false, false, [.top]⟩
def ti60 : TI := ⟨.struct [(0, 3), (1, 3)], 2, 16, true, true, [.int .i64 0, .int .i64 0]⟩
def ti61 : TI := ⟨.struct [(0, 3), (1, 3)], 2, 16, true, true, [.int .i64 0, .int .i64 0]⟩
def ti62 : TI := ⟨.other, 1, 8, false, false, [.top]⟩
def ti64 : TI := ⟨.other, 1, 8, false, false, [.top]⟩
def ti66 : TI := ⟨.struct [(0, 3), (1, 3), (2, 3)], 3, 24, true, true, [.int .i64 0, .int .i64 0, .int .i64 0]⟩
def ti67 : TI := ⟨.struct [(0, 3), (1, 3), (2, 3)], 3, 24, true, true, [.int .i64 0, .int .i64 0, .int .i64 0]⟩
def ti68 : TI := ⟨.other, 1, 8, false, false, [.top]⟩
def ti81 : TI := ⟨.other, 1, 8, false, false, [.top]⟩
def ti82 : TI := ⟨.other, 1, 8, false, false, [.top]⟩
def ti84 : TI := ⟨.arr 32 3, 32, 256, true, false, List.replicate 32 (.int .i64 0)⟩
def ti85 : TI := ⟨.arr 32 3, 32, 256, true, false, List.replicate 32 (.int .i64 0)⟩
def ti89 : TI := ⟨.other, 1, 8, false, false, [.top]⟩
def ti93 : TI := ⟨.other, 1, 8, false, false, [.top]⟩
def ti96 : TI := ⟨.other, 1, 8, false, false, [.top]⟩
def ti97 : TI := ⟨.struct [(0, 22), (1, 3)], 2, 32, false, false, [.sl (some false) [], .int .i64 0]⟩
def ti98 : TI := ⟨.struct [(0, 22), (1, 3)], 2, 32, false, false, [.sl (some false) [], .int .i64 0]⟩
def ti99 : TI := ⟨.other, 1, 8, false, false, [.top]⟩
def ti109 : TI := ⟨.map 3 3, 1, 8, false, false, [.top]⟩
def ti114 : TI := ⟨.int .u64, 1, 8, true, false, [.int .u64 0]⟩
def ti125 : TI := ⟨.int .i64, 1, 8, true, false, [.int .i64 0]⟩
def ti133 : TI := ⟨.int .u32, 1, 4, true, false, [.int .u32 0]⟩
def ti135 : TI := ⟨.int .u64, 1, 8, true, false, [.int .u64 0]⟩
def ti137 : TI := ⟨.int .u64, 1, 8, true, false, [.int .u64 0]⟩
def ti148 : TI := ⟨.arr 0 16, 0, 0, false, false, []⟩
def ti149 : TI := ⟨.struct [(0, 148)], 0, 0, false, false, []⟩

def tabL : List (Nat × TI) := [(2, ti2), (3, ti3), (4, ti4), (5, ti5), (12, ti12), (18, ti18), (21, ti21), (22, ti22), (23, ti23), (24, ti24), (27, ti27), (28, ti28), (29, ti29), (30, ti30), (32, ti32), (35, ti35), (36, ti36), (37, ti37), (39, ti39), (44, ti44), (45, ti45), (46, ti46), (47, ti47), (55, ti55), (56, ti56), (58, ti58), (59, ti59), (60, ti60), (61, ti61), (62, ti62), (64, ti64), (66, ti66), (67, ti67), (68, ti68), (81, ti81), (82, ti82), (84, ti84), (85, ti85), (89, ti89), (93, ti93), (96, ti96), (97, ti97), (98, ti98), (99, ti99), (109, ti109), (114, ti114), (125, ti125), (133, ti133), (135, ti135), (137, ti137), (148, ti148), (149, ti149)]

def tabF : List (Nat × TI) → Nat → Option TI
  | [], _ => none
  | (k, i) :: r, t => if t = k then some i else tabF r t

def tab : Tab := tabF tabL

theorem tabF_ok {P : Program} : ∀ (l : List (Nat × TI)), (l.all fun p => tiOk P p.1 p.2) = true → ∀ t i, tabF l t = some i → tiOk P t i = true
  | [], _, t, i, h => by cases h
  | (k, j) :: r, hl, t, i, h => by
    rw [List.all_cons, Bool.and_eq_true] at hl
    have h' : (if t = k then some j else tabF r t) = some i := h
    split at h'
    · rename_i e; cases h'; rw [e]; exact hl.1
    · exact tabF_ok r hl.2 t i h'

theorem tab_ok : TabOk Try.prog tab := ⟨tabF_ok tabL (by kernel_rfl)⟩

set_option maxRecDepth 20000
theorem tyShape_2 : tyShape tab 2 = some (false, 1, true) := rfl
theorem intKd_2 : intKd tab 2 = some .i64 := rfl
theorem tabAt_2 : tab 2 = some ti2 := rfl
theorem tyShape_3 : tyShape tab 3 = some (false, 1, true) := rfl
theorem intKd_3 : intKd tab 3 = some .i64 := rfl
theorem tabAt_3 : tab 3 = some ti3 := rfl
theorem tyShape_4 : tyShape tab 4 = some (false, 1, true) := rfl
theorem isBool_4 : isBool tab 4 = true := rfl
theorem tabAt_4 : tab 4 = some ti4 := rfl
theorem tyShape_5 : tyShape tab 5 = some (false, 1, true) := rfl
theorem intKd_5 : intKd tab 5 = some .u8 := rfl
theorem tabAt_5 : tab 5 = some ti5 := rfl
theorem tyShape_12 : tyShape tab 12 = some (false, 1, true) := rfl
theorem intKd_12 : intKd tab 12 = some .u64 := rfl
theorem tabAt_12 : tab 12 = some ti12 := rfl
theorem tyShape_18 : tyShape tab 18 = some (true, 1, false) := rfl
theorem tabAt_18 : tab 18 = some ti18 := rfl
theorem tyShape_21 : tyShape tab 21 = some (false, 1, true) := rfl
theorem intKd_21 : intKd tab 21 = some .i32 := rfl
theorem tabAt_21 : tab 21 = some ti21 := rfl
theorem tyShape_22 : tyShape tab 22 = some (false, 1, false) := rfl
theorem isSlice_22 : isSlice tab 22 = true := rfl
theorem elemInfo_22 : elemInfo tab 22 = some ti5 := rfl
theorem elemSize_22 : elemSize tab 22 = some 1 := rfl
theorem arrElem_22 : arrElem tab 22 = none := rfl
theorem tabAt_22 : tab 22 = some ti22 := rfl
theorem tyShape_23 : tyShape tab 23 = some (false, 1, false) := rfl
theorem isSlice_23 : isSlice tab 23 = true := rfl
theorem elemInfo_23 : elemInfo tab 23 = some ti61 := rfl
theorem elemSize_23 : elemSize tab 23 = some 2 := rfl
theorem arrElem_23 : arrElem tab 23 = none := rfl
theorem tabAt_23 : tab 23 = some ti23 := rfl
theorem tyShape_24 : tyShape tab 24 = some (false, 1, false) := rfl
theorem isSlice_24 : isSlice tab 24 = true := rfl
theorem elemInfo_24 : elemInfo tab 24 = some ti56 := rfl
theorem elemSize_24 : elemSize tab 24 = some 4 := rfl
theorem arrElem_24 : arrElem tab 24 = none := rfl
theorem tabAt_24 : tab 24 = some ti24 := rfl
theorem tyShape_27 : tyShape tab 27 = some (false, 1, false) := rfl
theorem isSlice_27 : isSlice tab 27 = true := rfl
theorem elemInfo_27 : elemInfo tab 27 = some ti67 := rfl
theorem elemSize_27 : elemSize tab 27 = some 3 := rfl
theorem arrElem_27 : arrElem tab 27 = none := rfl
theorem tabAt_27 : tab 27 = some ti27 := rfl
theorem tyShape_28 : tyShape tab 28 = some (false, 1, false) := rfl
theorem isSlice_28 : isSlice tab 28 = true := rfl
theorem elemInfo_28 : elemInfo tab 28 = some ti47 := rfl
theorem elemSize_28 : elemSize tab 28 = some 6 := rfl
theorem arrElem_28 : arrElem tab 28 = none := rfl
theorem tabAt_28 : tab 28 = some ti28 := rfl
theorem tyShape_29 : tyShape tab 29 = some (true, 4, false) := rfl
theorem tabAt_29 : tab 29 = some ti29 := rfl
theorem fieldOff_29_0 : fieldOff tab 29 0 = some (0, 1) := rfl
theorem fieldOff_29_1 : fieldOff tab 29 1 = some (1, 1) := rfl
theorem fieldOff_29_2 : fieldOff tab 29 2 = some (2, 1) := rfl
theorem fieldOff_29_3 : fieldOff tab 29 3 = some (3, 1) := rfl
theorem tyShape_30 : tyShape tab 30 = some (true, 4, false) := rfl
theorem tabAt_30 : tab 30 = some ti30 := rfl
theorem fieldOff_30_0 : fieldOff tab 30 0 = some (0, 1) := rfl
theorem fieldOff_30_1 : fieldOff tab 30 1 = some (1, 1) := rfl
theorem fieldOff_30_2 : fieldOff tab 30 2 = some (2, 1) := rfl
theorem fieldOff_30_3 : fieldOff tab 30 3 = some (3, 1) := rfl
theorem tyShape_32 : tyShape tab 32 = some (false, 1, false) := rfl
theorem tyShape_35 : tyShape tab 35 = some (false, 1, false) := rfl
theorem tyShape_36 : tyShape tab 36 = some (false, 1, false) := rfl
theorem tyShape_37 : tyShape tab 37 = some (false, 1, false) := rfl
theorem tyShape_39 : tyShape tab 39 = some (false, 1, false) := rfl
theorem isSlice_39 : isSlice tab 39 = true := rfl
theorem elemInfo_39 : elemInfo tab 39 = some ti3 := rfl
theorem elemSize_39 : elemSize tab 39 = some 1 := rfl
theorem arrElem_39 : arrElem tab 39 = none := rfl
theorem tabAt_39 : tab 39 = some ti39 := rfl
theorem tyShape_44 : tyShape tab 44 = some (true, 3, false) := rfl
theorem tabAt_44 : tab 44 = some ti44 := rfl
theorem fieldOff_44_0 : fieldOff tab 44 0 = some (0, 1) := rfl
theorem fieldOff_44_1 : fieldOff tab 44 1 = some (1, 1) := rfl
theorem fieldOff_44_2 : fieldOff tab 44 2 = some (2, 1) := rfl
theorem tyShape_45 : tyShape tab 45 = some (true, 3, false) := rfl
theorem tabAt_45 : tab 45 = some ti45 := rfl
theorem fieldOff_45_0 : fieldOff tab 45 0 = some (0, 1) := rfl
theorem fieldOff_45_1 : fieldOff tab 45 1 = some (1, 1) := rfl
theorem fieldOff_45_2 : fieldOff tab 45 2 = some (2, 1) := rfl
theorem tyShape_46 : tyShape tab 46 = some (true, 6, false) := rfl
theorem tabAt_46 : tab 46 = some ti46 := rfl
theorem fieldOff_46_0 : fieldOff tab 46 0 = some (0, 1) := rfl
theorem fieldOff_46_1 : fieldOff tab 46 1 = some (1, 1) := rfl
theorem fieldOff_46_2 : fieldOff tab 46 2 = some (2, 1) := rfl
theorem fieldOff_46_3 : fieldOff tab 46 3 = some (3, 3) := rfl
theorem tyShape_47 : tyShape tab 47 = some (true, 6, false) := rfl
theorem tabAt_47 : tab 47 = some ti47 := rfl
theorem fieldOff_47_0 : fieldOff tab 47 0 = some (0, 1) := rfl
theorem fieldOff_47_1 : fieldOff tab 47 1 = some (1, 1) := rfl
theorem fieldOff_47_2 : fieldOff tab 47 2 = some (2, 1) := rfl
theorem fieldOff_47_3 : fieldOff tab 47 3 = some (3, 3) := rfl
theorem tyShape_55 : tyShape tab 55 = some (true, 4, true) := rfl
theorem eqsSize_55 : eqsSize tab 55 = some 4 := rfl
theorem tabAt_55 : tab 55 = some ti55 := rfl
theorem fieldOff_55_0 : fieldOff tab 55 0 = some (0, 1) := rfl
theorem fieldOff_55_1 : fieldOff tab 55 1 = some (1, 1) := rfl
theorem fieldOff_55_2 : fieldOff tab 55 2 = some (2, 1) := rfl
theorem fieldOff_55_3 : fieldOff tab 55 3 = some (3, 1) := rfl
theorem tyShape_56 : tyShape tab 56 = some (true, 4, true) := rfl
theorem eqsSize_56 : eqsSize tab 56 = some 4 := rfl
theorem tabAt_56 : tab 56 = some ti56 := rfl
theorem fieldOff_56_0 : fieldOff tab 56 0 = some (0, 1) := rfl
theorem fieldOff_56_1 : fieldOff tab 56 1 = some (1, 1) := rfl
theorem fieldOff_56_2 : fieldOff tab 56 2 = some (2, 1) := rfl
theorem fieldOff_56_3 : fieldOff tab 56 3 = some (3, 1) := rfl
theorem tyShape_58 : tyShape tab 58 = some (false, 1, false) := rfl
theorem tyShape_59 : tyShape tab 59 = some (false, 1, false) := rfl
theorem tyShape_60 : tyShape tab 60 = some (true, 2, true) := rfl
theorem eqsSize_60 : eqsSize tab 60 = some 2 := rfl
theorem tabAt_60 : tab 60 = some ti60 := rfl
theorem fieldOff_60_0 : fieldOff tab 60 0 = some (0, 1) := rfl
theorem fieldOff_60_1 : fieldOff tab 60 1 = some (1, 1) := rfl
theorem tyShape_61 : tyShape tab 61 = some (true, 2, true) := rfl
theorem eqsSize_61 : eqsSize tab 61 = some 2 := rfl
theorem tabAt_61 : tab 61 = some ti61 := rfl
theorem fieldOff_61_0 : fieldOff tab 61 0 = some (0, 1) := rfl
theorem fieldOff_61_1 : fieldOff tab 61 1 = some (1, 1) := rfl
theorem tyShape_62 : tyShape tab 62 = some (false, 1, false) := rfl
theorem tyShape_64 : tyShape tab 64 = some (false, 1, false) := rfl
theorem tyShape_66 : tyShape tab 66 = some (true, 3, true) := rfl
theorem eqsSize_66 : eqsSize tab 66 = some 3 := rfl
theorem tabAt_66 : tab 66 = some ti66 := rfl
theorem fieldOff_66_0 : fieldOff tab 66 0 = some (0, 1) := rfl
theorem fieldOff_66_1 : fieldOff tab 66 1 = some (1, 1) := rfl
theorem fieldOff_66_2 : fieldOff tab 66 2 = some (2, 1) := rfl
theorem tyShape_67 : tyShape tab 67 = some (true, 3, true) := rfl
theorem eqsSize_67 : eqsSize tab 67 = some 3 := rfl
theorem tabAt_67 : tab 67 = some ti67 := rfl
theorem fieldOff_67_0 : fieldOff tab 67 0 = some (0, 1) := rfl
theorem fieldOff_67_1 : fieldOff tab 67 1 = some (1, 1) := rfl
theorem fieldOff_67_2 : fieldOff tab 67 2 = some (2, 1) := rfl
theorem tyShape_68 : tyShape tab 68 = some (false, 1, false) := rfl
theorem tyShape_81 : tyShape tab 81 = some (false, 1, false) := rfl
theorem tyShape_82 : tyShape tab 82 = some (false, 1, false) := rfl
theorem tyShape_84 : tyShape tab 84 = some (true, 32, true) := rfl
theorem arrElem_84 : arrElem tab 84 = some (32, 1) := rfl
theorem arrShape_84 : arrShape tab 84 = some (32, false, 1) := rfl
theorem tabAt_84 : tab 84 = some ti84 := rfl
theorem tyShape_85 : tyShape tab 85 = some (true, 32, true) := rfl
theorem arrElem_85 : arrElem tab 85 = some (32, 1) := rfl
theorem arrShape_85 : arrShape tab 85 = some (32, false, 1) := rfl
theorem tabAt_85 : tab 85 = some ti85 := rfl
theorem tyShape_89 : tyShape tab 89 = some (false, 1, false) := rfl
theorem tyShape_93 : tyShape tab 93 = some (false, 1, false) := rfl
theorem tyShape_96 : tyShape tab 96 = some (false, 1, false) := rfl
theorem tyShape_97 : tyShape tab 97 = some (true, 2, false) := rfl
theorem tabAt_97 : tab 97 = some ti97 := rfl
theorem fieldOff_97_0 : fieldOff tab 97 0 = some (0, 1) := rfl
theorem fieldOff_97_1 : fieldOff tab 97 1 = some (1, 1) := rfl
theorem tyShape_98 : tyShape tab 98 = some (true, 2, false) := rfl
theorem tabAt_98 : tab 98 = some ti98 := rfl
theorem fieldOff_98_0 : fieldOff tab 98 0 = some (0, 1) := rfl
theorem fieldOff_98_1 : fieldOff tab 98 1 = some (1, 1) := rfl
theorem tyShape_99 : tyShape tab 99 = some (false, 1, false) := rfl
theorem tyShape_109 : tyShape tab 109 = some (false, 1, false) := rfl
theorem mapTy_109 : mapTy tab 109 = some (3, 3) := rfl
theorem tabAt_109 : tab 109 = some ti109 := rfl
theorem tyShape_114 : tyShape tab 114 = some (false, 1, true) := rfl
theorem intKd_114 : intKd tab 114 = some .u64 := rfl
theorem tabAt_114 : tab 114 = some ti114 := rfl
theorem tyShape_125 : tyShape tab 125 = some (false, 1, true) := rfl
theorem intKd_125 : intKd tab 125 = some .i64 := rfl
theorem tabAt_125 : tab 125 = some ti125 := rfl
theorem tyShape_133 : tyShape tab 133 = some (false, 1, true) := rfl
theorem intKd_133 : intKd tab 133 = some .u32 := rfl
theorem tabAt_133 : tab 133 = some ti133 := rfl
theorem tyShape_135 : tyShape tab 135 = some (false, 1, true) := rfl
theorem intKd_135 : intKd tab 135 = some .u64 := rfl
theorem tabAt_135 : tab 135 = some ti135 := rfl
theorem tyShape_137 : tyShape tab 137 = some (false, 1, true) := rfl
theorem intKd_137 : intKd tab 137 = some .u64 := rfl
theorem tabAt_137 : tab 137 = some ti137 := rfl
theorem tyShape_148 : tyShape tab 148 = some (true, 0, false) := rfl
theorem tabAt_148 : tab 148 = some ti148 := rfl
theorem tyShape_149 : tyShape tab 149 = some (true, 0, false) := rfl
theorem tabAt_149 : tab 149 = some ti149 := rfl
theorem fieldOff_149_0 : fieldOff tab 149 0 = some (0, 0) := rfl

attribute [go_sem] bothT bothF codeK regS stillStep stillK nilCheckK sliceK viewK boundK buildSliceK partsL purLLK purLK purK nnOf regK stepK opK guardAt dstOk startSt argsIn argIn AState.put AState.get AState.blk AState.ev evC getL AState.app thenK inBlockK binK intK unK pick2K pickK pickW unMay AV.scal exitK resK expPL expP expC expL boxK packA vals builtinK lenK maxK minK allocK boxOpK partCells storeK storeEltK makeSliceK madeZ Option.isNone_none Option.isNone_some storeVarK spliceL setCells fieldAddrK indexAddrK loadK cellsK fieldK indexK extractK convertK buildK buildL callK boxOf argsK argP argL argC noTP noT newOk callSt imp impB impP impPB impL impLB impC impCB impT impTB cbase deadL slFreeR slFreeP slFree List.map_cons List.map_nil List.append_nil List.nil_append List.cons_append List.nodup_nil List.all_cons List.all_nil List.length_cons List.length_nil List.getElem?_cons_zero List.getElem?_cons_succ List.drop_zero List.drop_succ_cons List.take_succ_cons List.take_zero List.getD_cons_zero List.getD_cons_succ List.set_cons_zero List.set_cons_succ List.replicate_succ List.replicate_zero List.take_nil List.drop_nil Nat.add_zero Nat.zero_add if_true if_false ite_true ite_false and_true true_and and_false false_and or_true true_or or_false false_or not_false_eq_true not_true_eq_false ne_eq Bool.or_false Bool.false_or Bool.or_true Bool.true_or AV.one bne_self_eq_false beq_self_eq_true AV.oneAll Bool.and_true Bool.and_false Bool.true_and Bool.false_and Bool.not_true Bool.not_false Bool.false_eq_true cond_true cond_false forall_eq' forall_const false_implies implies_true exists_eq_left' Option.some.injEq Option.isSome_some Option.isSome_none Option.getD_some Option.getD_none AV.bool.injEq AV.int.injEq AV.agg.injEq List.cons.injEq List.mem_nil_iff List.not_mem_nil List.mem_cons stillV appendOpK appendK appBase srcK drawK recheck sameAt floK intPair makeOk makeFuncK makeMapK insertK mapIns lookupK pureB stillB List.isEmpty_nil List.isEmpty_cons List.take_length List.toList_toArray rwR rwP rwPL rwL rwC canC exists_const decide_true decide_false ptrK Option.map_none Option.map_some Int.cast_ofNat_Int Int.toNat_zero AV.flat flatRows oneRows nc0 Int.toNat_natCast backK drawLK Nat.mul_one bothTT bothTF bothFT bothFF mutB lendB lendK argsN lendA lendP lendC lendL setLent callMK startM exitKM lentEnd flatRes nF List.nodup_cons lastK storeHoleK

attribute [go_sem] tyShape_2 intKd_2 tabAt_2 tyShape_3 intKd_3 tabAt_3 tyShape_4 isBool_4 tabAt_4 tyShape_5 intKd_5 tabAt_5 tyShape_12 intKd_12 tabAt_12 tyShape_18 tabAt_18 tyShape_21 intKd_21 tabAt_21 tyShape_22 isSlice_22 elemInfo_22 elemSize_22 arrElem_22 tabAt_22 tyShape_23 isSlice_23 elemInfo_23 elemSize_23 arrElem_23 tabAt_23 tyShape_24 isSlice_24 elemInfo_24 elemSize_24 arrElem_24 tabAt_24 tyShape_27 isSlice_27 elemInfo_27 elemSize_27 arrElem_27 tabAt_27 tyShape_28 isSlice_28 elemInfo_28 elemSize_28 arrElem_28 tabAt_28 tyShape_29 tabAt_29 fieldOff_29_0 fieldOff_29_1 fieldOff_29_2 fieldOff_29_3 tyShape_30 tabAt_30 fieldOff_30_0 fieldOff_30_1 fieldOff_30_2 fieldOff_30_3 tyShape_32 tyShape_35 tyShape_36 tyShape_37 tyShape_39 isSlice_39 elemInfo_39 elemSize_39 arrElem_39 tabAt_39 tyShape_44 tabAt_44 fieldOff_44_0 fieldOff_44_1 fieldOff_44_2 tyShape_45 tabAt_45 fieldOff_45_0 fieldOff_45_1 fieldOff_45_2 tyShape_46 tabAt_46 fieldOff_46_0 fieldOff_46_1 fieldOff_46_2 fieldOff_46_3 tyShape_47 tabAt_47 fieldOff_47_0 fieldOff_47_1 fieldOff_47_2 fieldOff_47_3 tyShape_55 eqsSize_55 tabAt_55 fieldOff_55_0 fieldOff_55_1 fieldOff_55_2 fieldOff_55_3 tyShape_56 eqsSize_56 tabAt_56 fieldOff_56_0 fieldOff_56_1 fieldOff_56_2 fieldOff_56_3 tyShape_58 tyShape_59 tyShape_60 eqsSize_60 tabAt_60 fieldOff_60_0 fieldOff_60_1 tyShape_61 eqsSize_61 tabAt_61 fieldOff_61_0 fieldOff_61_1 tyShape_62 tyShape_64 tyShape_66 eqsSize_66 tabAt_66 fieldOff_66_0 fieldOff_66_1 fieldOff_66_2 tyShape_67 eqsSize_67 tabAt_67 fieldOff_67_0 fieldOff_67_1 fieldOff_67_2 tyShape_68 tyShape_81 tyShape_82 tyShape_84 arrElem_84 arrShape_84 tabAt_84 tyShape_85 arrElem_85 arrShape_85 tabAt_85 tyShape_89 tyShape_93 tyShape_96 tyShape_97 tabAt_97 fieldOff_97_0 fieldOff_97_1 tyShape_98 tabAt_98 fieldOff_98_0 fieldOff_98_1 tyShape_99 tyShape_109 mapTy_109 tabAt_109 tyShape_114 intKd_114 tabAt_114 tyShape_125 intKd_125 tabAt_125 tyShape_133 intKd_133 tabAt_133 tyShape_135 intKd_135 tabAt_135 tyShape_137 intKd_137 tabAt_137 tyShape_148 tabAt_148 tyShape_149 tabAt_149 fieldOff_149_0 ti2 ti3 ti4 ti5 ti12 ti18 ti21 ti22 ti23 ti24 ti27 ti28 ti29 ti30 ti32 ti35 ti36 ti37 ti39 ti44 ti45 ti46 ti47 ti55 ti56 ti58 ti59 ti60 ti61 ti62 ti64 ti66 ti67 ti68 ti81 ti82 ti84 ti85 ti89 ti93 ti96 ti97 ti98 ti99 ti109 ti114 ti125 ti133 ti135 ti137 ti148 ti149

end Go.Proofs.Yteebkimhfaodnaa

/- The laying of slices.SortFunc at versions. -/
namespace Go.Proofs
open Go.Shelf
def Try.sortV_ren : Go.Shelf.Ren := ⟨fun | 6 => 67 | 15 => 91 | 14 => 90 | 28 => 109 | 29 => 110 | 20 => 101 | 21 => 102 | 22 => 103 | 23 => 104 | 24 => 105 | 25 => 106 | 26 => 107 | 27 => 108 | 46 => 113 | 47 => 114 | 48 => 115 | 49 => 116 | 50 => 117 | 57 => 118 | n => n, fun | 22 => 27 | 24 => 67 | 25 => 89 | 3 => 3 | 39 => 114 | 0 => 0 | 53 => 133 | 55 => 135 | 4 => 4 | 46 => 126 | 45 => 125 | 50 => 130 | 5 => 5 | 9 => 9 | 66 => 137 | 70 => 141 | 76 => 143 | 77 => 117 | n => n, fun | n => n⟩
theorem Try.sortV : Go.Proofs.SlLaysF0.n6 Try.prog Try.sortV_ren := {
  mixed := by kernel_rfl
  f6 := ⟨Try.f67.name, by decide, Try.func67.trans (congrArg some (by kernel_rfl))⟩
  f14 := ⟨Try.f90.name, by decide, Try.func90.trans (congrArg some (by kernel_rfl))⟩
  f15 := Try.func91.trans (congrArg some (by kernel_rfl))
  f20 := ⟨Try.f101.name, by decide, Try.func101.trans (congrArg some (by kernel_rfl))⟩
  f21 := ⟨Try.f102.name, by decide, Try.func102.trans (congrArg some (by kernel_rfl))⟩
  f22 := ⟨Try.f103.name, by decide, Try.func103.trans (congrArg some (by kernel_rfl))⟩
  f23 := ⟨Try.f104.name, by decide, Try.func104.trans (congrArg some (by kernel_rfl))⟩
  f24 := ⟨Try.f105.name, by decide, Try.func105.trans (congrArg some (by kernel_rfl))⟩
  f25 := ⟨Try.f106.name, by decide, Try.func106.trans (congrArg some (by kernel_rfl))⟩
  f26 := ⟨Try.f107.name, by decide, Try.func107.trans (congrArg some (by kernel_rfl))⟩
  f27 := ⟨Try.f108.name, by decide, Try.func108.trans (congrArg some (by kernel_rfl))⟩
  f28 := Try.func109.trans (congrArg some (by kernel_rfl))
  f29 := Try.func110.trans (congrArg some (by kernel_rfl))
  f46 := ⟨Try.f113.name, by decide, Try.func113.trans (congrArg some (by kernel_rfl))⟩
  f47 := Try.func114.trans (congrArg some (by kernel_rfl))
  f48 := Try.func115.trans (congrArg some (by kernel_rfl))
  f49 := ⟨Try.f116.name, by decide, Try.func116.trans (congrArg some (by kernel_rfl))⟩
  f50 := ⟨Try.f117.name, by decide, Try.func117.trans (congrArg some (by kernel_rfl))⟩
  f57 := ⟨Try.f118.name, by decide, Try.func118.trans (congrArg some (by kernel_rfl))⟩
  t0 := Try.underlying0
  a0 := Try.isAgg0
  z0 := Try.sizeOf0
  v0 := Try.zeroValue0
  t3 := Try.underlying3
  a3 := Try.isAgg3
  z3 := Try.sizeOf3
  v3 := Try.zeroValue3
  t4 := Try.underlying4
  a4 := Try.isAgg4
  z4 := Try.sizeOf4
  v4 := Try.zeroValue4
  t5 := Try.underlying5
  a5 := Try.isAgg5
  z5 := Try.sizeOf5
  v5 := Try.zeroValue5
  t9 := Try.underlying9
  a9 := Try.isAgg9
  z9 := Try.sizeOf9
  v9 := Try.zeroValue9
  t22 := Try.underlying27
  a22 := Try.isAgg27
  z22 := Try.sizeOf27
  v22 := Try.zeroValue27
  t25 := Try.underlying89
  a25 := Try.isAgg89
  z25 := Try.sizeOf89
  v25 := Try.zeroValue89
  t39 := Try.underlying114
  a39 := Try.isAgg114
  z39 := Try.sizeOf114
  v39 := Try.zeroValue114
  t45 := Try.underlying125
  a45 := Try.isAgg125
  z45 := Try.sizeOf125
  v45 := Try.zeroValue125
  t46 := Try.underlying126
  a46 := Try.isAgg126
  z46 := Try.sizeOf126
  v46 := Try.zeroValue126
  t50 := Try.underlying130
  a50 := Try.isAgg130
  z50 := Try.sizeOf130
  v50 := Try.zeroValue130
  t53 := Try.underlying133
  a53 := Try.isAgg133
  z53 := Try.sizeOf133
  v53 := Try.zeroValue133
  t55 := Try.underlying135
  a55 := Try.isAgg135
  z55 := Try.sizeOf135
  v55 := Try.zeroValue135
  t66 := Try.underlying137
  a66 := Try.isAgg137
  z66 := Try.sizeOf137
  v66 := Try.zeroValue137
  t70 := Try.underlying141
  a70 := Try.isAgg141
  z70 := Try.sizeOf141
  v70 := Try.zeroValue141
  t76 := Try.underlying143
  a76 := Try.isAgg143
  z76 := Try.sizeOf143
  v76 := Try.zeroValue143
  t77 := Try.underlying117
  a77 := Try.isAgg117
  z77 := Try.sizeOf117
  v77 := Try.zeroValue117 }
end Go.Proofs

/- Contracts: voters' validity. -/
set_option linter.unusedSimpArgs false
set_option linter.unusedVariables false
namespace Go.Proofs.Yteebkimhfaodnaa
open Go Go.RowKit

theorem c_spec_l1In (x lo hi : Int) : Det Try.prog 32 [.int .i64 x, .int .i64 lo, .int .i64 hi] (.bool (decide (lo ≤ x) && decide (x ≤ hi))) := by
  refine fspec_det tab_ok Try.call32 Try.func32 rfl 15 Try.ntmps32 (of_decide_eq_true rfl) fun B => codeK_sound tab_ok _ _ _ ?_
  simp (config := { maxSteps := 4000000 }) only [go_sem, simprocAttr, ↓dnA, Try.f32]
  refine ⟨fun h => ?_, fun h => ?_⟩ <;> simp_all <;> omega

theorem c_impl_in (x lo hi : Int) : Det Try.prog 57 [.int .i64 x, .int .i64 lo, .int .i64 hi] (.bool (decide (lo ≤ x) && decide (x ≤ hi))) := by
  refine fspec_det tab_ok Try.call57 Try.func57 rfl 15 Try.ntmps57 (of_decide_eq_true rfl) fun B => codeK_sound tab_ok _ _ _ ?_
  simp (config := { maxSteps := 4000000 }) only [go_sem, simprocAttr, ↓dnA, Try.f57]
  refine ⟨fun h => ?_, fun h => ?_⟩ <;> simp only [h, Bool.true_and, Bool.false_and]

end Go.Proofs.Yteebkimhfaodnaa

/- Contracts: equality of lists of bools. -/
set_option linter.unusedSimpArgs false
set_option linter.unusedVariables false
namespace Go.Proofs.Yteebkimhfaodnaa
open Go Go.RowKit

theorem mixed_ : Try.prog.follows .mixedOrders = true := by kernel_rfl

end Go.Proofs.Yteebkimhfaodnaa

/- Contracts: copies of lists. -/
set_option linter.unusedSimpArgs false
set_option linter.unusedVariables false
namespace Go.Proofs.Yteebkimhfaodnaa
open Go Go.RowKit

end Go.Proofs.Yteebkimhfaodnaa

/- Contracts: sums. -/
set_option linter.unusedSimpArgs false
set_option linter.unusedVariables false
namespace Go.Proofs.Yteebkimhfaodnaa
open Go Go.RowKit

def encI (n : Int) : List AV := [.int .i64 n]

/-- The first place at which p holds, from i on. -/
def idxF {α : Type} (p : α → Bool) : List α → Nat → Int
  | [], _ => -1
  | x :: r, i => if p x then (i : Int) else idxF p r (i + 1)

theorem idxF_any {α : Type} (p : α → Bool) : ∀ (l : List α) (i : Nat), decide (idxF p l i ≥ 0) = l.any p
  | [], i => rfl
  | x :: r, i => by
    simp only [idxF, List.any_cons]
    by_cases h : p x
    · simp [h]
    · simp only [h, Bool.false_or]
      exact idxF_any p r (i + 1)

theorem c_slices_IndexFunc_int (n1 : Option Bool) (xs : List Int) (k : FuncId) (p : Int → Bool) (hx : xs.length < 2 ^ 62) (hm : mutB k = false) (hp : ∀ x, x ∈ xs → Det Try.prog k [.int .i64 x] (.bool (p x))) :
    Det Try.prog 86 [.sl n1 (rows encI xs), .fn k []] (.int .i64 (idxF p xs 0)) := by
  simp only [mutB] at hm
  refine fspec_det tab_ok Try.call86 Try.func86 rfl 19 Try.ntmps86 (of_decide_eq_true rfl) fun B => codeK_sound tab_ok _ _ _ ?_
  simp (config := { maxSteps := 4000000 }) only [go_sem, simprocAttr, ↓dnA, Try.f86, rows_length, hm]
  refine semL_for tab_ok (fun i : Nat => ⟨19, [(0, .sl n1 (rows encI xs)), (1, .fn k []), (7, .int .i64 xs.length), (8, .int .i64 i)], []⟩) (fun i => xs.length - i)
    (fun i => i ≤ xs.length ∧ idxF p (xs.drop i) i = idxF p xs 0) 0 [] (Weak.of rfl trivial ?_ rfl) ⟨by omega, rfl⟩ ?_
  · simp (config := { maxSteps := 4000000 }) only [go_sem, simprocAttr, ↓dnA, Try.f86, frW, wk2, wk1, wkL, wkB, hpW, List.mem_cons, Prod.mk.injEq, exists_eq_left, exists_eq_right, exists_eq]
  · rintro i ⟨hi, hp'⟩
    by_cases h : i < xs.length
    · simp (config := { maxSteps := 4000000 }) only [go_sem, simprocAttr, ↓dnA, Try.f86, rows_length, rows_get _ _ _ h, encI, nlt h, nn0, hm]
      refine CallTo.det (hp _ (List.getElem_mem h)) fun _ => ?_
      rw [drop_cons xs i h] at hp'
      simp (config := { maxSteps := 4000000 }) only [go_sem, simprocAttr, ↓dnA, Try.f86, rows_length, rows_get _ _ _ h, encI, nlt h, hm]
      refine ⟨fun h => ?_, fun h' => ?_⟩
      · rw [← hp']; simp [idxF, h]
      · refine ⟨i + 1, [], ⟨by omega, ?_⟩, by dsimp only; omega, Weak.of rfl trivial ?_ rfl⟩
        · rw [← hp']; simp [idxF, h']
        · simp (config := { maxSteps := 4000000 }) only [go_sem, simprocAttr, ↓dnA, Try.f86, wsucc h hx, frW, wk2, wk1, wkL, wkB, hpW, List.mem_cons, Prod.mk.injEq, exists_eq_left, exists_eq_right, exists_eq]
    · have : i = xs.length := by omega
      subst this
      rw [List.drop_length] at hp'
      simp (config := { maxSteps := 4000000 }) only [go_sem, simprocAttr, ↓dnA, Try.f86, nlf h, hm]
      rw [← hp']
      rfl

theorem c_slices_ContainsFunc_int (n1 : Option Bool) (xs : List Int) (k : FuncId) (p : Int → Bool) (hx : xs.length < 2 ^ 62) (hm : mutB k = false) (hp : ∀ x, x ∈ xs → Det Try.prog k [.int .i64 x] (.bool (p x))) :
    Det Try.prog 58 [.sl n1 (rows encI xs), .fn k []] (.bool (xs.any p)) := by
  refine fspec_det tab_ok Try.call58 Try.func58 rfl 9 Try.ntmps58 (of_decide_eq_true rfl) fun B => codeK_sound tab_ok _ _ _ ?_
  simp (config := { maxSteps := 4000000 }) only [go_sem, simprocAttr, ↓dnA, Try.f58]
  refine CallTo.det (c_slices_IndexFunc_int _ _ _ _ hx hm hp) fun _ => ?_
  simp (config := { maxSteps := 4000000 }) only [go_sem, simprocAttr, ↓dnA, Try.f58, idxF_any]

def isSummedB (n : Int) : Bool := decide (0 ≤ n) && decide (n ≤ 2000000)

theorem c_impl_isSummed (x : Int) : Det Try.prog 60 [.int .i64 x] (.bool (isSummedB x)) := by
  refine fspec_det tab_ok Try.call60 Try.func60 rfl 5 Try.ntmps60 (of_decide_eq_true rfl) fun B => codeK_sound tab_ok _ _ _ ?_
  simp (config := { maxSteps := 4000000 }) only [go_sem, simprocAttr, ↓dnA, Try.f60]
  refine CallTo.det (c_impl_in _ _ _) fun _ => ?_
  simp (config := { maxSteps := 4000000 }) only [go_sem, simprocAttr, ↓dnA, Try.f60]
  rfl

theorem c_impl_SumOf1 (x : Int) : Det Try.prog 59 [.int .i64 x] (.bool (!isSummedB x)) := by
  refine fspec_det tab_ok Try.call59 Try.func59 rfl 6 Try.ntmps59 (of_decide_eq_true rfl) fun B => codeK_sound tab_ok _ _ _ ?_
  simp (config := { maxSteps := 4000000 }) only [go_sem, simprocAttr, ↓dnA, Try.f59]
  refine CallTo.det (c_impl_isSummed _) fun _ => ?_
  simp (config := { maxSteps := 4000000 }) only [go_sem, simprocAttr, ↓dnA, Try.f59]

/-- A sum with one more number. -/
def moreI (s n : Int) : Int := (31 * s + n + 7) % 1000003

theorem c_impl_more (s n : Int) (hs : 0 ≤ s ∧ s ≤ 2000000) (hn : 0 ≤ n ∧ n ≤ 2000000) : Det Try.prog 61 [.int .i64 s, .int .i64 n] (.int .i64 (moreI s n)) := by
  refine fspec_det tab_ok Try.call61 Try.func61 rfl 11 Try.ntmps61 (of_decide_eq_true rfl) fun B => codeK_sound tab_ok _ _ _ ?_
  simp (config := { maxSteps := 4000000 }) only [go_sem, simprocAttr, ↓dnA, Try.f61]
  rw [wrap_small (31 * s) (by omega) (by omega), wrap_small (31 * s + n) (by omega) (by omega), wrap_small (31 * s + n + 7) (by omega) (by omega), Int.tmod_eq_emod_of_nonneg (by omega)]
  rfl

def sumI (s : Int) (l : List Int) : Int := l.foldl moreI s

theorem moreI_bd (s n : Int) : 0 ≤ moreI s n ∧ moreI s n < 1000003 := by unfold moreI; omega

/-- SumOf. -/
def sumOf (tag : Int) (l : List Int) : Int := if (decide (0 ≤ tag) && decide (tag ≤ 9)) && l.all isSummedB then sumI (17 + tag) l else -1

theorem any_not {α : Type} (l : List α) (p : α → Bool) : (l.any fun x => !p x) = !l.all p := by
  induction l with
  | nil => rfl
  | cons x r ih => simp [List.any_cons, List.all_cons, ih]

theorem c_impl_SumOf (tag : Int) (n1 : Option Bool) (xs : List Int) (hx : xs.length < 2 ^ 62) : Det Try.prog 34 [.int .i64 tag, .sl n1 (rows encI xs)] (.int .i64 (sumOf tag xs)) := by
  have hc : Det Try.prog 58 [.sl n1 (rows encI xs), .fn 59 []] (.bool (!xs.all isSummedB)) := by
    have := c_slices_ContainsFunc_int n1 xs 59 (fun x => !isSummedB x) hx rfl (fun x _ => c_impl_SumOf1 x)
    rwa [any_not] at this
  refine fspec_det tab_ok Try.call34 Try.func34 rfl 28 Try.ntmps34 (of_decide_eq_true rfl) fun B => codeK_sound tab_ok _ _ _ ?_
  simp (config := { maxSteps := 4000000 }) only [go_sem, simprocAttr, ↓dnA, Try.f34]
  refine CallTo.det (c_impl_in _ _ _) fun _ => ?_
  by_cases ht : (decide (0 ≤ tag) && decide (tag ≤ 9)) = true
  · simp (config := { maxSteps := 4000000 }) only [go_sem, simprocAttr, ↓dnA, Try.f34, ht]
    refine CallTo.det hc fun _ => ?_
    cases ha : xs.all isSummedB with
    | false => simp (config := { maxSteps := 4000000 }) only [go_sem, simprocAttr, ↓dnA, Try.f34, ht, sumOf, ha]
    | true =>
      have ht' : 0 ≤ tag ∧ tag ≤ 9 := by simpa using ht
      have ha' : ∀ x, x ∈ xs → 0 ≤ x ∧ x ≤ 2000000 := fun x hx => by simpa [isSummedB] using List.all_eq_true.1 ha x hx
      simp (config := { maxSteps := 4000000 }) only [go_sem, simprocAttr, ↓dnA, Try.f34, ht, rows_length, wrap_small (17 + tag) (by omega) (by omega)]
      refine semL_for tab_ok (fun p : Nat × Int => ⟨28, [(5, .int .i64 p.2), (17, .sl n1 (rows encI xs)), (18, .int .i64 xs.length), (19, .int .i64 p.1)], []⟩) (fun p => xs.length - p.1)
        (fun p => p.1 ≤ xs.length ∧ (0 ≤ p.2 ∧ p.2 ≤ 1000003) ∧ sumI p.2 (xs.drop p.1) = sumOf tag xs) (0, 17 + tag) [] (Weak.of rfl trivial ?_ rfl) ⟨by omega, by simp only; omega, by simp [sumOf, ht', ha]⟩ ?_
      · simp (config := { maxSteps := 4000000 }) only [go_sem, simprocAttr, ↓dnA, Try.f34, frW, wk2, wk1, wkL, wkB, hpW, List.mem_cons, Prod.mk.injEq, exists_eq_left, exists_eq_right, exists_eq]
      · rintro ⟨i, s⟩ ⟨hi, hs, hp⟩
        by_cases h : i < xs.length
        · simp (config := { maxSteps := 4000000 }) only [go_sem, simprocAttr, ↓dnA, Try.f34, rows_length, rows_get _ _ _ h, encI, nlt h, nn0]
          refine CallTo.det (c_impl_more s xs[i] (by simp only at hs; omega) (ha' _ (List.getElem_mem h))) fun _ => ?_
          simp (config := { maxSteps := 4000000 }) only [go_sem, simprocAttr, ↓dnA, Try.f34, rows_length, rows_get _ _ _ h, encI, nlt h]
          refine ⟨(i + 1, moreI s xs[i]), [], ⟨by simp only; omega, ⟨(moreI_bd _ _).1, by have := (moreI_bd s xs[i]).2; simp only; omega⟩, ?_⟩, by simp only; omega, Weak.of rfl trivial ?_ rfl⟩
          · rw [← hp]; simp only; rw [drop_cons xs i h]; rfl
          · simp (config := { maxSteps := 4000000 }) only [go_sem, simprocAttr, ↓dnA, Try.f34, wsucc h hx, frW, wk2, wk1, wkL, wkB, hpW, List.mem_cons, Prod.mk.injEq, exists_eq_left, exists_eq_right, exists_eq]
        · have : i = xs.length := by simp only at hi; omega
          subst this
          simp only [List.drop_length] at hp
          simp (config := { maxSteps := 4000000 }) only [go_sem, simprocAttr, ↓dnA, Try.f34, nlf h]
          exact hp.symm
  · have ht := Bool.not_eq_true _ ▸ ht
    simp (config := { maxSteps := 4000000 }) only [go_sem, simprocAttr, ↓dnA, Try.f34, ht, sumOf]

end Go.Proofs.Yteebkimhfaodnaa

/- Contracts: what the laws draw with. -/
set_option linter.unusedSimpArgs false
set_option linter.unusedVariables false
set_option maxRecDepth 20000
set_option maxHeartbeats 2000000
namespace Go.Proofs.Yteebkimhfaodnaa
open Go Go.RowKit

def encB (n : Int) : List AV := [.int .u8 n]

/-- A reader of a code. -/
def rd (nb : Option Bool) (bs : List Int) (p : Int) : List AV := [.sl nb (rows encB bs), .int .i64 p]

structure RdOk (bs : List Int) (p : Int) : Prop where
  len : bs.length ≤ 2000
  byte : ∀ b, b ∈ bs → 0 ≤ b ∧ b ≤ 255
  lo : 0 ≤ p
  hi : p ≤ 1000000000

theorem xor_nn (a b : Int) (ha : 0 ≤ a ∧ a < 4611686018427387904) (hb : 0 ≤ b ∧ b < 4611686018427387904) :
    0 ≤ IntKind.i64.wrap ((BitVec.ofInt IntKind.i64.bits a ^^^ BitVec.ofInt IntKind.i64.bits b).toNat : Nat) := by
  obtain ⟨m, rfl⟩ := Int.eq_ofNat_of_zero_le ha.1
  obtain ⟨n, rfl⟩ := Int.eq_ofNat_of_zero_le hb.1
  have h1 : m < 2 ^ 62 := by have := ha.2; omega
  have h2 : n < 2 ^ 62 := by have := hb.2; omega
  have e : (BitVec.ofInt IntKind.i64.bits (m : Int) ^^^ BitVec.ofInt IntKind.i64.bits (n : Int)).toNat = m ^^^ n := by
    rw [BitVec.toNat_xor, BitVec.ofInt_natCast, BitVec.ofInt_natCast, BitVec.toNat_ofNat, BitVec.toNat_ofNat]
    show (m % 2 ^ 64) ^^^ (n % 2 ^ 64) = _
    rw [Nat.mod_eq_of_lt (by omega), Nat.mod_eq_of_lt (by omega)]
  rw [e]
  have h3 : m ^^^ n < 2 ^ 62 := Nat.xor_lt_two_pow h1 h2
  rw [wrap_small _ (by omega) (by omega)]
  omega

def PickQ (nb : Option Bool) (bs : List Int) (p n : Int) (r : AV) (b : List AV) : Prop := ∃ x : Int, r = .int .i64 x ∧ b = rd nb bs (p + 1) ∧ 0 ≤ x ∧ (x < n ∨ x = 0)

theorem c_spec_pick (nb : Option Bool) (bs : List Int) (p n : Int) (h : RdOk bs p) : FSpec Try.prog 73 [.loc 0 0, .int .i64 n] true (rd nb bs p) (PickQ nb bs p n) := by
  obtain ⟨hl, hb, h0, h1⟩ := h
  have w1 : IntKind.i64.wrap (p + 1) = p + 1 := wrap_small (p + 1) (by omega) (by omega)
  have w2 : IntKind.i64.wrap (p + 1 - 1) = p := by rw [wrap_small (p + 1 - 1) (by omega) (by omega)]; omega
  refine fspec_rel tab_ok Try.call73 Try.func73 rfl 99 Try.ntmps73 (of_decide_eq_true rfl) fun B => codeK_sound tab_ok _ _ _ ?_
  unfold rd
  by_cases hn : n < 1
  · have hn' : decide (n < 1) = true := by simpa using hn
    simp (config := { maxSteps := 4000000 }) only [go_sem, simprocAttr, ↓dnA, Try.f73, rows_length, w1, w2, hn']
    exact .same ⟨0, rfl, rfl, by omega, .inr rfl⟩
  · have hn' : decide (n < 1) = false := by simpa using hn
    by_cases he : bs.length = 0
    · have he' : ((bs.length : Int) == 0) = true := by simpa using he
      simp (config := { maxSteps := 4000000 }) only [go_sem, simprocAttr, ↓dnA, Try.f73, rows_length, w1, w2, hn', he']
      exact .same ⟨0, rfl, rfl, by omega, .inr rfl⟩
    · have he' : ((bs.length : Int) == 0) = false := by simpa using he
      by_cases hp : p < bs.length
      · have hp' : decide (p < (bs.length : Int)) = true := by simpa using hp
        have hi : p.toNat < bs.length := by omega
        have hbb := hb _ (List.getElem_mem hi)
        have wb : IntKind.i64.wrap bs[p.toNat] = bs[p.toNat] := wrap_small _ (by omega) (by omega)
        simp (config := { maxSteps := 4000000 }) only [go_sem, simprocAttr, ↓dnA, Try.f73, rows_length, w1, w2, hn', he', hp', rows_get _ _ _ hi, encB, wb]
        refine ⟨⟨h0, hp⟩, by omega, .same ⟨_, rfl, rfl, ?_, ?_⟩⟩
        · rw [Int.tmod_eq_emod_of_nonneg hbb.1]; exact Int.emod_nonneg _ (by omega)
        · rw [Int.tmod_eq_emod_of_nonneg hbb.1]; exact .inl (Int.emod_lt_of_pos _ (by omega))
      · have hp' : decide (p < (bs.length : Int)) = false := by simpa using hp
        have hlen : (0 : Int) < bs.length := by omega
        have wq : IntKind.i64.wrap (IntKind.i64.wrap (p * 7) + 3) = p * 7 + 3 := by rw [wrap_small (p * 7) (by omega) (by omega), wrap_small _ (by omega) (by omega)]
        have t1 : p.tmod bs.length = p % bs.length := Int.tmod_eq_emod_of_nonneg h0
        have t2 : (p * 7 + 3).tmod bs.length = (p * 7 + 3) % bs.length := Int.tmod_eq_emod_of_nonneg (by omega)
        have t3 : p.tdiv bs.length = p / bs.length := Int.tdiv_eq_ediv_of_nonneg h0
        have a1 := Int.emod_nonneg p (by omega : (bs.length : Int) ≠ 0)
        have a2 := Int.emod_lt_of_pos p hlen
        have a3 := Int.emod_nonneg (p * 7 + 3) (by omega : (bs.length : Int) ≠ 0)
        have a4 := Int.emod_lt_of_pos (p * 7 + 3) hlen
        have a5 : 0 ≤ p / bs.length := Int.ediv_nonneg h0 (by omega)
        have a6 : p / bs.length ≤ p := Int.ediv_le_self _ h0
        have i1 : (p % bs.length).toNat < bs.length := by omega
        have i2 : ((p * 7 + 3) % bs.length).toNat < bs.length := by omega
        have b1 := hb _ (List.getElem_mem i1)
        have b2 := hb _ (List.getElem_mem i2)
        generalize hy1 : bs[(p % bs.length).toNat] = y1 at b1
        generalize hy2 : bs[((p * 7 + 3) % bs.length).toNat] = y2 at b2
        have g1 : (rows encB bs).getD (p % bs.length).toNat [] = [.int .u8 y1] := by rw [rows_get _ _ _ i1, hy1]; rfl
        have g2 : (rows encB bs).getD ((p * 7 + 3) % bs.length).toNat [] = [.int .u8 y2] := by rw [rows_get _ _ _ i2, hy2]; rfl
        simp (config := { maxSteps := 4000000 }) only [go_sem, simprocAttr, ↓dnA, Try.f73, rows_length, w1, w2, hn', he', hp']
        refine semL_still tab_ok mixed_ (by decide +kernel) ?_
        simp (config := { maxSteps := 4000000 }) only [go_sem, simprocAttr, ↓dnA, Try.f73, rows_length, w1, w2, hn', he', hp', wq, t1, t2, t3, g1, g2]
        have w3 : IntKind.i64.wrap (IntKind.i64.wrap y1 * 131) = y1 * 131 := by rw [wrap_small y1 (by omega) (by omega), wrap_small _ (by omega) (by omega)]
        have w4 : IntKind.i64.wrap (IntKind.i64.wrap y2 * 1117) = y2 * 1117 := by rw [wrap_small y2 (by omega) (by omega), wrap_small _ (by omega) (by omega)]
        have w5 : IntKind.i64.wrap (p * 29) = p * 29 := wrap_small _ (by omega) (by omega)
        have w6 : IntKind.i64.wrap (IntKind.i64.wrap (p / bs.length) * 53) = p / bs.length * 53 := by rw [wrap_small (p / bs.length) (by omega) (by omega), wrap_small _ (by omega) (by omega)]
        rw [w3, w4, w5, w6]
        generalize hz : p / bs.length * 53 = z
        have hz0 : 0 ≤ z ∧ z ≤ 53000000000 := by omega
        have w7 : IntKind.i64.wrap (IntKind.i64.wrap (IntKind.i64.wrap (y1 * 131 + y2 * 1117) + p * 29) + z) = y1 * 131 + y2 * 1117 + p * 29 + z := by
          rw [wrap_small (y1 * 131 + y2 * 1117) (by omega) (by omega), wrap_small (y1 * 131 + y2 * 1117 + p * 29) (by omega) (by omega), wrap_small _ (by omega) (by omega)]
        rw [w7]
        generalize hx : y1 * 131 + y2 * 1117 + p * 29 + z = x
        have hx0 : 0 ≤ x ∧ x ≤ 100000000000 := by omega
        have hd : x.tdiv 64 = x / 64 := Int.tdiv_eq_ediv_of_nonneg hx0.1
        have hd0 : 0 ≤ x / 64 ∧ x / 64 ≤ x := by omega
        rw [hd, wrap_small (x / 64) (by omega) (by omega)]
        have hxor := xor_nn x (x / 64) (by omega) (by omega)
        refine ⟨by omega, ⟨a1, a2⟩, by omega, ⟨a3, a4⟩, by omega, by omega, .same ⟨_, rfl, rfl, ?_, ?_⟩⟩
        · have key : ∀ y : Int, 0 ≤ y → 0 ≤ y.tmod n := fun y hy => by rw [Int.tmod_eq_emod_of_nonneg hy]; exact Int.emod_nonneg _ (by omega)
          exact key _ hxor
        · have key : ∀ y : Int, 0 ≤ y → y.tmod n < n := fun y hy => by rw [Int.tmod_eq_emod_of_nonneg hy]; exact Int.emod_lt_of_pos _ (by omega)
          exact .inl (key _ hxor)

end Go.Proofs.Yteebkimhfaodnaa

/- Contracts: drawn voters; FnVoterValid. -/
set_option linter.unusedSimpArgs false
set_option linter.unusedVariables false
set_option maxRecDepth 20000
set_option maxHeartbeats 2000000
namespace Go.Proofs.Yteebkimhfaodnaa
open Go Go.RowKit

theorem RdOk.step {bs : List Int} {p q : Int} (h : RdOk bs p) (h1 : p ≤ q) (h2 : q ≤ 1000000000) : RdOk bs q := ⟨h.len, h.byte, by have := h.lo; omega, h2⟩

def OddQ (nb : Option Bool) (bs : List Int) (p : Int) (r : AV) (b : List AV) : Prop := ∃ (x : Bool) (q : Int), r = .bool x ∧ b = rd nb bs q ∧ p ≤ q ∧ q ≤ p + 1

theorem c_spec_odd (nb : Option Bool) (bs : List Int) (p n : Int) (h : RdOk bs p) (hn : 0 ≤ n ∧ n ≤ 1000000) : FSpec Try.prog 45 [.loc 0 0, .int .i64 n] true (rd nb bs p) (OddQ nb bs p) := by
  refine fspec_rel tab_ok Try.call45 Try.func45 rfl 15 Try.ntmps45 (of_decide_eq_true rfl) fun B => codeK_sound tab_ok _ _ _ ?_
  unfold rd
  simp (config := { maxSteps := 4000000 }) only [go_sem, simprocAttr, ↓dnA, Try.f45]
  refine ⟨fun hg => ?_, fun hg => ?_⟩
  · refine CallTo.of (c_spec_pick nb bs p n h) ?_
    rintro r b ⟨x, rfl, rfl, hx⟩
    unfold rd
    simp (config := { maxSteps := 4000000 }) only [go_sem, simprocAttr, ↓dnA, Try.f45, hg]
    exact .same ⟨_, _, rfl, rfl, by omega, by omega⟩
  · exact .same ⟨_, p, rfl, rfl, by omega, by omega⟩

/-- A code. -/
structure CodeOk (bs : List Int) : Prop where
  byte : ∀ b, b ∈ bs → 0 ≤ b ∧ b ≤ 255
  len : bs.length ≤ 1048576

def OpenQ (nb : Option Bool) (bs : List Int) (r : AV) (b : List AV) : Prop := r = .box (rd nb (bs.take 2000) 0)

theorem c_spec_l20Open (nb : Option Bool) (bs : List Int) (h : CodeOk bs) : FSpec Try.prog 43 [.sl nb (rows encB bs)] false [] (OpenQ nb bs) := by
  refine fspec_ptr tab_ok 2 Try.call43 Try.func43 rfl 11 Try.ntmps43 (of_decide_eq_true rfl) rfl fun B => codeK_sound tab_ok _ _ _ ?_
  by_cases hl : 2000 < bs.length
  · have hl' : decide ((bs.length : Int) > 2000) = true := by simp; omega
    have hb : (0 ≤ (2000 : Int)) ∧ (2000 : Int) ≤ bs.length := by omega
    have ht : (Int.toNat 2000) = 2000 := rfl
    simp (config := { maxSteps := 4000000 }) only [go_sem, simprocAttr, ↓dnA, Try.f43, rows_length, hl', hb, ht, rows_take]
    rfl
  · have hl' : decide ((bs.length : Int) > 2000) = false := by simp; omega
    simp (config := { maxSteps := 4000000 }) only [go_sem, simprocAttr, ↓dnA, Try.f43, rows_length, hl']
    unfold OpenQ
    rw [List.take_of_length_le (by omega)]
    rfl

theorem FSpec.det {P : Program} {k : FuncId} {args : List AV} {Q : AV → List AV → Prop} {r : AV} (h : FSpec P k args false [] Q) (hq : ∀ r' b, Q r' b → r' = r) : Det P k args r := h.mono hq

theorem code_take {bs : List Int} (h : CodeOk bs) : RdOk (bs.take 2000) 0 := ⟨by rw [List.length_take]; omega, fun b hb => h.byte b (List.mem_of_mem_take hb), by omega, by omega⟩

theorem c_laws_alive : Det Try.prog 13 [] (.bool true) := by
  refine fspec_det tab_ok Try.call13 Try.func13 rfl 4 Try.ntmps13 (of_decide_eq_true rfl) fun B => codeK_sound tab_ok _ _ _ ?_
  simp (config := { maxSteps := 4000000 }) only [go_sem, simprocAttr, ↓dnA, Try.f13]
  refine CallTo.det (c_impl_SumOf 0 _ [] (by decide)) fun _ => ?_
  simp (config := { maxSteps := 4000000 }) only [go_sem, simprocAttr, ↓dnA, Try.f13]
  decide

end Go.Proofs.Yteebkimhfaodnaa

/- Contracts: entries and actions, and when they are valid. -/
set_option linter.unusedSimpArgs false
set_option linter.unusedVariables false
set_option maxRecDepth 20000
set_option maxHeartbeats 2000000
namespace Go.Proofs.Yteebkimhfaodnaa
open Go Go.RowKit

def inB (n lo hi : Int) : Bool := decide (lo ≤ n) && decide (n ≤ hi)

theorem inB_iff {n lo hi : Int} : inB n lo hi = true ↔ lo ≤ n ∧ n ≤ hi := by simp [inB]

theorem c_in (x lo hi : Int) : Det Try.prog 57 [.int .i64 x, .int .i64 lo, .int .i64 hi] (.bool (inB x lo hi)) := c_impl_in x lo hi
theorem c_l1In (x lo hi : Int) : Det Try.prog 32 [.int .i64 x, .int .i64 lo, .int .i64 hi] (.bool (inB x lo hi)) := c_spec_l1In x lo hi

theorem c_impl_isKey (x : Int) : Det Try.prog 85 [.int .i64 x] (.bool (inB x 0 31)) := by
  refine fspec_det tab_ok Try.call85 Try.func85 rfl 5 Try.ntmps85 (of_decide_eq_true rfl) fun B => codeK_sound tab_ok _ _ _ ?_
  simp (config := { maxSteps := 4000000 }) only [go_sem, simprocAttr, ↓dnA, Try.f85]
  refine CallTo.det (c_in _ _ _) fun _ => ?_
  simp (config := { maxSteps := 4000000 }) only [go_sem, simprocAttr, ↓dnA, Try.f85]

theorem c_impl_isValue (x : Int) : Det Try.prog 64 [.int .i64 x] (.bool (inB x 0 1000000)) := by
  refine fspec_det tab_ok Try.call64 Try.func64 rfl 5 Try.ntmps64 (of_decide_eq_true rfl) fun B => codeK_sound tab_ok _ _ _ ?_
  simp (config := { maxSteps := 4000000 }) only [go_sem, simprocAttr, ↓dnA, Try.f64]
  refine CallTo.det (c_in _ _ _) fun _ => ?_
  simp (config := { maxSteps := 4000000 }) only [go_sem, simprocAttr, ↓dnA, Try.f64]

structure Entry where
  key : Int
  value : Int
deriving DecidableEq, Inhabited

def encE (e : Entry) : List AV := [.int .i64 e.key, .int .i64 e.value]

structure Action where
  kind : Int
  fr : Int
  to : Int
  amount : Int
deriving DecidableEq, Inhabited

def encA (a : Action) : List AV := [.int .i64 a.kind, .int .i64 a.fr, .int .i64 a.to, .int .i64 a.amount]

/-- Entries are valid: their keys ascend from 'last' on, their values are at least 'least'. -/
def entOk (least : Int) : Int → List Entry → Bool
  | _, [] => true
  | last, e :: r => inB e.key (last + 1) 31 && inB e.value least 1000000 && entOk least e.key r

def storeValid (s : List Entry) : Bool := entOk 1 (-1) s

theorem c_impl_entriesValid (n1 : Option Bool) (xs : List Entry) (least : Int) (hx : xs.length < 2 ^ 62) : Det Try.prog 51 [.sl n1 (rows encE xs), .int .i64 least] (.bool (entOk least (-1) xs)) := by
  refine fspec_det tab_ok Try.call51 Try.func51 rfl 30 Try.ntmps51 (of_decide_eq_true rfl) fun B => codeK_sound tab_ok _ _ _ ?_
  simp (config := { maxSteps := 4000000 }) only [go_sem, simprocAttr, ↓dnA, Try.f51, rows_length]
  refine semL_for tab_ok (fun p : Nat × Int => ⟨30, [(1, .int .i64 least), (8, .sl n1 (rows encE xs)), (9, .int .i64 xs.length), (10, .int .i64 p.1), (5, .int .i64 p.2)], []⟩) (fun p => xs.length - p.1)
    (fun p => p.1 ≤ xs.length ∧ (-1 ≤ p.2 ∧ p.2 ≤ 31) ∧ entOk least p.2 (xs.drop p.1) = entOk least (-1) xs) (0, -1) [] (Weak.of rfl trivial ?_ rfl) ⟨by omega, by dsimp only; omega, rfl⟩ ?_
  · simp (config := { maxSteps := 4000000 }) only [go_sem, simprocAttr, ↓dnA, Try.f51, frW, wk2, wk1, wkL, wkB, hpW, List.mem_cons, Prod.mk.injEq, exists_eq_left, exists_eq_right, exists_eq]
  · rintro ⟨i, last⟩ ⟨hi, hl, hp⟩
    by_cases h : i < xs.length
    · have hw : IntKind.i64.wrap (last + 1) = last + 1 := wrap_small _ (by dsimp only at hl; omega) (by dsimp only at hl; omega)
      dsimp only at hp
      rw [drop_cons xs i h] at hp
      simp only [entOk] at hp
      simp (config := { maxSteps := 4000000 }) only [go_sem, simprocAttr, ↓dnA, Try.f51, rows_length, rows_get _ _ _ h, encE, nlt h, nn0, hw]
      refine CallTo.det (c_in _ _ _) fun _ => ?_
      cases h1 : inB xs[i].key (last + 1) 31 with
      | false =>
        rw [h1] at hp
        simp (config := { maxSteps := 4000000 }) only [go_sem, simprocAttr, ↓dnA, Try.f51, rows_length, rows_get _ _ _ h, encE, nlt h, nn0, hw, h1]
        rw [← hp]; rfl
      | true =>
        simp (config := { maxSteps := 4000000 }) only [go_sem, simprocAttr, ↓dnA, Try.f51, rows_length, rows_get _ _ _ h, encE, nlt h, nn0, hw, h1]
        refine CallTo.det (c_in _ _ _) fun _ => ?_
        cases h2 : inB xs[i].value least 1000000 with
        | false =>
          rw [h1, h2] at hp
          simp (config := { maxSteps := 4000000 }) only [go_sem, simprocAttr, ↓dnA, Try.f51, rows_length, rows_get _ _ _ h, encE, nlt h, nn0, hw, h1, h2]
          rw [← hp]; rfl
        | true =>
          rw [h1, h2] at hp
          simp (config := { maxSteps := 4000000 }) only [go_sem, simprocAttr, ↓dnA, Try.f51, rows_length, rows_get _ _ _ h, encE, nlt h, nn0, hw, h1, h2]
          have hk := inB_iff.1 h1
          refine ⟨(i + 1, xs[i].key), [], ⟨by dsimp only; omega, by dsimp only at hl ⊢; omega, hp⟩, by dsimp only; omega, Weak.of rfl trivial ?_ rfl⟩
          simp (config := { maxSteps := 4000000 }) only [go_sem, simprocAttr, ↓dnA, Try.f51, wsucc h hx, frW, wk2, wk1, wkL, wkB, hpW, List.mem_cons, Prod.mk.injEq, exists_eq_left, exists_eq_right, exists_eq]
    · have : i = xs.length := by dsimp only at hi; omega
      subst this
      simp only [List.drop_length] at hp
      simp (config := { maxSteps := 4000000 }) only [go_sem, simprocAttr, ↓dnA, Try.f51, nlf h]
      exact hp.symm

theorem c_impl_StoreValid (n1 : Option Bool) (xs : List Entry) (hx : xs.length < 2 ^ 62) : Det Try.prog 25 [.sl n1 (rows encE xs)] (.bool (storeValid xs)) := by
  refine fspec_det tab_ok Try.call25 Try.func25 rfl 5 Try.ntmps25 (of_decide_eq_true rfl) fun B => codeK_sound tab_ok _ _ _ ?_
  simp (config := { maxSteps := 4000000 }) only [go_sem, simprocAttr, ↓dnA, Try.f25]
  refine CallTo.det (c_impl_entriesValid _ _ _ hx) fun _ => ?_
  simp (config := { maxSteps := 4000000 }) only [go_sem, simprocAttr, ↓dnA, Try.f25]
  rfl

end Go.Proofs.Yteebkimhfaodnaa

/- Contracts: valid actions, stores by the reference, valid blocks. -/
set_option linter.unusedSimpArgs false
set_option linter.unusedVariables false
set_option maxRecDepth 20000
set_option maxHeartbeats 2000000
namespace Go.Proofs.Yteebkimhfaodnaa
open Go Go.RowKit

/-- An action's own kind fits. -/
def kindOk (a : Action) : Bool :=
  if a.kind == 1 || a.kind == 6 then a.to == 0 else if a.kind == 3 || a.kind == 4 || a.kind == 5 then a.amount == 0 else a.kind == 2

def actionValid (a : Action) : Bool := inB a.fr 0 31 && inB a.to 0 31 && inB a.amount 0 1000000 && kindOk a

theorem c_impl_ActionValid (a : Action) : Det Try.prog 54 [.agg (encA a)] (.bool (actionValid a)) := by
  refine fspec_det tab_ok Try.call54 Try.func54 rfl 37 Try.ntmps54 (of_decide_eq_true rfl) fun B => codeK_sound tab_ok _ _ _ ?_
  unfold encA
  simp (config := { maxSteps := 4000000 }) only [go_sem, simprocAttr, ↓dnA, Try.f54]
  refine CallTo.det (c_impl_isKey _) fun _ => ?_
  cases hc1 : inB a.fr 0 31
  · (try simp (config := { maxSteps := 4000000 }) only [go_sem, simprocAttr, ↓dnA, Try.f54, actionValid, hc1]) <;> (try rfl)
  (try simp (config := { maxSteps := 4000000 }) only [go_sem, simprocAttr, ↓dnA, Try.f54, actionValid, hc1]) <;> (try rfl)
  refine CallTo.det (c_impl_isKey _) fun _ => ?_
  cases hc2 : inB a.to 0 31
  · (try simp (config := { maxSteps := 4000000 }) only [go_sem, simprocAttr, ↓dnA, Try.f54, actionValid, hc1, hc2]) <;> (try rfl)
  (try simp (config := { maxSteps := 4000000 }) only [go_sem, simprocAttr, ↓dnA, Try.f54, actionValid, hc1, hc2]) <;> (try rfl)
  refine CallTo.det (c_impl_isValue _) fun _ => ?_
  cases hc3 : inB a.amount 0 1000000
  · (try simp (config := { maxSteps := 4000000 }) only [go_sem, simprocAttr, ↓dnA, Try.f54, actionValid, hc1, hc2, hc3]) <;> (try rfl)
  (try simp (config := { maxSteps := 4000000 }) only [go_sem, simprocAttr, ↓dnA, Try.f54, actionValid, hc1, hc2, hc3]) <;> (try rfl)
  by_cases k1 : a.kind = 1
  · simp [kindOk, k1]
  · by_cases k6 : a.kind = 6
    · simp [kindOk, k6]
    · by_cases k2 : a.kind = 2
      · simp [kindOk, k2]
      · by_cases k3 : a.kind = 3
        · simp [kindOk, k3]
        · by_cases k4 : a.kind = 4
          · simp [kindOk, k4]
          · by_cases k5 : a.kind = 5
            · simp [kindOk, k5]
            · simp [kindOk, k1, k2, k3, k4, k5, k6]

theorem c_spec_ActionValid (a : Action) : Det Try.prog 33 [.agg (encA a)] (.bool (actionValid a)) := by
  refine fspec_det tab_ok Try.call33 Try.func33 rfl 36 Try.ntmps33 (of_decide_eq_true rfl) fun B => codeK_sound tab_ok _ _ _ ?_
  unfold encA
  simp (config := { maxSteps := 4000000 }) only [go_sem, simprocAttr, ↓dnA, Try.f33]
  refine CallTo.det (c_l1In _ _ _) fun _ => ?_
  cases hc1 : inB a.fr 0 31
  · (try simp (config := { maxSteps := 4000000 }) only [go_sem, simprocAttr, ↓dnA, Try.f33, actionValid, hc1]) <;> (try rfl)
  (try simp (config := { maxSteps := 4000000 }) only [go_sem, simprocAttr, ↓dnA, Try.f33, actionValid, hc1]) <;> (try rfl)
  refine CallTo.det (c_l1In _ _ _) fun _ => ?_
  cases hc2 : inB a.to 0 31
  · (try simp (config := { maxSteps := 4000000 }) only [go_sem, simprocAttr, ↓dnA, Try.f33, actionValid, hc1, hc2]) <;> (try rfl)
  (try simp (config := { maxSteps := 4000000 }) only [go_sem, simprocAttr, ↓dnA, Try.f33, actionValid, hc1, hc2]) <;> (try rfl)
  refine CallTo.det (c_l1In _ _ _) fun _ => ?_
  cases hc3 : inB a.amount 0 1000000
  · (try simp (config := { maxSteps := 4000000 }) only [go_sem, simprocAttr, ↓dnA, Try.f33, actionValid, hc1, hc2, hc3]) <;> (try rfl)
  (try simp (config := { maxSteps := 4000000 }) only [go_sem, simprocAttr, ↓dnA, Try.f33, actionValid, hc1, hc2, hc3]) <;> (try rfl)
  by_cases k1 : a.kind = 1
  · simp [kindOk, k1]
  · by_cases k6 : a.kind = 6
    · simp [kindOk, k6]
    · by_cases k2 : a.kind = 2
      · simp [kindOk, k2]
      · by_cases k3 : a.kind = 3
        · simp [kindOk, k3]
        · by_cases k4 : a.kind = 4
          · simp [kindOk, k4]
          · by_cases k5 : a.kind = 5
            · simp [kindOk, k5]
            · simp [kindOk, k1, k2, k3, k4, k5, k6]

theorem c_slices_IndexFunc_Action (n1 : Option Bool) (xs : List Action) (k : FuncId) (p : Action → Bool) (hx : xs.length < 2 ^ 62) (hm : mutB k = false) (hp : ∀ x, x ∈ xs → Det Try.prog k [.agg (encA x)] (.bool (p x))) :
    Det Try.prog 84 [.sl n1 (rows encA xs), .fn k []] (.int .i64 (idxF p xs 0)) := by
  simp only [mutB] at hm
  refine fspec_det tab_ok Try.call84 Try.func84 rfl 19 Try.ntmps84 (of_decide_eq_true rfl) fun B => codeK_sound tab_ok _ _ _ ?_
  simp (config := { maxSteps := 4000000 }) only [go_sem, simprocAttr, ↓dnA, Try.f84, rows_length, hm]
  refine semL_for tab_ok (fun i : Nat => ⟨19, [(0, .sl n1 (rows encA xs)), (1, .fn k []), (7, .int .i64 xs.length), (8, .int .i64 i)], []⟩) (fun i => xs.length - i)
    (fun i => i ≤ xs.length ∧ idxF p (xs.drop i) i = idxF p xs 0) 0 [] (Weak.of rfl trivial ?_ rfl) ⟨by omega, rfl⟩ ?_
  · simp (config := { maxSteps := 4000000 }) only [go_sem, simprocAttr, ↓dnA, Try.f84, frW, wk2, wk1, wkL, wkB, hpW, List.mem_cons, Prod.mk.injEq, exists_eq_left, exists_eq_right, exists_eq]
  · rintro i ⟨hi, hp'⟩
    by_cases h : i < xs.length
    · simp (config := { maxSteps := 4000000 }) only [go_sem, simprocAttr, ↓dnA, Try.f84, rows_length, rows_get _ _ _ h, encA, nlt h, nn0, hm]
      refine CallTo.det (hp _ (List.getElem_mem h)) fun _ => ?_
      rw [drop_cons xs i h] at hp'
      simp (config := { maxSteps := 4000000 }) only [go_sem, simprocAttr, ↓dnA, Try.f84, rows_length, rows_get _ _ _ h, encA, nlt h, hm]
      refine ⟨fun h => ?_, fun h' => ?_⟩
      · rw [← hp']; simp [idxF, h]
      · refine ⟨i + 1, [], ⟨by omega, ?_⟩, by dsimp only; omega, Weak.of rfl trivial ?_ rfl⟩
        · rw [← hp']; simp [idxF, h']
        · simp (config := { maxSteps := 4000000 }) only [go_sem, simprocAttr, ↓dnA, Try.f84, wsucc h hx, frW, wk2, wk1, wkL, wkB, hpW, List.mem_cons, Prod.mk.injEq, exists_eq_left, exists_eq_right, exists_eq]
    · have : i = xs.length := by omega
      subst this
      rw [List.drop_length] at hp'
      simp (config := { maxSteps := 4000000 }) only [go_sem, simprocAttr, ↓dnA, Try.f84, nlf h, hm]
      rw [← hp']
      rfl

theorem c_slices_ContainsFunc_Action (n1 : Option Bool) (xs : List Action) (k : FuncId) (p : Action → Bool) (hx : xs.length < 2 ^ 62) (hm : mutB k = false) (hp : ∀ x, x ∈ xs → Det Try.prog k [.agg (encA x)] (.bool (p x))) :
    Det Try.prog 52 [.sl n1 (rows encA xs), .fn k []] (.bool (xs.any p)) := by
  refine fspec_det tab_ok Try.call52 Try.func52 rfl 9 Try.ntmps52 (of_decide_eq_true rfl) fun B => codeK_sound tab_ok _ _ _ ?_
  simp (config := { maxSteps := 4000000 }) only [go_sem, simprocAttr, ↓dnA, Try.f52]
  refine CallTo.det (c_slices_IndexFunc_Action _ _ _ _ hx hm hp) fun _ => ?_
  simp (config := { maxSteps := 4000000 }) only [go_sem, simprocAttr, ↓dnA, Try.f52, idxF_any]


theorem c_impl_ActionsValid1 (a : Action) : Det Try.prog 53 [.agg (encA a)] (.bool (!actionValid a)) := by
  refine fspec_det tab_ok Try.call53 Try.func53 rfl 6 Try.ntmps53 (of_decide_eq_true rfl) fun B => codeK_sound tab_ok _ _ _ ?_
  unfold encA
  simp (config := { maxSteps := 4000000 }) only [go_sem, simprocAttr, ↓dnA, Try.f53]
  refine CallTo.det (c_impl_ActionValid a) fun _ => ?_
  simp (config := { maxSteps := 4000000 }) only [go_sem, simprocAttr, ↓dnA, Try.f53]

def actionsValid (l : List Action) : Bool := decide (l.length ≤ 10) && l.all actionValid

theorem c_impl_ActionsValid (n1 : Option Bool) (xs : List Action) (hx : xs.length < 2 ^ 62) : Det Try.prog 26 [.sl n1 (rows encA xs)] (.bool (actionsValid xs)) := by
  have hc : Det Try.prog 52 [.sl n1 (rows encA xs), .fn 53 []] (.bool (!xs.all actionValid)) := by
    have := c_slices_ContainsFunc_Action n1 xs 53 (fun x => !actionValid x) hx rfl (fun x _ => c_impl_ActionsValid1 x)
    rwa [any_not] at this
  have he : decide ((xs.length : Int) ≤ 10) = decide (xs.length ≤ 10) := by simp; omega
  refine fspec_det tab_ok Try.call26 Try.func26 rfl 11 Try.ntmps26 (of_decide_eq_true rfl) fun B => codeK_sound tab_ok _ _ _ ?_
  cases h1 : decide (xs.length ≤ 10) with
  | false => simp (config := { maxSteps := 4000000 }) only [go_sem, simprocAttr, ↓dnA, Try.f26, rows_length, he, h1, actionsValid]
  | true =>
    simp (config := { maxSteps := 4000000 }) only [go_sem, simprocAttr, ↓dnA, Try.f26, rows_length, he, h1, actionsValid]
    refine CallTo.det hc fun _ => ?_
    simp (config := { maxSteps := 4000000 }) only [go_sem, simprocAttr, ↓dnA, Try.f26, rows_length, he, h1, actionsValid, Bool.not_not]

theorem c_spec_ActionsValid (n1 : Option Bool) (xs : List Action) (hx : xs.length < 2 ^ 62) : Det Try.prog 12 [.sl n1 (rows encA xs)] (.bool (actionsValid xs)) := by
  refine fspec_det tab_ok Try.call12 Try.func12 rfl 19 Try.ntmps12 (of_decide_eq_true rfl) fun B => codeK_sound tab_ok _ _ _ ?_
  simp (config := { maxSteps := 4000000 }) only [go_sem, simprocAttr, ↓dnA, Try.f12, rows_length]
  refine semL_for tab_ok (fun i : Nat => ⟨19, [(0, .sl n1 (rows encA xs)), (3, .int .i64 i)], []⟩) (fun i => xs.length - i)
    (fun i => i ≤ xs.length ∧ (xs.drop i).all actionValid = xs.all actionValid) 0 [] (Weak.of rfl trivial ?_ rfl) ⟨by omega, rfl⟩ ?_
  · simp (config := { maxSteps := 4000000 }) only [go_sem, simprocAttr, ↓dnA, Try.f12, frW, wk2, wk1, wkL, wkB, hpW, List.mem_cons, Prod.mk.injEq, exists_eq_left, exists_eq_right, exists_eq]
  · rintro i ⟨hi, hp⟩
    by_cases h : i < xs.length
    · rw [drop_cons xs i h, List.all_cons] at hp
      simp (config := { maxSteps := 4000000 }) only [go_sem, simprocAttr, ↓dnA, Try.f12, rows_length, rows_get _ _ _ h, encA, nlt h, nn0]
      refine CallTo.det (c_spec_ActionValid xs[i]) fun _ => ?_
      cases h1 : actionValid xs[i] with
      | false =>
        rw [h1, Bool.false_and] at hp
        simp (config := { maxSteps := 4000000 }) only [go_sem, simprocAttr, ↓dnA, Try.f12, rows_length, rows_get _ _ _ h, encA, nlt h, nn0, h1, actionsValid, ← hp]
      | true =>
        rw [h1, Bool.true_and] at hp
        simp (config := { maxSteps := 4000000 }) only [go_sem, simprocAttr, ↓dnA, Try.f12, rows_length, rows_get _ _ _ h, encA, nlt h, nn0, h1, wsucc h hx]
        refine ⟨i + 1, [], ⟨by omega, hp⟩, by dsimp only; omega, Weak.of rfl trivial ?_ rfl⟩
        simp (config := { maxSteps := 4000000 }) only [go_sem, simprocAttr, ↓dnA, Try.f12, frW, wk2, wk1, wkL, wkB, hpW, List.mem_cons, Prod.mk.injEq, exists_eq_left, exists_eq_right, exists_eq]
    · have : i = xs.length := by omega
      subst this
      simp only [List.drop_length, List.all_nil] at hp
      have he : decide ((xs.length : Int) ≤ 10) = decide (xs.length ≤ 10) := by simp; omega
      simp (config := { maxSteps := 4000000 }) only [go_sem, simprocAttr, ↓dnA, Try.f12, rows_length, nlf h, he, actionsValid, ← hp]

end Go.Proofs.Yteebkimhfaodnaa

/- Contracts: stores by the reference, valid blocks. -/
set_option linter.unusedSimpArgs false
set_option linter.unusedVariables false
set_option maxRecDepth 20000
set_option maxHeartbeats 2000000
namespace Go.Proofs.Yteebkimhfaodnaa
open Go Go.RowKit

theorem c_spec_StoreValid (n1 : Option Bool) (xs : List Entry) (hx : xs.length < 2 ^ 62) : Det Try.prog 11 [.sl n1 (rows encE xs)] (.bool (storeValid xs)) := by
  refine fspec_det tab_ok Try.call11 Try.func11 rfl 44 Try.ntmps11 (of_decide_eq_true rfl) fun B => codeK_sound tab_ok _ _ _ ?_
  simp (config := { maxSteps := 4000000 }) only [go_sem, simprocAttr, ↓dnA, Try.f11, rows_length]
  refine semL_for tab_ok (fun i : Nat => ⟨44, [(0, .sl n1 (rows encE xs)), (3, .int .i64 i)], []⟩) (fun i => xs.length - i)
    (fun i => i ≤ xs.length ∧ ∃ last : Int, -1 ≤ last ∧ (i = 0 → last = -1) ∧ (∀ j (h : j < xs.length), i = j + 1 → last = xs[j].key) ∧ entOk 1 last (xs.drop i) = storeValid xs) 0 [] (Weak.of rfl trivial ?_ rfl) ⟨by omega, -1, by omega, fun _ => rfl, fun j h hj => by omega, rfl⟩ ?_
  · simp (config := { maxSteps := 4000000 }) only [go_sem, simprocAttr, ↓dnA, Try.f11, frW, wk2, wk1, wkL, wkB, hpW, List.mem_cons, Prod.mk.injEq, exists_eq_left, exists_eq_right, exists_eq]
  · rintro i ⟨hi, last, hl, h0, hs, hp⟩
    by_cases h : i < xs.length
    · rw [drop_cons xs i h] at hp
      simp only [entOk] at hp
      simp (config := { maxSteps := 4000000 }) only [go_sem, simprocAttr, ↓dnA, Try.f11, rows_length, rows_get _ _ _ h, encE, nlt h, nn0]
      refine semL_draw tab_ok mixed_ rfl (ord := [(0, []), (1, []), (2, []), (3, []), (4, []), (5, []), (6, []), (7, []), (8, []), (9, []), (10, []), (11, []), (12, []), (13, []), (14, []), (15, []), (16, []), (17, []), (18, []), (19, []), (20, []), (21, []), (22, []), (23, []), (24, []), (25, []), (26, []), (27, []), (28, []), (29, []), (30, []), (31, []), (32, []), (33, [])]) (by dsimp only; decide +kernel) ?_
      simp (config := { maxSteps := 4000000 }) only [go_sem, simprocAttr, ↓dnA, Try.f11, rows_length, rows_get _ _ _ h, encE, nlt h, nn0]
      refine CallTo.det (c_l1In _ _ _) fun _ => ?_
      cases h1 : inB xs[i].key 0 31 with
      | false =>
        have h1' : inB xs[i].key (last + 1) 31 = false := by
          cases hc : inB xs[i].key (last + 1) 31 with
          | false => rfl
          | true => rw [inB_iff] at hc; rw [inB_iff.2 ⟨by omega, hc.2⟩] at h1; exact h1
        rw [h1', Bool.false_and, Bool.false_and] at hp
        simp (config := { maxSteps := 4000000 }) only [go_sem, simprocAttr, ↓dnA, Try.f11, rows_length, rows_get _ _ _ h, encE, nlt h, nn0, h1]
        exact hp.symm
      | true =>
        simp (config := { maxSteps := 4000000 }) only [go_sem, simprocAttr, ↓dnA, Try.f11, rows_length, rows_get _ _ _ h, encE, nlt h, nn0, h1]
        refine CallTo.det (c_l1In _ _ _) fun _ => ?_
        cases h2 : inB xs[i].value 1 1000000 with
        | false =>
          rw [h2, Bool.and_false, Bool.false_and] at hp
          simp (config := { maxSteps := 4000000 }) only [go_sem, simprocAttr, ↓dnA, Try.f11, rows_length, rows_get _ _ _ h, encE, nlt h, nn0, h1, h2]
          exact hp.symm
        | true =>
          rcases Nat.eq_zero_or_pos i with rfl | hpos
          · simp (config := { maxSteps := 4000000 }) only [go_sem, simprocAttr, ↓dnA, Try.f11, rows_length, rows_get _ _ _ h, encE, nlt h, nn0, h1, h2]
            have hl0 := h0 rfl
            have w1 : IntKind.i64.wrap 1 = 1 := by decide
            subst hl0
            rw [h2] at hp
            have h1' : inB (xs[0]'h).key (-1 + 1) 31 = true := h1
            rw [h1', Bool.true_and, Bool.true_and] at hp
            have hk := inB_iff.1 h1
            refine ⟨1, [], ⟨by omega, (xs[0]'h).key, by omega, fun hc => absurd hc (by omega), fun j hj e => ?_, hp⟩, by dsimp only; omega, Weak.of rfl trivial ?_ rfl⟩
            · obtain rfl : j = 0 := by omega
              rfl
            · simp (config := { maxSteps := 4000000 }) only [go_sem, simprocAttr, ↓dnA, Try.f11, w1, frW, wk2, wk1, wkL, wkB, hpW, List.mem_cons, Prod.mk.injEq, exists_eq_left, exists_eq_right, exists_eq]
          · obtain ⟨j, rfl⟩ : ∃ j, i = j + 1 := ⟨i - 1, by omega⟩
            have hw : IntKind.i64.wrap (((j + 1 : Nat) : Int) - 1) = (j : Int) := by rw [wrap_small _ (by omega) (by omega)]; omega
            have hj : j < xs.length := by omega
            have hg : decide (((j + 1 : Nat) : Int) > 0) = true := by simp
            have hls := hs j hj rfl
            simp (config := { maxSteps := 4000000 }) only [go_sem, simprocAttr, ↓dnA, Try.f11, rows_length, rows_get _ _ _ h, encE, nlt h, nn0, h1, h2, hw, rows_get _ _ _ hj, nlt hj, hg]
            have hk := inB_iff.1 h1
            cases h3 : decide (xs[j + 1].key ≤ xs[j].key) with
            | true =>
              have h1' : inB xs[j + 1].key (last + 1) 31 = false := by
                cases hc : inB xs[j + 1].key (last + 1) 31 with
                | false => rfl
                | true => rw [inB_iff] at hc; simp at h3; omega
              rw [h1', Bool.false_and, Bool.false_and] at hp
              exact ⟨fun _ => hp.symm, fun hc => by simp at hc⟩
            | false =>
              have h1' : inB xs[j + 1].key (last + 1) 31 = true := by rw [inB_iff]; simp at h3; omega
              rw [h1', h2, Bool.true_and, Bool.true_and] at hp
              simp only [Bool.false_eq_true, false_implies, true_implies, true_and, forall_const]
              refine ⟨j + 1 + 1, [], ⟨by omega, xs[j + 1].key, by omega, fun hc => absurd hc (by omega), fun j' hj' e => ?_, hp⟩, by dsimp only; omega, Weak.of rfl trivial ?_ rfl⟩
              · obtain rfl : j' = j + 1 := by omega
                rfl
              · simp (config := { maxSteps := 4000000 }) only [go_sem, simprocAttr, ↓dnA, Try.f11, wsucc h hx, frW, wk2, wk1, wkL, wkB, hpW, List.mem_cons, Prod.mk.injEq, exists_eq_left, exists_eq_right, exists_eq]
    · have : i = xs.length := by omega
      subst this
      simp only [List.drop_length] at hp
      simp (config := { maxSteps := 4000000 }) only [go_sem, simprocAttr, ↓dnA, Try.f11, rows_length, nlf h]
      exact hp.symm

end Go.Proofs.Yteebkimhfaodnaa

/- Contracts: valid blocks. -/
set_option linter.unusedSimpArgs false
set_option linter.unusedVariables false
set_option maxRecDepth 20000
set_option maxHeartbeats 2000000
namespace Go.Proofs.Yteebkimhfaodnaa
open Go Go.RowKit

structure Block where
  before : Int
  height : Int
  view : Int
  list : List Action
  root : Int
  effects : Int
deriving DecidableEq, Inhabited

def blockValid (b : Block) : Bool := inB b.before 0 1000002 && inB b.root 0 1000002 && inB b.effects 0 1000002 && inB b.height 0 100 && inB b.view 0 1000 && actionsValid b.list

end Go.Proofs.Yteebkimhfaodnaa

/- Contracts: sums of leaves and of nodes. -/
set_option linter.unusedSimpArgs false
set_option linter.unusedVariables false
set_option maxRecDepth 20000
set_option maxHeartbeats 2000000
namespace Go.Proofs.Yteebkimhfaodnaa
open Go Go.RowKit

/-- The sum of a leaf. -/
def leafSum (k v : Int) : Int := if inB k 0 31 && inB v 0 1000000 then sumI 18 [k, v] else -1

/-- The value of a key. -/
def valAt : List Entry → Int → Int
  | [], _ => 0
  | e :: r, k => if e.key = k then e.value else valAt r k

theorem c_spec_l2At (n1 : Option Bool) (xs : List Entry) (k : Int) (hx : xs.length < 2 ^ 62) : Det Try.prog 112 [.sl n1 (rows encE xs), .int .i64 k] (.int .i64 (valAt xs k)) := by
  refine fspec_det tab_ok Try.call112 Try.func112 rfl 24 Try.ntmps112 (of_decide_eq_true rfl) fun B => codeK_sound tab_ok _ _ _ ?_
  simp (config := { maxSteps := 4000000 }) only [go_sem, simprocAttr, ↓dnA, Try.f112, rows_length]
  refine semL_for tab_ok (fun i : Nat => ⟨24, [(0, .sl n1 (rows encE xs)), (1, .int .i64 k), (5, .int .i64 i)], []⟩) (fun i => xs.length - i)
    (fun i => i ≤ xs.length ∧ valAt (xs.drop i) k = valAt xs k) 0 [] (Weak.of rfl trivial ?_ rfl) ⟨by omega, rfl⟩ ?_
  · simp (config := { maxSteps := 4000000 }) only [go_sem, simprocAttr, ↓dnA, Try.f112, frW, wk2, wk1, wkL, wkB, hpW, List.mem_cons, Prod.mk.injEq, exists_eq_left, exists_eq_right, exists_eq]
  · rintro i ⟨hi, hp⟩
    by_cases h : i < xs.length
    · rw [drop_cons xs i h] at hp
      simp only [valAt] at hp
      simp (config := { maxSteps := 4000000 }) only [go_sem, simprocAttr, ↓dnA, Try.f112, rows_length, rows_get _ _ _ h, encE, nlt h, nn0]
      refine ⟨fun he => ?_, fun he => ?_⟩
      · rw [if_pos (by simpa using he)] at hp
        exact hp.symm
      · rw [if_neg (by simpa using he)] at hp
        refine ⟨i + 1, [], ⟨by omega, hp⟩, by dsimp only; omega, Weak.of rfl trivial ?_ rfl⟩
        simp (config := { maxSteps := 4000000 }) only [go_sem, simprocAttr, ↓dnA, Try.f112, wsucc h hx, frW, wk2, wk1, wkL, wkB, hpW, List.mem_cons, Prod.mk.injEq, exists_eq_left, exists_eq_right, exists_eq]
    · have : i = xs.length := by omega
      subst this
      simp only [List.drop_length] at hp
      simp (config := { maxSteps := 4000000 }) only [go_sem, simprocAttr, ↓dnA, Try.f112, rows_length, nlf h]
      exact hp.symm

end Go.Proofs.Yteebkimhfaodnaa

/- Contracts: roots. -/
set_option linter.unusedSimpArgs false
set_option linter.unusedVariables false
set_option maxRecDepth 20000
set_option maxHeartbeats 2000000
namespace Go.Proofs.Yteebkimhfaodnaa
open Go Go.RowKit

/-- The values of a function at 0..n-1. -/
def upto (f : Int → Int) (n : Nat) : List Int := (List.range n).map fun k : Nat => f (k : Int)

/-- The next level. -/
def pairUp : List Int → List Int
  | a :: b :: r => sumI 19 [a, b] :: pairUp r
  | _ => []

def upN : Nat → List Int → List Int
  | 0, l => l
  | n + 1, l => upN n (pairUp l)

/-- The sums of the leaves. -/
def leaves (xs : List Entry) : List Int := upto (fun k => leafSum k (valAt xs k)) 32

theorem rows_snoc {α : Type} (e : α → List AV) (xs : List α) (x : α) : rows e xs ++ [e x] = rows e (xs ++ [x]) := by simp [rows]
end Go.Proofs.Yteebkimhfaodnaa

/- Contracts: values of all keys, levels, roots. -/
set_option linter.unusedSimpArgs false
set_option linter.unusedVariables false
set_option maxRecDepth 20000
set_option maxHeartbeats 2000000
namespace Go.Proofs.Yteebkimhfaodnaa
open Go Go.RowKit

def cellsI (v : List Int) : List AV := v.map fun n => .int .i64 n
theorem cellsI_length (v : List Int) : (cellsI v).length = v.length := by simp [cellsI]

theorem cellsI_wk (ρ : List (Nat × Nat)) : ∀ v : List Int, wkL ρ (cellsI v) (cellsI v) = True
  | [] => by simp [cellsI, wkL]
  | n :: v => by
    have := cellsI_wk ρ v
    simp only [cellsI] at this
    simp [cellsI, wkL, wk1, this]
theorem cellsI_exp (s : AState) (fin : Bool) : ∀ (v : List Int) (K : List AV → List Nat → Prop), expL s fin (cellsI v) K = K (cellsI v) []
  | [], K => rfl
  | n :: v, K => by
    have := cellsI_exp s fin v
    show expL s fin (cellsI v) _ = _
    rw [this]; rfl
theorem cellsI_rw : ∀ v : List Int, rwL (cellsI v) (cellsI v) = True
  | [] => by simp [cellsI, rwL]
  | n :: v => by
    have := cellsI_rw v
    simp only [cellsI] at this
    simp [cellsI, rwL, rwC, this]
theorem cellsI_set (v : List Int) (i : Nat) (x : Int) : (cellsI v).set i (.int .i64 x) = cellsI (v.set i x) := by simp [cellsI, List.map_set]
theorem cellsI_one (v : List Int) : (cellsI v).all AV.one = true := by simp [cellsI, AV.one]
theorem cellsI_take (v : List Int) (n : Nat) (h : v.length = n) : (cellsI v).take n = cellsI v := by rw [List.take_of_length_le]; simp [cellsI, h]

theorem cellsI_impL : ∀ (v : List Int) (n : Nat), impL n (cellsI v) = cellsI v
  | [], _ => rfl
  | x :: v, n => by
    have := cellsI_impL v (n + 1)
    simp only [cellsI] at this
    simp [cellsI, impL, impC, this]
theorem cellsI_impLB : ∀ (v : List Int) (n : Nat), impLB n (cellsI v) = []
  | [], _ => rfl
  | x :: v, n => by
    have := cellsI_impLB v (n + 1)
    simp only [cellsI] at this
    simp [cellsI, impLB, impCB, this]

def zeros32 : List Int := List.replicate 32 0
theorem zeros32_cells : cellsI zeros32 = List.replicate 32 (.int .i64 0) := by simp [cellsI, zeros32]

def putV (v : List Int) (e : Entry) : List Int := v.set e.key.toNat e.value
def valuesL (xs : List Entry) : List Int := xs.foldl putV zeros32

theorem c_impl_valuesOf (n1 : Option Bool) (xs : List Entry) (hx : xs.length < 2 ^ 62) (hk : ∀ e, e ∈ xs → 0 ≤ e.key ∧ e.key ≤ 31) : Det Try.prog 93 [.sl n1 (rows encE xs)] (.agg (cellsI (valuesL xs))) := by
  refine fspec_det tab_ok Try.call93 Try.func93 rfl 19 Try.ntmps93 (of_decide_eq_true rfl) fun B => codeK_sound tab_ok _ _ _ ?_
  simp (config := { maxSteps := 4000000 }) only [go_sem, simprocAttr, ↓dnA, Try.f93, rows_length]
  refine semL_for tab_ok (fun p : Nat × List Int => ⟨19, [(2, .loc 2 0), (3, .loc 3 0), (6, .sl n1 (rows encE xs)), (7, .int .i64 xs.length), (8, .int .i64 p.1)], [(2, .var (cellsI zeros32)), (3, .var (cellsI p.2))]⟩) (fun p => xs.length - p.1)
    (fun p => p.1 ≤ xs.length ∧ p.2.length = 32 ∧ (xs.drop p.1).foldl putV p.2 = valuesL xs) (0, zeros32) [(2, 2), (3, 3)] (Weak.of rfl ?_ ?_ rfl) ⟨by omega, by simp [zeros32], rfl⟩ ?_
  · simp (config := { maxSteps := 4000000 }) only [go_sem, simprocAttr, ↓dnA, Try.f93, zeros32_cells, frW, wk2, wk1, wkL, wkB, hpW, List.mem_cons, Prod.mk.injEq, exists_eq_left, exists_eq_right, exists_eq]
  · simp (config := { maxSteps := 4000000 }) only [go_sem, simprocAttr, ↓dnA, Try.f93, frW, wk2, wk1, wkL, wkB, hpW, List.mem_cons, Prod.mk.injEq, exists_eq_left, exists_eq_right, exists_eq]
  · rintro ⟨i, v⟩ ⟨hi, hv, hp⟩
    dsimp only at hi hp hv
    have cl : (cellsI v).length = 32 := by rw [cellsI_length, hv]
    have cz : (cellsI zeros32).length = 32 := by rw [cellsI_length]; rfl
    by_cases h : i < xs.length
    · rw [drop_cons xs i h, List.foldl_cons] at hp
      have hb := hk _ (List.getElem_mem h)
      have hw : IntKind.i64.wrap ((i : Int) + 1) = ((i + 1 : Nat) : Int) := wsucc h hx
      simp (config := { maxSteps := 4000000 }) only [go_sem, simprocAttr, ↓dnA, Try.f93, rows_length, rows_get _ _ _ h, encE, nlt h, nn0, cl, cellsI_set, Nat.mul_one, show ¬ (1 = 32) by decide]
      refine ⟨⟨by omega, by omega⟩, by omega, (i + 1, putV v xs[i]), [(2, 2), (3, 3)], ⟨by dsimp only; omega, by simp [putV, hv], hp⟩, by dsimp only; omega, Weak.of (by rfl) ?_ ?_ (by rfl)⟩
      · simp (config := { maxSteps := 4000000 }) only [go_sem, simprocAttr, ↓dnA, Try.f93, cellsI_wk, putV, frW, wk2, wk1, wkL, wkB, hpW, List.mem_cons, Prod.mk.injEq, exists_eq_left, exists_eq_right, exists_eq]
      · simp (config := { maxSteps := 4000000 }) only [go_sem, simprocAttr, ↓dnA, Try.f93, hw, frW, wk2, wk1, wkL, wkB, hpW, List.mem_cons, Prod.mk.injEq, exists_eq_left, exists_eq_right, exists_eq]
    · have : i = xs.length := by omega
      subst this
      simp only [List.drop_length, List.foldl_nil] at hp
      subst hp
      simp (config := { maxSteps := 4000000 }) only [go_sem, simprocAttr, ↓dnA, Try.f93, nlf h, cl, cz, cellsI_take _ 32 hv, cellsI_one, cellsI_exp, cellsI_rw]

theorem foldl_putV (xs : List Entry) (v : List Int) (k : Nat) (hv : v.length = 32) (hk : k < 32) (ha : ∀ e, e ∈ xs → 0 ≤ e.key) (hd : (xs.map Entry.key).Nodup) :
    ((xs.foldl putV v).length = 32) ∧ (xs.foldl putV v).getD k 0 = if (k : Int) ∈ xs.map Entry.key then valAt xs k else v.getD k 0 := by
  induction xs generalizing v with
  | nil => exact ⟨hv, by simp⟩
  | cons e r ih =>
    have h0 : 0 ≤ e.key := ha e (by simp)
    rw [List.map_cons, List.nodup_cons] at hd
    have hv' : (putV v e).length = 32 := by simp [putV, hv]
    obtain ⟨h1, h2⟩ := ih (putV v e) hv' (fun x hx => ha x (List.mem_cons_of_mem _ hx)) hd.2
    refine ⟨h1, ?_⟩
    rw [List.foldl_cons, h2]
    simp only [List.map_cons, List.mem_cons]
    rw [show valAt (e :: r) k = if e.key = (k : Int) then e.value else valAt r k from rfl]
    by_cases he : e.key = (k : Int)
    · have : ¬ (k : Int) ∈ r.map Entry.key := by rw [← he]; exact hd.1
      rw [if_neg this, if_pos (.inl he.symm), if_pos he]
      have hkt : e.key.toNat = k := by omega
      simp [putV, List.getD_eq_getElem?_getD, hkt, hv, hk]
    · rw [if_neg he]
      have hkt : e.key.toNat ≠ k := by omega
      have : (putV v e).getD k 0 = v.getD k 0 := by simp [putV, List.getD_eq_getElem?_getD, hkt]
      rw [this]
      have he' : ¬ (k : Int) = e.key := fun h => he h.symm
      simp only [he', false_or]

/-- Keys of a store. -/
theorem entOk_spec (least : Int) : ∀ (xs : List Entry) (last : Int), entOk least last xs = true → (∀ e, e ∈ xs → last < e.key ∧ e.key ≤ 31 ∧ least ≤ e.value ∧ e.value ≤ 1000000) ∧ (xs.map Entry.key).Nodup
  | [], _, _ => ⟨fun e he => (by cases he), by simp⟩
  | e :: r, last, h => by
    simp only [entOk, Bool.and_eq_true] at h
    obtain ⟨⟨h1, h2⟩, h3⟩ := h
    have h1 := inB_iff.1 h1
    have h2 := inB_iff.1 h2
    obtain ⟨h4, h5⟩ := entOk_spec least r _ h3
    refine ⟨fun x hx => ?_, ?_⟩
    · rcases List.mem_cons.1 hx with rfl | hx
      · omega
      · have := h4 x hx; omega
    · rw [List.map_cons, List.nodup_cons]
      refine ⟨fun hm => ?_, h5⟩
      obtain ⟨x, hx, e'⟩ := List.mem_map.1 hm
      have := h4 x hx; omega

theorem valAt_bd {xs : List Entry} (h : ∀ e, e ∈ xs → 0 ≤ e.value ∧ e.value ≤ 1000000) (k : Int) : 0 ≤ valAt xs k ∧ valAt xs k ≤ 1000000 := by
  induction xs with
  | nil => simp [valAt]
  | cons e r ih =>
    unfold valAt
    split
    · exact h e (by simp)
    · exact ih fun x hx => h x (List.mem_cons_of_mem _ hx)

theorem valAt_none {xs : List Entry} {k : Int} (h : ¬ k ∈ xs.map Entry.key) : valAt xs k = 0 := by
  induction xs with
  | nil => rfl
  | cons e r ih =>
    simp only [List.map_cons, List.mem_cons, not_or] at h
    unfold valAt
    rw [if_neg (fun e => h.1 e.symm)]
    exact ih h.2

/-- The values of a store, one by one. -/
theorem valuesL_get {xs : List Entry} (h : storeValid xs = true) (k : Nat) (hk : k < 32) : (valuesL xs).length = 32 ∧ (valuesL xs).getD k 0 = valAt xs k := by
  obtain ⟨h1, h2⟩ := entOk_spec 1 xs (-1) h
  obtain ⟨h3, h4⟩ := foldl_putV xs zeros32 k rfl hk (fun e he => by have := h1 e he; omega) h2
  refine ⟨h3, ?_⟩
  unfold valuesL
  rw [h4]
  split
  · rfl
  · rename_i hm
    rw [valAt_none hm]
    simp only [zeros32, List.getD_eq_getElem?_getD, List.getElem?_replicate, hk, if_true, Option.getD_some]

end Go.Proofs.Yteebkimhfaodnaa

/- Contracts: levels, roots. -/
set_option linter.unusedSimpArgs false
set_option linter.unusedVariables false
set_option maxRecDepth 20000
set_option maxHeartbeats 2000000
namespace Go.Proofs.Yteebkimhfaodnaa
open Go Go.RowKit

/-- The root of a store. -/
def rootOf (xs : List Entry) : Int := if storeValid xs then (upN 5 (leaves xs)).getD 0 0 else -1

theorem cellsI_get (v : List Int) (i : Nat) (d : AV) (h : i < v.length) : (cellsI v).getD i d = .int .i64 (v.getD i 0) := by
  simp [cellsI, List.getD_eq_getElem?_getD, h]

end Go.Proofs.Yteebkimhfaodnaa

/- Contracts: sums of blocks. -/
set_option linter.unusedSimpArgs false
set_option linter.unusedVariables false
set_option maxRecDepth 20000
set_option maxHeartbeats 2000000
namespace Go.Proofs.Yteebkimhfaodnaa
open Go Go.RowKit

def actNums (a : Action) : List Int := [a.kind, a.fr, a.to, a.amount]
def headNums (b : Block) : List Int := [b.before, b.height, b.view, b.list.length]
def blockNums (b : Block) : List Int := headNums b ++ b.list.flatMap actNums ++ [b.root, b.effects]
def blockSum (b : Block) : Int := if blockValid b then sumI 22 (blockNums b) else -1

theorem kindOk_bd {a : Action} (h : kindOk a = true) : 1 ≤ a.kind ∧ a.kind ≤ 6 := by
  unfold kindOk at h
  split at h
  · rename_i h1; simp at h1; omega
  · split at h
    · rename_i h1; simp at h1; omega
    · simp at h; omega

end Go.Proofs.Yteebkimhfaodnaa

/- Contracts: first blocks, equality of blocks. -/
set_option linter.unusedSimpArgs false
set_option linter.unusedVariables false
set_option maxRecDepth 20000
set_option maxHeartbeats 2000000
namespace Go.Proofs.Yteebkimhfaodnaa
open Go Go.RowKit

/-- The first block over a store. -/
def firstBlock (s : List Entry) : Block := if storeValid s then ⟨0, 0, 0, [], rootOf s, 21⟩ else ⟨0, 0, 0, [], 0, 0⟩

end Go.Proofs.Yteebkimhfaodnaa

/- Contracts: equality of blocks, numbers in lists, blocks by their sums. -/
set_option linter.unusedSimpArgs false
set_option linter.unusedVariables false
set_option maxRecDepth 20000
set_option maxHeartbeats 2000000
namespace Go.Proofs.Yteebkimhfaodnaa
open Go Go.RowKit

theorem take_snoc {α : Type} (xs : List α) (i : Nat) (h : i < xs.length) : xs.take (i + 1) = xs.take i ++ [xs[i]] := (List.take_append_getElem h).symm

/-- Comparing lists one by one: what is behind i decides. -/
theorem eq_drop {α : Type} [DecidableEq α] (xs ys : List α) (i : Nat) (hl : xs.length = ys.length) (h : i < xs.length) :
    decide (xs.drop i = ys.drop i) = (decide (xs[i] = ys[i]'(by omega)) && decide (xs.drop (i + 1) = ys.drop (i + 1))) := by
  rw [drop_cons xs i h, drop_cons ys i (by omega), ← Bool.decide_and]
  exact decide_eq_decide.2 (by rw [List.cons.injEq])

end Go.Proofs.Yteebkimhfaodnaa

/- Contracts: equality of blocks. -/
set_option linter.unusedSimpArgs false
set_option linter.unusedVariables false
set_option maxRecDepth 20000
set_option maxHeartbeats 2000000
namespace Go.Proofs.Yteebkimhfaodnaa
open Go Go.RowKit

end Go.Proofs.Yteebkimhfaodnaa

/- Contracts: blocks by their sums. -/
set_option linter.unusedSimpArgs false
set_option linter.unusedVariables false
set_option maxRecDepth 20000
set_option maxHeartbeats 2000000
namespace Go.Proofs.Yteebkimhfaodnaa
open Go Go.RowKit

structure Tree where
  base : List Entry
  blocks : List Block
  before : List Int
deriving DecidableEq, Inhabited

/-- Sizes that fit. -/
structure TreeSz (t : Tree) : Prop where
  base : t.base.length < 2 ^ 62
  blocks : t.blocks.length < 2 ^ 62
  before : t.before.length < 2 ^ 62
  list : ∀ b, b ∈ t.blocks → b.list.length < 2 ^ 62

end Go.Proofs.Yteebkimhfaodnaa

/- Contracts: valid trees of blocks. -/
set_option linter.unusedSimpArgs false
set_option linter.unusedVariables false
set_option maxRecDepth 20000
set_option maxHeartbeats 4000000
namespace Go.Proofs.Yteebkimhfaodnaa
open Go Go.RowKit

def Tree.blk (t : Tree) (i : Nat) : Block := t.blocks.getD i default
def Tree.bef (t : Tree) (i : Nat) : Int := t.before.getD i 0

/-- The block k is behind the one that it names. -/
structure Link (t : Tree) (k : Nat) : Prop where
  lo : 0 ≤ t.bef k
  hi : t.bef k < k
  sum : blockSum (t.blk (t.bef k).toNat) = (t.blk k).before
  height : (t.blk (t.bef k).toNat).height + 1 = (t.blk k).height
  view : (t.blk (t.bef k).toNat).view < (t.blk k).view

/-- Valid trees. -/
structure TreeOk (t : Tree) : Prop where
  store : storeValid t.base = true
  len : 1 ≤ t.blocks.length ∧ t.blocks.length ≤ 14
  bef : t.before.length = t.blocks.length
  first : t.blk 0 = firstBlock t.base
  bef0 : t.bef 0 = -1
  valid : ∀ i, i < t.blocks.length → blockValid (t.blk i) = true
  dist : ∀ i j, i < j → j < t.blocks.length → blockSum (t.blk i) ≠ blockSum (t.blk j)
  link : ∀ k, 0 < k → k < t.blocks.length → Link t k

/-- What is known of a tree before its blocks are looked at one by one. -/
structure TreePre (t : Tree) : Prop where
  store : storeValid t.base = true
  len : 1 ≤ t.blocks.length ∧ t.blocks.length ≤ 14
  bef : t.before.length = t.blocks.length
  first : t.blk 0 = firstBlock t.base
  bef0 : t.bef 0 = -1

/-- What is known of a tree when its first i blocks have been looked at. -/
structure TreeTo (t : Tree) (i : Nat) : Prop where
  valid : ∀ k, k < i → blockValid (t.blk k) = true
  dist : ∀ j k, j < k → k < i → blockSum (t.blk j) ≠ blockSum (t.blk k)
  link : ∀ k, 0 < k → k < i → Link t k

theorem TreePre.ok {t : Tree} (h : TreePre t) (h' : TreeTo t t.blocks.length) : TreeOk t :=
  ⟨h.store, h.len, h.bef, h.first, h.bef0, h'.valid, h'.dist, h'.link⟩

end Go.Proofs.Yteebkimhfaodnaa

/- Contracts: valid trees of blocks, by the reference. -/
set_option linter.unusedSimpArgs false
set_option linter.unusedVariables false
set_option maxRecDepth 20000
set_option maxHeartbeats 4000000
namespace Go.Proofs.Yteebkimhfaodnaa
open Go Go.RowKit

end Go.Proofs.Yteebkimhfaodnaa

/- Contracts: votes. -/
set_option linter.unusedSimpArgs false
set_option linter.unusedVariables false
set_option maxRecDepth 20000
set_option maxHeartbeats 4000000
namespace Go.Proofs.Yteebkimhfaodnaa
open Go Go.RowKit

end Go.Proofs.Yteebkimhfaodnaa

/- Contracts: the laws' copies. -/
set_option linter.unusedSimpArgs false
set_option linter.unusedVariables false
set_option maxRecDepth 20000
set_option maxHeartbeats 4000000
namespace Go.Proofs.Yteebkimhfaodnaa
open Go Go.RowKit

/-- How much the actions of blocks are. -/
def lsum : List Block → Nat
  | [] => 0
  | b :: r => b.list.length + lsum r

theorem lsum_mem : ∀ (bs : List Block) (b : Block), b ∈ bs → b.list.length ≤ lsum bs
  | [], b, h => by cases h
  | c :: r, b, h => by
    unfold lsum
    rcases List.mem_cons.1 h with rfl | h
    · omega
    · have := lsum_mem r b h; omega

/-- How much a tree is. -/
def tsz (t : Tree) : Nat := t.base.length + (t.blocks.length + lsum t.blocks) + t.before.length

/-- Sizes of a law's tree. -/
structure TreeS32 (t : Tree) : Prop where
  sum : tsz t ≤ 1048576
theorem TreeS32.base {t : Tree} (h : TreeS32 t) : t.base.length < 2 ^ 32 := by have := h.sum; unfold tsz at this; omega
theorem TreeS32.blocks {t : Tree} (h : TreeS32 t) : t.blocks.length < 2 ^ 32 := by have := h.sum; unfold tsz at this; omega
theorem TreeS32.before {t : Tree} (h : TreeS32 t) : t.before.length < 2 ^ 32 := by have := h.sum; unfold tsz at this; omega
theorem TreeS32.list {t : Tree} (h : TreeS32 t) : ∀ b, b ∈ t.blocks → b.list.length < 2 ^ 32 := fun b hb => by have := h.sum; have := lsum_mem t.blocks b hb; unfold tsz at *; omega
theorem TreeS32.sz {t : Tree} (h : TreeS32 t) : TreeSz t := ⟨by have := h.base; omega, by have := h.blocks; omega, by have := h.before; omega, fun b hb => by have := h.list b hb; omega⟩

end Go.Proofs.Yteebkimhfaodnaa

/- Contracts: the laws' sizes and tests. -/
set_option linter.unusedSimpArgs false
set_option linter.unusedVariables false
set_option maxRecDepth 20000
set_option maxHeartbeats 4000000
namespace Go.Proofs.Yteebkimhfaodnaa
open Go Go.RowKit

end Go.Proofs.Yteebkimhfaodnaa

/- Contracts: the laws' tests. -/
set_option linter.unusedSimpArgs false
set_option linter.unusedVariables false
set_option maxRecDepth 20000
set_option maxHeartbeats 4000000
namespace Go.Proofs.Yteebkimhfaodnaa
open Go Go.RowKit

end Go.Proofs.Yteebkimhfaodnaa

/- Arguments of the laws, by their types. -/
set_option linter.unusedSimpArgs false
namespace Go.Proofs.Yteebkimhfaodnaa
open Go Go.ChangeShapes Go.WideShapes Go.ChangeAt Go.RowKit

theorem own_ : ownKnob Try.prog.godebug = none := by kernel_rfl
theorem laidOut_ : laidOutB Try.prog = true := by kernel_rfl

/-- The cells of one value read as the cells of a datum. -/
def Leqs (r c : List AV) : Prop := r.length = c.length ∧ ∀ (j : Nat) (_ : j < c.length), Leq (r.getD j .top) (c.getD j .top)
theorem Leqs.refl (c : List AV) : Leqs c c := ⟨rfl, fun _ _ => Leq.refl _⟩
theorem Leqs.agg {r c : List AV} (h : Leqs r c) : Leq (.agg r) (.agg c) := Leq.agg h.1 h.2

theorem Leqs.cons {a b : AV} {r c : List AV} (h : Leq a b) (h' : Leqs r c) : Leqs (a :: r) (b :: c) := by
  refine ⟨by simp [h'.1], fun j hj => ?_⟩
  cases j with
  | zero => exact h
  | succ j => exact h'.2 j (by simpa using hj)

theorem Leqs.one {r : List AV} {b : AV} (h : Leqs r [b]) : ∃ a, r = [a] ∧ Leq a b := by
  obtain ⟨h1, h2⟩ := h
  match r, h1 with
  | [a], _ => exact ⟨a, rfl, h2 0 (by simp)⟩

end Go.Proofs.Yteebkimhfaodnaa

/- Arguments of the laws, by their types: slices of entries, of actions. -/
set_option linter.unusedSimpArgs false
namespace Go.Proofs.Yteebkimhfaodnaa
open Go Go.RowKit

end Go.Proofs.Yteebkimhfaodnaa

/- Arguments of the laws, by their types: blocks. -/
set_option linter.unusedSimpArgs false
namespace Go.Proofs.Yteebkimhfaodnaa
open Go Go.RowKit

end Go.Proofs.Yteebkimhfaodnaa

/- Arguments of the laws, by their types: codes. -/
set_option linter.unusedSimpArgs false
namespace Go.Proofs.Yteebkimhfaodnaa
open Go Go.RowKit

/-- A slice of elements that read as data. -/
theorem ty_rowsC {α : Type} (e : α → List AV) {et : TypeId} {es : List (List AV)} (h : ∀ (j : Nat) (_ : j < es.length), Ty tab et (es.getD j [])) (hx : ∀ r, Ty tab et r → ∃ x, r.length = (e x).length ∧ ∀ (j : Nat) (_ : j < (e x).length), Leq (r.getD j .top) ((e x).getD j .top)) :
    ∃ xs : List α, es.length = xs.length ∧ ∀ nn, Leq (.sl nn es) (.sl nn (rows e xs)) := by
  have key : ∃ xs : List α, es.length = xs.length ∧ ∀ (i : Nat) (hi : i < xs.length), (es.getD i []).length = (e (xs[i]'hi)).length ∧ ∀ (j : Nat) (_ : j < (e (xs[i]'hi)).length), Leq ((es.getD i []).getD j .top) ((e (xs[i]'hi)).getD j .top) := by
    induction es with
    | nil => exact ⟨[], rfl, fun i hi => absurd hi (by simp)⟩
    | cons r rs ih =>
      obtain ⟨x, hx1, hx2⟩ := hx r (h 0 (by simp))
      obtain ⟨xs, h1, h2⟩ := ih (fun j hj => h (j + 1) (by simpa using hj))
      refine ⟨x :: xs, by simp [h1], fun i hi => ?_⟩
      cases i with
      | zero => exact ⟨hx1, hx2⟩
      | succ i => exact h2 i (by simpa using hi)
  obtain ⟨xs, h1, h2⟩ := key
  refine ⟨xs, h1, fun nn => Leq.sl (by rw [rows_length, h1]) (fun i hi => ?_) (fun i j hi hj => ?_)⟩
  · rw [rows_length] at hi
    rw [rows_get _ _ _ hi]
    exact (h2 i hi).1
  · rw [rows_length] at hi
    rw [rows_get _ _ _ hi] at hj ⊢
    exact (h2 i hi).2 j hj

theorem ty_code {a : AV} (h : TyArg tab 22 a) : ∃ nb bs, Leq a (.sl nb (rows encB bs)) ∧ ∀ b, b ∈ bs → 0 ≤ b ∧ b ≤ 255 := by
  obtain ⟨nn, es, e1, _, _, he⟩ := (h.one_inv tabAt_22 rfl).slice_inv tabAt_22 rfl
  have hx : ∀ r, Ty tab 5 r → ∃ x : { n : Int // 0 ≤ n ∧ n ≤ 255 }, r.length = (encB x.1).length ∧ ∀ (j : Nat) (_ : j < (encB x.1).length), Leq (r.getD j .top) ((encB x.1).getD j .top) := by
    intro r hr
    obtain ⟨n, e, hn⟩ := hr.int_inv tabAt_5 rfl
    have hn' : 0 ≤ n ∧ n ≤ 255 := hn
    exact ⟨⟨n, hn'⟩, by rw [e]; rfl, fun j _ => by rw [e]; exact Leq.refl _⟩
  obtain ⟨xs, h1, h2⟩ := ty_rowsC (fun x : { n : Int // 0 ≤ n ∧ n ≤ 255 } => encB x.1) he hx
  have ea : a = .sl (some nn) es := by simpa using e1
  refine ⟨some nn, xs.map (·.1), ?_, fun b hb => ?_⟩
  · rw [ea]
    have := h2 (some nn)
    have e3 : rows (fun x : { n : Int // 0 ≤ n ∧ n ≤ 255 } => encB x.1) xs = rows encB (xs.map (·.1)) := by simp [rows]
    rwa [e3] at this
  · obtain ⟨x, _, rfl⟩ := List.mem_map.1 hb
    exact x.2

/-- A law of a code. -/
theorem law_code {k : FuncId} (h : ∀ nb bs, (∀ b, b ∈ bs → 0 ≤ b ∧ b ≤ 255) → Det Try.prog k [.sl nb (rows encB bs)] (.bool true)) {cs : List AV} (hc : TyArgs tab [22] cs) : Det Try.prog k cs (.bool true) := by
  match cs, hc with
  | [a], hc =>
    obtain ⟨nb, bs, h1, h2⟩ := ty_code hc.1
    refine FSpec.args (h nb bs h2) rfl fun i hi => ?_
    have : i = 0 := by simp at hi; exact hi
    subst this
    exact h1

end Go.Proofs.Yteebkimhfaodnaa

/- Contracts: engines, and their copies. -/
set_option linter.unusedSimpArgs false
set_option linter.unusedVariables false
set_option maxRecDepth 20000
set_option maxHeartbeats 4000000
namespace Go.Proofs.Yteebkimhfaodnaa
open Go Go.RowKit

theorem semL_nilVA {P : Program} {B : Base} {c : Code} {s : AState} {Kx : Exit → AState → Prop} (vid j id sz : Nat) (own : Bool) {cs : List AV} (h0 : s.blk vid = .var cs) (hj : j < cs.length) (h1 : cs.getD j .top = .sl (some false) []) (h2 : s.blk id = .none) (h3 : nF id) (h4 : 0 < sz)
    (h : @SemL P B c { s with hp := (vid, .var (cs.set j (.row id 0))) :: (id, .row own false sz []) :: s.hp } ⟨Kx⟩) : @SemL P B c s ⟨Kx⟩ := @semL_nilV _ _ _ _ ⟨Kx⟩ vid j id sz own _ h0 hj h1 h2 h3 h4 h

structure Version where
  key : Int
  by_ : Int
  value : Int
deriving DecidableEq, Inhabited
def encR (v : Version) : List AV := [.int .i64 v.key, .int .i64 v.by_, .int .i64 v.value]

structure Effect where
  done : Bool
  reads : List Entry
  writes : List Entry
deriving DecidableEq, Inhabited
def encF (n1 n2 : Option Bool) (e : Effect) : List AV := [.bool e.done, .sl n1 (rows encE e.reads), .sl n2 (rows encE e.writes)]

structure Slot where
  stage : Int
  tries : Int
  fr : List Int
  res : Effect
deriving DecidableEq, Inhabited
def encS (n1 n2 n3 : Option Bool) (s : Slot) : List AV := [.int .i64 s.stage, .int .i64 s.tries, .sl n1 (rows encI s.fr), .bool s.res.done, .sl n2 (rows encE s.res.reads), .sl n3 (rows encE s.res.writes)]
def encS1 (s : Slot) : List AV := encS none none none s

structure Engine where
  base : List Entry
  list : List Action
  versions : List Version
  slots : List Slot
deriving DecidableEq, Inhabited
def encG (n1 n2 n3 n4 : Option Bool) (e : Engine) : List AV := [.sl n1 (rows encE e.base), .sl n2 (rows encA e.list), .sl n3 (rows encR e.versions), .sl n4 (rows encS1 e.slots)]
def encGF (e : Engine) : List AV := [.osl false 2 (rows encE e.base), .osl false 4 (rows encA e.list), .osl false 3 (rows encR e.versions), .osl false 6 (rows encS1 e.slots)]

/-- The sizes of a slot's lists. -/
structure SlotSz (n : Nat) (s : Slot) : Prop where
  fr : s.fr.length < n
  reads : s.res.reads.length < n
  writes : s.res.writes.length < n
structure EngSz (n : Nat) (e : Engine) : Prop where
  base : e.base.length < n
  list : e.list.length < n
  versions : e.versions.length < n
  slots : e.slots.length < n
  each : ∀ s, s ∈ e.slots → SlotSz n s

section
variable {α : Type} (e : α → List AV)
theorem all_rows (p : AV → Bool) (h : ∀ x, (e x).all p = true) (xs : List α) : ((rows e xs).all fun r => r.all p) = true := by
  rw [List.all_eq_true]
  intro r hr
  obtain ⟨x, _, rfl⟩ := List.mem_map.1 hr
  exact h x
theorem sz0_rows (n : Nat) (h : ∀ x, (e x).length = n) (xs : List α) : xs.length = 0 ∨ ((rows e xs).getD 0 []).length = n := by
  cases xs with
  | nil => exact .inl rfl
  | cons x r => exact .inr (h x)
end

theorem c_impl_cloneEntries (n1 : Option Bool) (xs : List Entry) (hx : xs.length < 2 ^ 32) : Det Try.prog 55 [.sl n1 (rows encE xs)] (.osl false 2 (rows encE xs)) := by
  refine fspec_det tab_ok Try.call55 Try.func55 rfl 5 Try.ntmps55 (of_decide_eq_true rfl) fun B => codeK_sound tab_ok _ _ _ ?_
  have h1 := all_rows encE AV.flat (fun _ => rfl) xs
  have h2 := all_rows encE AV.one (fun _ => rfl) xs
  have h3 := sz0_rows encE 2 (fun _ => rfl) xs
  simp (config := { maxSteps := 4000000 }) only [go_sem, simprocAttr, ↓dnA, Try.f55, rows_length]
  repeat refine And.intro (by first | omega | (simp; done) | (simp; omega) | assumption) ?_
  omega

theorem c_impl_Effect_clone (n1 n2 : Option Bool) (e : Effect) (h1 : e.reads.length < 2 ^ 32) (h2 : e.writes.length < 2 ^ 32) : Det Try.prog 56 [.agg (encF n1 n2 e)] (.agg [.bool e.done, .osl false 2 (rows encE e.reads), .osl false 2 (rows encE e.writes)]) := by
  refine fspec_det tab_ok Try.call56 Try.func56 rfl 12 Try.ntmps56 (of_decide_eq_true rfl) fun B => codeK_sound tab_ok _ _ _ ?_
  simp (config := { maxSteps := 4000000 }) only [go_sem, simprocAttr, ↓dnA, Try.f56, rows_length, encF]
  refine semL_draw tab_ok mixed_ rfl (ord := [(0, []), (1, []), (2, []), (3, []), (5, []), (6, []), (4, [0, 1, 5, 6]), (7, [0, 1]), (8, []), (9, [])]) (by dsimp only; decide +kernel) ?_
  simp (config := { maxSteps := 4000000 }) only [go_sem, simprocAttr, ↓dnA, Try.f56, rows_length, encF]
  refine CallTo.det (c_impl_cloneEntries n1 e.reads h1) fun _ => ?_
  simp (config := { maxSteps := 4000000 }) only [go_sem, simprocAttr, ↓dnA, Try.f56, rows_length, encF]
  refine CallTo.det (c_impl_cloneEntries n2 e.writes h2) fun _ => ?_
  simp (config := { maxSteps := 4000000 }) only [go_sem, simprocAttr, ↓dnA, Try.f56, rows_length, encF]

theorem c_impl_Engine_clone (n1 n2 n3 n4 : Option Bool) (e : Engine) (hx : EngSz (2 ^ 32) e) : Det Try.prog 27 [.agg (encG n1 n2 n3 n4 e)] (.agg (encGF e)) := by
  refine fspec_det tab_ok Try.call27 Try.func27 rfl 41 Try.ntmps27 (of_decide_eq_true rfl) fun B => codeK_sound tab_ok _ _ _ ?_
  have a1 := all_rows encA AV.flat (fun _ => rfl) e.list
  have a2 := all_rows encA AV.one (fun _ => rfl) e.list
  have a3 := sz0_rows encA 4 (fun _ => rfl) e.list
  have r1 := all_rows encR AV.flat (fun _ => rfl) e.versions
  have r2 := all_rows encR AV.one (fun _ => rfl) e.versions
  have r3 := sz0_rows encR 3 (fun _ => rfl) e.versions
  have q1 := hx.list
  have q2 := hx.versions
  have q3 := hx.slots
  simp (config := { maxSteps := 4000000 }) only [go_sem, simprocAttr, ↓dnA, Try.f27, rows_length, encG]
  refine semL_draw tab_ok mixed_ rfl (ord := [(0, []), (1, []), (3, []), (4, []), (6, []), (7, []), (2, [3, 4, 6, 7]), (5, [6, 7]), (8, []), (9, []), (10, [0, 1, 3, 4, 6, 7, 9]), (11, [])]) (by dsimp only; decide +kernel) ?_
  simp (config := { maxSteps := 4000000 }) only [go_sem, simprocAttr, ↓dnA, Try.f27, rows_length, encG]
  refine CallTo.det (c_impl_cloneEntries n1 e.base hx.base) fun _ => ?_
  simp (config := { maxSteps := 4000000 }) only [go_sem, simprocAttr, ↓dnA, Try.f27, rows_length, encG]
  repeat refine And.intro (by first | omega | (simp; done) | (simp; omega) | assumption) ?_
  refine semL_nilVA 3 3 600 6 true (by rfl) (by simp) (by rfl) (by rfl) (by decide) (by decide) ?_
  refine semL_for tab_ok (fun i : Nat => ⟨41, [(2, .loc 2 0), (3, .loc 3 0), (17, .sl n4 (rows encS1 e.slots)), (18, .int .i64 e.slots.length), (19, .int .i64 i)],
      [(2, .var [.sl (some false) [], .sl (some false) [], .sl (some false) [], .sl (some false) []]), (3, .var [.row 9000 e.base.length, .row 11 e.list.length, .row 14 e.versions.length, .row 600 i]),
        (14, .row true false 3 (rows encR e.versions)), (11, .row true false 4 (rows encA e.list)), (9000, .row true false 2 (rows encE e.base)), (600, .row true false 6 (rows encS1 (e.slots.take i)))]⟩) (fun i => e.slots.length - i)
    (fun i => i ≤ e.slots.length) 0 [(2, 2), (3, 3), (14, 14), (11, 11), (9000, 9000), (600, 600)] (Weak.of (by rfl) ?_ ?_ (by rfl)) (by omega) ?_
  · simp (config := { maxSteps := 4000000 }) only [go_sem, simprocAttr, ↓dnA, Try.f27, rows_length, frW, wk2, wk1, wkL, wkB, hpW, List.mem_cons, Prod.mk.injEq, exists_eq_left, exists_eq_right, exists_eq]
    try rfl
  · simp (config := { maxSteps := 4000000 }) only [go_sem, simprocAttr, ↓dnA, Try.f27, rows_length, frW, wk2, wk1, wkL, wkB, hpW, List.mem_cons, Prod.mk.injEq, exists_eq_left, exists_eq_right, exists_eq]
  · rintro i hi
    by_cases h : i < e.slots.length
    · have hs := hx.each _ (List.getElem_mem h)
      have hs1 := hs.fr
      have i1 := all_rows encI AV.flat (fun _ => rfl) e.slots[i].fr
      have i2 := all_rows encI AV.one (fun _ => rfl) e.slots[i].fr
      have i3 := sz0_rows encI 1 (fun _ => rfl) e.slots[i].fr
      have htk : (rows encS1 (e.slots.take i)).take i = rows encS1 (e.slots.take i) := by
        rw [List.take_of_length_le]; rw [rows_length, List.length_take]; omega
      have hl : min i e.slots.length = i := by omega
      have hw : IntKind.i64.wrap ((i : Int) + 1) = ((i + 1 : Nat) : Int) := wsucc h (by omega)
      simp (config := { maxSteps := 4000000 }) only [go_sem, simprocAttr, ↓dnA, Try.f27, rows_length, nlt h, rows_get _ _ _ h, encS1, encS, nn0]
      refine semL_draw tab_ok mixed_ rfl (ord := [(0, []), (1, []), (2, []), (3, []), (4, []), (5, []), (6, []), (7, []), (9, []), (10, []), (8, [0, 1, 2, 3, 4, 5, 9, 10]), (11, [0, 1, 2, 3, 4, 5]), (12, []), (13, [0, 1]), (14, []), (15, []), (16, [])]) (by dsimp only; decide +kernel) ?_
      simp (config := { maxSteps := 4000000 }) only [go_sem, simprocAttr, ↓dnA, Try.f27, rows_length, List.length_take, hl, htk]
      repeat refine And.intro (by first | omega | (simp; done) | (simp; omega) | assumption) ?_
      refine CallTo.det (c_impl_Effect_clone none none e.slots[i].res hs.reads hs.writes) fun _ => ?_
      simp (config := { maxSteps := 4000000 }) only [go_sem, simprocAttr, ↓dnA, Try.f27, rows_length, List.length_take, hl, htk, hw]
      repeat refine And.intro (by first | omega | (simp; done) | (simp; omega) | assumption) ?_
      refine ⟨i + 1, [(2, 2), (3, 3), (14, 14), (11, 11), (9000, 9000), (37, 600)], by omega, by dsimp only; omega, Weak.of (by rfl) ?_ ?_ (by rfl)⟩
      · simp (config := { maxSteps := 4000000 }) only [go_sem, simprocAttr, ↓dnA, Try.f27, rows_length, frW, wk2, wk1, wkL, wkB, hpW, List.mem_cons, Prod.mk.injEq, exists_eq_left, exists_eq_right, exists_eq]
        rw [take_snoc _ _ h, ← rows_snoc]
        rfl
      · simp (config := { maxSteps := 4000000 }) only [go_sem, simprocAttr, ↓dnA, Try.f27, rows_length, frW, wk2, wk1, wkL, wkB, hpW, List.mem_cons, Prod.mk.injEq, exists_eq_left, exists_eq_right, exists_eq]
    · have hi' : i = e.slots.length := by omega
      subst hi'
      simp (config := { maxSteps := 4000000 }) only [go_sem, simprocAttr, ↓dnA, Try.f27, rows_length, nlf h, encGF, List.take_length]

def slot0 : Slot := ⟨0, 0, [], ⟨false, [], []⟩⟩
/-- The engine in which nothing has been tried. -/
def engineOf (s : List Entry) (l : List Action) : Engine := if storeValid s && actionsValid l then ⟨s, l, [], List.replicate l.length slot0⟩ else ⟨[], [], [], []⟩

theorem slot0_rows (n : Nat) : List.replicate n (encS1 slot0) = rows encS1 (List.replicate n slot0) := rows_replicate _ _ _

theorem c_impl_EngineOf (n1 n2 : Option Bool) (s : List Entry) (l : List Action) (hs : s.length < 2 ^ 32) (hl : l.length < 2 ^ 32) : Det Try.prog 8 [.sl n1 (rows encE s), .sl n2 (rows encA l)] (.agg (encGF (engineOf s l))) := by
  refine fspec_det tab_ok Try.call8 Try.func8 rfl 21 Try.ntmps8 (of_decide_eq_true rfl) fun B => codeK_sound tab_ok _ _ _ ?_
  unfold engineOf
  simp (config := { maxSteps := 4000000 }) only [go_sem, simprocAttr, ↓dnA, Try.f8, rows_length]
  refine CallTo.det (c_impl_StoreValid n1 s (by omega)) fun _ => ?_
  cases h1 : storeValid s with
  | false => simp (config := { maxSteps := 4000000 }) only [go_sem, simprocAttr, ↓dnA, Try.f8, rows_length, h1, encGF, rows_nil]
  | true =>
    simp (config := { maxSteps := 4000000 }) only [go_sem, simprocAttr, ↓dnA, Try.f8, rows_length, h1]
    refine CallTo.det (c_impl_ActionsValid n2 l (by omega)) fun _ => ?_
    cases h2 : actionsValid l with
    | false => simp (config := { maxSteps := 4000000 }) only [go_sem, simprocAttr, ↓dnA, Try.f8, rows_length, h1, h2, encGF, rows_nil]
    | true =>
      have h10 : l.length ≤ 10 := by
        unfold actionsValid at h2
        rw [Bool.and_eq_true] at h2
        exact of_decide_eq_true h2.1
      have hb : (0 ≤ (l.length : Int) ∧ (l.length : Int) ≤ 9223372036854775807) := by omega
      have hz : List.replicate l.length ([.int .i64 0, .int .i64 0, .sl none [], .bool false, .sl none [], .sl none []] : List AV) = rows encS1 (List.replicate l.length slot0) := slot0_rows _
      simp (config := { maxSteps := 4000000 }) only [go_sem, simprocAttr, ↓dnA, Try.f8, rows_length, h1, h2, hz]
      repeat refine And.intro (by first | omega | (simp; done) | (simp; omega) | assumption) ?_
      have hsz : EngSz (2 ^ 32) ⟨s, l, [], List.replicate l.length slot0⟩ := ⟨hs, hl, by simp, by simp; omega, fun x hx => by rw [List.eq_of_mem_replicate hx]; exact ⟨by decide, by decide, by decide⟩⟩
      refine CallTo.det (c_impl_Engine_clone n1 n2 (some false) (some true) ⟨s, l, [], List.replicate l.length slot0⟩ hsz) fun _ => ?_
      simp (config := { maxSteps := 4000000 }) only [go_sem, simprocAttr, ↓dnA, Try.f8, rows_length, encGF, h1, h2]

theorem c_spec_EngineOf (n1 n2 : Option Bool) (s : List Entry) (l : List Action) (hs : s.length < 2 ^ 32) (hl : l.length < 2 ^ 32) : Det Try.prog 10 [.sl n1 (rows encE s), .sl n2 (rows encA l)] (.agg (encGF (engineOf s l))) := by
  refine fspec_det tab_ok Try.call10 Try.func10 rfl 24 Try.ntmps10 (of_decide_eq_true rfl) fun B => codeK_sound tab_ok _ _ _ ?_
  unfold engineOf
  simp (config := { maxSteps := 4000000 }) only [go_sem, simprocAttr, ↓dnA, Try.f10, rows_length]
  refine CallTo.det (c_spec_StoreValid n1 s (by omega)) fun _ => ?_
  cases h1 : storeValid s with
  | false => simp (config := { maxSteps := 4000000 }) only [go_sem, simprocAttr, ↓dnA, Try.f10, rows_length, h1, encGF, rows_nil]
  | true =>
    simp (config := { maxSteps := 4000000 }) only [go_sem, simprocAttr, ↓dnA, Try.f10, rows_length, h1]
    refine CallTo.det (c_spec_ActionsValid n2 l (by omega)) fun _ => ?_
    cases h2 : actionsValid l with
    | false => simp (config := { maxSteps := 4000000 }) only [go_sem, simprocAttr, ↓dnA, Try.f10, rows_length, h1, h2, encGF, rows_nil]
    | true =>
      have h10 : l.length ≤ 10 := by
        unfold actionsValid at h2
        rw [Bool.and_eq_true] at h2
        exact of_decide_eq_true h2.1
      have hz : List.replicate l.length ([.int .i64 0, .int .i64 0, .sl none [], .bool false, .sl none [], .sl none []] : List AV) = rows encS1 (List.replicate l.length slot0) := slot0_rows _
      have e1 := all_rows encE AV.flat (fun _ => rfl) s
      have e2 := all_rows encE AV.one (fun _ => rfl) s
      have e3 := sz0_rows encE 2 (fun _ => rfl) s
      have a1 := all_rows encA AV.flat (fun _ => rfl) l
      have a2 := all_rows encA AV.one (fun _ => rfl) l
      have a3 := sz0_rows encA 4 (fun _ => rfl) l
      simp (config := { maxSteps := 4000000 }) only [go_sem, simprocAttr, ↓dnA, Try.f10, rows_length, h1, h2]
      refine semL_draw tab_ok mixed_ rfl (ord := [(1, []), (4, []), (6, []), (7, [8]), (0, [1, 4, 6, 7, 8]), (2, [4, 6, 7, 8]), (3, [1, 4, 6, 7, 8]), (5, [6, 7, 8]), (8, [1, 4]), (9, []), (10, [])]) (by dsimp only; decide +kernel) ?_
      simp (config := { maxSteps := 4000000 }) only [go_sem, simprocAttr, ↓dnA, Try.f10, rows_length, h1, h2, hz, encGF, rows_nil]
      repeat refine And.intro (by first | omega | (simp; done) | (simp; omega) | assumption) ?_
      simp


end Go.Proofs.Yteebkimhfaodnaa

/- Contracts: what actions read, write and do. -/
set_option linter.unusedSimpArgs false
set_option linter.unusedVariables false
set_option maxRecDepth 20000
set_option maxHeartbeats 4000000
namespace Go.Proofs.Yteebkimhfaodnaa
open Go Go.RowKit

section
variable {P : Program} {T : Tab} {B : Base} {ops : Array Oper}

theorem guardAt_addDep (b a j : Nat) : guardAt (addDep ops b a).toList j = guardAt ops.toList j := by
  unfold guardAt
  rw [Array.getElem?_toList, Array.getElem?_toList, addDep_get]
  by_cases h : j = b
  · rw [if_pos h]; cases ops[j]? <;> rfl
  · rw [if_neg h]

theorem stillStep_addDep (b a : Nat) (o : Oper) (s : AState) (Φ : AState → Prop) : stillStep T (addDep ops b a).toList o s Φ = stillStep T ops.toList o s Φ := by
  unfold stillStep
  simp only [guardAt_addDep]
theorem stepK_addDep (b a : Nat) (o : Oper) (s : AState) (Φ : AState → Prop) : stepK P T (addDep ops b a).toList o s Φ = stepK P T ops.toList o s Φ := by
  unfold stepK
  simp only [guardAt_addDep]

theorem recheck_addDep (b a : Nat) (s : AState) : ∀ re : List Nat, recheck T (addDep ops b a).toList s re = recheck T ops.toList s re
  | [] => rfl
  | x :: r => by
    unfold recheck
    rw [recheck_addDep b a s r, Array.getElem?_toList, Array.getElem?_toList, addDep_get]
    simp only [stillStep_addDep]
    by_cases h : x = b
    · rw [if_pos h]; cases ops[x]? <;> rfl
    · rw [if_neg h]

theorem drawK_addDep (b a : Nat) (Φ : AState → Prop) : ∀ (ord : List (Nat × List Nat)) (s : AState), drawK P T (addDep ops b a).toList Φ ord s = drawK P T ops.toList Φ ord s
  | [], s => rfl
  | (i, re) :: rest, s => by
    unfold drawK
    simp only [recheck_addDep, drawK_addDep b a Φ rest, Array.getElem?_toList, addDep_get, stillStep_addDep, stepK_addDep]
    by_cases h : i = b
    · rw [if_pos h]; cases ops[i]? <;> rfl
    · rw [if_neg h]

/-- As 'semL_two', the region's own operations in sight. -/
theorem semL_two' (hT : TabOk P T) {Kx : Exit → AState → Prop} {s : AState} {id n : Nat} (a b : Nat) {ord1 ord2 : List (Nat × List Nat)} (hm : P.follows .mixedOrders = true) (hn : s.nt = n) (hab : a ≠ b)
    (hk1 : drawOkS (rkS (0, 0)) T (addDep ops b a) n ord1 = true) (hk2 : drawOkS (rkS (a, b)) T (addDep ops a b) n ord2 = true)
    (h : drawK P T ops.toList (Kx .normal) ord1 s ∧ drawK P T ops.toList (Kx .normal) ord2 s) : @SemL P B (.region id ops true) s ⟨Kx⟩ :=
  semL_two hT a b hm hn hab hk1 hk2 (by rw [drawK_addDep]; exact h.1) (by rw [drawK_addDep]; exact h.2)
end

/-- The value of a key. -/
def valK (v : List Int) (k : Int) : Int := v.getD k.toNat 0

theorem cellsI_at (v : List Int) (k : Int) (h0 : 0 ≤ k) (h : k.toNat < v.length) (o n : Nat) (ho : o = k.toNat) (hn : n = 1) : (((cellsI v).drop o).take n).getD 0 .top = .int .i64 (valK v k) := by
  subst ho; subst hn
  have : ((cellsI v).drop k.toNat).take 1 = [(cellsI v).getD k.toNat .top] := by
    rw [List.getD_eq_getElem?_getD, List.getElem?_eq_getElem (by rw [cellsI_length]; exact h), List.drop_eq_getElem_cons (by rw [cellsI_length]; exact h)]
    rfl
  rw [this, cellsI_get _ _ _ h]
  rfl

def readsA (a : Action) : List Int := if a.kind = 1 then [] else if a.kind = 3 ∨ a.kind = 6 ∨ a.fr = a.to then [a.fr] else [a.fr, a.to]
def writesA (a : Action) : List Int := if a.kind = 1 ∨ a.kind = 6 then [a.fr] else if a.kind = 3 ∨ a.kind = 5 ∨ a.fr = a.to then [a.to] else [min a.fr a.to, max a.fr a.to]

theorem c_impl_reads (a : Action) : Det Try.prog 63 [.agg (encA a)] (.osl false 1 (rows encI (readsA a))) := by
  refine fspec_det tab_ok Try.call63 Try.func63 rfl 31 Try.ntmps63 (of_decide_eq_true rfl) fun B => codeK_sound tab_ok _ _ _ ?_
  unfold encA readsA
  by_cases h1 : a.kind = 1
  · have e1 : (a.kind == 1) = true := by simp [h1]
    simp (config := { maxSteps := 4000000 }) only [go_sem, simprocAttr, ↓dnA, Try.f63, e1, h1, rows_nil]
  · have e1 : (a.kind == 1) = false := by simp [h1]
    by_cases h3 : a.kind = 3
    · have e3 : (a.kind == 3) = true := by simp [h3]
      simp (config := { maxSteps := 4000000 }) only [go_sem, simprocAttr, ↓dnA, Try.f63, e1, h1, e3, h3, rows, encI]
    · have e3 : (a.kind == 3) = false := by simp [h3]
      by_cases h6 : a.kind = 6
      · have e6 : (a.kind == 6) = true := by simp [h6]
        simp (config := { maxSteps := 4000000 }) only [go_sem, simprocAttr, ↓dnA, Try.f63, e1, h1, e3, h3, e6, h6, rows, encI]
      · have e6 : (a.kind == 6) = false := by simp [h6]
        by_cases hf : a.fr = a.to
        · have ef : (a.fr == a.to) = true := by simp [hf]
          simp (config := { maxSteps := 4000000 }) only [go_sem, simprocAttr, ↓dnA, Try.f63, e1, h1, e3, h3, e6, h6, ef, hf, rows, encI]
        · have ef : (a.fr == a.to) = false := by simp [hf]
          simp (config := { maxSteps := 4000000 }) only [go_sem, simprocAttr, ↓dnA, Try.f63, e1, h1, e3, h3, e6, h6, ef, hf, rows, encI]

theorem min_if (a b : Int) : (if b < a then b else a) = min a b := by
  rw [Int.min_def]; split <;> split <;> omega
theorem max_if2 (a b : Int) : (if b > a then b else a) = max a b := by
  rw [Int.max_def]; split <;> split <;> omega

theorem c_impl_writes (a : Action) : Det Try.prog 89 [.agg (encA a)] (.osl false 1 (rows encI (writesA a))) := by
  refine fspec_det tab_ok Try.call89 Try.func89 rfl 45 Try.ntmps89 (of_decide_eq_true rfl) fun B => codeK_sound tab_ok _ _ _ ?_
  unfold encA writesA
  by_cases h1 : a.kind = 1
  · have e1 : (a.kind == 1) = true := by simp [h1]
    simp (config := { maxSteps := 4000000 }) only [go_sem, simprocAttr, ↓dnA, Try.f89, e1, h1, rows, encI]
  · have e1 : (a.kind == 1) = false := by simp [h1]
    by_cases h6 : a.kind = 6
    · have e6 : (a.kind == 6) = true := by simp [h6]
      simp (config := { maxSteps := 4000000 }) only [go_sem, simprocAttr, ↓dnA, Try.f89, e1, h1, e6, h6, rows, encI]
    · have e6 : (a.kind == 6) = false := by simp [h6]
      by_cases h3 : a.kind = 3
      · have e3 : (a.kind == 3) = true := by simp [h3]
        simp (config := { maxSteps := 4000000 }) only [go_sem, simprocAttr, ↓dnA, Try.f89, e1, h1, e3, h3, e6, h6, rows, encI]
      · have e3 : (a.kind == 3) = false := by simp [h3]
        by_cases h5 : a.kind = 5
        · have e5 : (a.kind == 5) = true := by simp [h5]
          simp (config := { maxSteps := 4000000 }) only [go_sem, simprocAttr, ↓dnA, Try.f89, e1, h1, e3, h3, e5, h5, e6, h6, rows, encI]
        · have e5 : (a.kind == 5) = false := by simp [h5]
          by_cases hf : a.fr = a.to
          · have ef : (a.fr == a.to) = true := by simp [hf]
            simp (config := { maxSteps := 4000000 }) only [go_sem, simprocAttr, ↓dnA, Try.f89, e1, h1, e3, h3, e5, h5, e6, h6, ef, hf, rows, encI]
          · have ef : (a.fr == a.to) = false := by simp [hf]
            simp (config := { maxSteps := 4000000 }) only [go_sem, simprocAttr, ↓dnA, Try.f89, e1, h1, e3, h3, e5, h5, e6, h6, ef, hf, rows, encI, min_if, max_if2]

/-- Is an action done, with these values of From and To. -/
def doneA (a : Action) (f t : Int) : Bool :=
  if a.kind = 5 then decide (f + t ≤ 1000000) else if a.kind = 2 then (if a.fr = a.to then decide (f ≥ a.amount) else decide (f ≥ a.amount) && decide (t + a.amount ≤ 1000000)) else true
/-- The new value of a key that an action writes. -/
def newV (a : Action) (f t k : Int) : Int :=
  if a.kind = 1 then a.amount else if a.kind = 6 then max 0 (f - a.amount) else if a.kind = 3 then f else if a.kind = 5 then f + t else
    if a.kind = 4 then (if k = a.to then f else t) else if a.fr = a.to then f else if k = a.to then t + a.amount else f - a.amount

def ResQ (a : Action) (f t : Int) (r : AV) (b : List AV) : Prop := ∃ n D, r = .tup [.mp Try.prog 3 3 n D, .bool (doneA a f t)] ∧ b = [] ∧
  ∀ k, k ∈ writesA a → DataW.atKey D (.int .i64 k) (.lit (.int .i64 0)) = .lit (.int .i64 (newV a f t k))

structure ActOk (a : Action) : Prop where
  fr : 0 ≤ a.fr ∧ a.fr ≤ 31
  to : 0 ≤ a.to ∧ a.to ≤ 31
  amount : 0 ≤ a.amount ∧ a.amount ≤ 1000000
  kind : a.kind = 1 ∨ a.kind = 2 ∨ a.kind = 3 ∨ a.kind = 4 ∨ a.kind = 5 ∨ a.kind = 6
  z : a.kind = 1 ∨ a.kind = 6 → a.to = 0

theorem actOk_of {a : Action} (h : actionValid a = true) : ActOk a := by
  unfold actionValid at h
  simp only [Bool.and_eq_true] at h
  obtain ⟨⟨⟨h1, h2⟩, h3⟩, h4⟩ := h
  refine ⟨inB_iff.1 h1, inB_iff.1 h2, inB_iff.1 h3, ?_, ?_⟩
  · have := kindOk_bd h4; omega
  · intro hk
    unfold kindOk at h4
    rw [if_pos (by rcases hk with h | h <;> simp [h])] at h4
    simpa using h4

def ValsOk (v : List Int) : Prop := v.length = 32 ∧ ∀ k : Nat, 0 ≤ v.getD k 0 ∧ v.getD k 0 ≤ 1000000

theorem ValsOk.at {v : List Int} (h : ValsOk v) (k : Int) : 0 ≤ valK v k ∧ valK v k ≤ 1000000 := h.2 _

open Go.Maps in
theorem put_same (D : DataW Unit) (hD : IsMap D) (k x : Int) : DataW.atKey (D.put (.int .i64 k) (.lit (.int .i64 x))) (.int .i64 k) (.lit (.int .i64 0)) = .lit (.int .i64 x) := atKey_put_same hD (by trivial) _ _
open Go.Maps in
theorem put_other (D : DataW Unit) (k j : Int) (x : DataW Unit) (h : j ≠ k) : DataW.atKey (D.put (.int .i64 k) x) (.int .i64 j) (.lit (.int .i64 0)) = DataW.atKey D (.int .i64 j) (.lit (.int .i64 0)) := atKey_put_other (by intro e; cases e; exact h rfl) _ _

open Go.Maps in
theorem put1 (k x : Int) : DataW.atKey ((DataW.map [] : DataW Unit).put (.int .i64 k) (.lit (.int .i64 x))) (.int .i64 k) (.lit (.int .i64 0)) = .lit (.int .i64 x) := put_same _ isMap_empty _ _
open Go.Maps in
theorem put2 (a b x y k : Int) (hk : k = a ∨ k = b) : DataW.atKey (((DataW.map [] : DataW Unit).put (.int .i64 a) (.lit (.int .i64 x))).put (.int .i64 b) (.lit (.int .i64 y))) (.int .i64 k) (.lit (.int .i64 0)) = .lit (.int .i64 (if k = b then y else x)) := by
  by_cases h : k = b
  · subst h; rw [if_pos rfl]; exact put_same _ (isMap_empty.put _ _) _ _
  · rw [if_neg h, put_other _ _ _ _ h]
    rcases hk with rfl | rfl
    · exact put1 _ _
    · exact absurd rfl h

theorem mem_writes {a : Action} {k : Int} (h : k ∈ writesA a) : k = a.fr ∨ k = a.to := by
  unfold writesA at h
  split at h
  · simp at h; exact .inl h
  · split at h
    · simp at h; exact .inr h
    · simp at h
      rcases h with h | h
      · rw [Int.min_def] at h; split at h <;> simp [h]
      · rw [Int.max_def] at h; split at h <;> simp [h]

theorem c_impl_result (a : Action) (v : List Int) (ha : ActOk a) (hv : ValsOk v) : FSpec Try.prog 88 [.agg (encA a), .agg (cellsI v)] false [] (ResQ a (valK v a.fr) (valK v a.to)) := by
  refine fspec_rel tab_ok Try.call88 Try.func88 rfl 106 Try.ntmps88 (of_decide_eq_true rfl) fun B => codeK_sound tab_ok _ _ _ ?_
  have cl : (cellsI v).length = 32 := by rw [cellsI_length, hv.1]
  have hfr := ha.fr
  have hto := ha.to
  have ham := ha.amount
  have hf := hv.at a.fr
  have ht := hv.at a.to
  have g1 := cellsI_at v a.fr hfr.1 (by rw [hv.1]; omega) a.fr.toNat 1 rfl rfl
  have g2 := cellsI_at v a.to hto.1 (by rw [hv.1]; omega) a.to.toNat 1 rfl rfl
  simp (config := { maxSteps := 4000000 }) only [go_sem, simprocAttr, ↓dnA, Try.f88, encA]
  refine semL_draw tab_ok mixed_ rfl (ord := [(0, []), (1, []), (2, []), (3, []), (4, []), (5, []), (6, []), (7, []), (8, []), (9, [])]) (by dsimp only; decide +kernel) ?_
  obtain ⟨kd, fr, to, am⟩ := a
  dsimp only at hfr hto ham hf ht g1 g2 ⊢
  have hkd := ha.kind
  have hz := ha.z
  dsimp only at hkd hz
  have w1 : IntKind.i64.wrap (valK v fr - am) = valK v fr - am := wrap_small _ (by omega) (by omega)
  have w2 : IntKind.i64.wrap (valK v fr + valK v to) = valK v fr + valK v to := wrap_small _ (by omega) (by omega)
  have w3 : IntKind.i64.wrap (valK v to + am) = valK v to + am := wrap_small _ (by omega) (by omega)
  rcases hkd with rfl | rfl | rfl | rfl | rfl | rfl
  · simp (config := { maxSteps := 4000000 }) only [go_sem, simprocAttr, ↓dnA, Try.f88, cl, g1, g2, Nat.mul_one, w1, w2, w3]
    repeat refine And.intro (by first | omega | (simp; done) | (simp; omega) | assumption) ?_
    refine ExitR.same ⟨_, _, rfl, rfl, fun k hk => ?_⟩
    have hk : k = fr := by simpa [writesA] using hk
    subst hk
    exact put1 _ _
  · by_cases he : fr = to
    · subst he
      have e1 : (fr == fr) = true := by simp
      simp (config := { maxSteps := 4000000 }) only [go_sem, simprocAttr, ↓dnA, Try.f88, cl, g1, g2, Nat.mul_one, w1, w2, w3, e1]
      repeat refine And.intro (by first | omega | (simp; done) | (simp; omega) | assumption) ?_
      refine semL_draw tab_ok mixed_ rfl (ord := [(1, []), (2, []), (3, []), (6, []), (7, []), (8, []), (9, []), (0, [1, 2, 3, 6, 7, 8, 9]), (4, [6, 7, 8, 9]), (5, []), (10, []), (11, [])]) (by dsimp only; decide +kernel) ?_
      simp (config := { maxSteps := 4000000 }) only [go_sem, simprocAttr, ↓dnA, Try.f88, cl, g1, g2, Nat.mul_one, w1, w2, w3]
      repeat refine And.intro (by first | omega | (simp; done) | (simp; omega) | assumption) ?_
      have hd : decide (valK v fr ≥ am) = doneA ⟨2, fr, fr, am⟩ (valK v fr) (valK v fr) := by simp [doneA]
      rw [hd]
      refine ExitR.same ⟨_, _, rfl, rfl, fun k hk => ?_⟩
      have hk : k = fr := by simpa [writesA] using hk
      subst hk
      rw [put1]
      simp [newV]
    · have e1 : (fr == to) = false := by simp [he]
      have hdn : ∀ c1, decide (valK v fr ≥ am) = c1 → ∀ c2, decide (valK v to + am ≤ 1000000) = c2 → doneA ⟨2, fr, to, am⟩ (valK v fr) (valK v to) = (c1 && c2) := by
        intro c1 h1 c2 h2
        subst h1; subst h2
        simp [doneA, he]
      have hnv : ∀ k, newV ⟨2, fr, to, am⟩ (valK v fr) (valK v to) k = if k = to then valK v to + am else valK v fr - am := by
        intro k; simp [newV, he]
      simp (config := { maxSteps := 4000000 }) only [go_sem, simprocAttr, ↓dnA, Try.f88, cl, g1, g2, Nat.mul_one, w1, w2, w3, e1]
      repeat refine And.intro (by first | omega | (simp; done) | (simp; omega) | assumption) ?_
      refine semL_two' tab_ok 7 14 mixed_ rfl (by decide) (ord1 := [(1, []), (2, []), (3, []), (4, []), (5, []), (6, []), (8, []), (9, []), (10, []), (11, []), (12, []), (13, []), (16, []), (17, []), (18, []), (19, []), (20, []), (21, []), (22, []), (23, []), (24, []), (25, []), (26, []), (0, [1, 2, 3, 4, 5, 6, 8, 9, 10, 11, 12, 13, 16, 17, 18, 19, 20, 21, 22, 23, 24, 25, 26]), (7, [8, 9, 10, 11, 12, 13, 16, 17, 18, 19, 20, 21, 22, 23, 24, 25, 26]), (14, [16, 17, 18, 19, 20, 21, 22, 23, 24, 25, 26]), (15, []), (27, []), (28, [])]) (ord2 := [(1, []), (2, []), (3, []), (4, []), (5, []), (6, []), (8, []), (9, []), (10, []), (11, []), (12, []), (13, []), (16, []), (17, []), (18, []), (19, []), (20, []), (21, []), (22, []), (23, []), (24, []), (25, []), (26, []), (0, [1, 2, 3, 4, 5, 6, 8, 9, 10, 11, 12, 13, 16, 17, 18, 19, 20, 21, 22, 23, 24, 25, 26]), (14, [1, 2, 3, 4, 5, 6, 16, 17, 18, 19, 20, 21, 22, 23, 24, 25, 26]), (7, [16, 17, 18, 19, 20, 21, 22, 23, 24, 25, 26]), (15, []), (27, []), (28, [])]) (by dsimp only; decide +kernel) (by dsimp only; decide +kernel) ?_
      cases h1 : decide (valK v fr ≥ am) with
      | false =>
        have hd := hdn _ h1 _ rfl
        simp (config := { maxSteps := 4000000 }) only [go_sem, simprocAttr, ↓dnA, Try.f88, cl, g1, g2, Nat.mul_one, w1, w2, w3, h1]
        refine ⟨?_, ?_⟩
        all_goals repeat refine And.intro (by first | omega | (simp; done) | (simp; omega) | assumption) ?_
        all_goals refine ExitR.same ⟨_, _, by rw [hd]; rfl, rfl, fun k hk => ?_⟩
        all_goals (rw [put2 _ _ _ _ _ (by have := mem_writes hk; dsimp only at this; omega), hnv])
        all_goals (rcases mem_writes hk with e | e <;> dsimp only at e <;> subst e <;> simp [he, Ne.symm he])
      | true =>
        have hd := hdn _ h1 _ rfl
        simp (config := { maxSteps := 4000000 }) only [go_sem, simprocAttr, ↓dnA, Try.f88, cl, g1, g2, Nat.mul_one, w1, w2, w3, h1]
        refine ⟨?_, ?_⟩
        all_goals repeat refine And.intro (by first | omega | (simp; done) | (simp; omega) | assumption) ?_
        all_goals refine ExitR.same ⟨_, _, by rw [hd]; rfl, rfl, fun k hk => ?_⟩
        all_goals (rw [put2 _ _ _ _ _ (by have := mem_writes hk; dsimp only at this; omega), hnv])
        all_goals (rcases mem_writes hk with e | e <;> dsimp only at e <;> subst e <;> simp [he, Ne.symm he])
  · simp (config := { maxSteps := 4000000 }) only [go_sem, simprocAttr, ↓dnA, Try.f88, cl, g1, g2, Nat.mul_one, w1, w2, w3]
    repeat refine And.intro (by first | omega | (simp; done) | (simp; omega) | assumption) ?_
    refine ExitR.same ⟨_, _, rfl, rfl, fun k hk => ?_⟩
    have hk : k = to := by simpa [writesA] using hk
    subst hk
    exact put1 _ _
  · have hnv : ∀ k, newV ⟨4, fr, to, am⟩ (valK v fr) (valK v to) k = if k = to then valK v fr else valK v to := by
      intro k; simp [newV]
    simp (config := { maxSteps := 4000000 }) only [go_sem, simprocAttr, ↓dnA, Try.f88, cl, g1, g2, Nat.mul_one, w1, w2, w3]
    repeat refine And.intro (by first | omega | (simp; done) | (simp; omega) | assumption) ?_
    refine semL_two' tab_ok 4 8 mixed_ rfl (by decide) (ord1 := [(1, []), (2, []), (3, []), (5, []), (6, []), (7, []), (0, [1, 2, 3, 5, 6, 7]), (4, [5, 6, 7]), (8, []), (9, []), (10, []), (11, [])]) (ord2 := [(1, []), (2, []), (3, []), (5, []), (6, []), (7, []), (0, [1, 2, 3, 5, 6, 7]), (8, [1, 2, 3]), (4, []), (9, []), (10, []), (11, [])]) (by dsimp only; decide +kernel) (by dsimp only; decide +kernel) ?_
    simp (config := { maxSteps := 4000000 }) only [go_sem, simprocAttr, ↓dnA, Try.f88, cl, g1, g2, Nat.mul_one, w1, w2, w3]
    refine ⟨?_, ?_⟩
    all_goals repeat refine And.intro (by first | omega | (simp; done) | (simp; omega) | assumption) ?_
    all_goals refine ExitR.same ⟨_, _, rfl, rfl, fun k hk => ?_⟩
    all_goals (rw [put2 _ _ _ _ _ (by have := mem_writes hk; dsimp only at this; omega), hnv])
    all_goals (rcases mem_writes hk with e | e <;> dsimp only at e <;> subst e <;> simp)
    all_goals (intro h; subst h; rfl)
  · simp (config := { maxSteps := 4000000 }) only [go_sem, simprocAttr, ↓dnA, Try.f88, cl, g1, g2, Nat.mul_one, w1, w2, w3]
    repeat refine And.intro (by first | omega | (simp; done) | (simp; omega) | assumption) ?_
    refine ExitR.same ⟨_, _, rfl, rfl, fun k hk => ?_⟩
    have hk : k = to := by simpa [writesA] using hk
    subst hk
    exact put1 _ _
  · simp (config := { maxSteps := 4000000 }) only [go_sem, simprocAttr, ↓dnA, Try.f88, cl, g1, g2, Nat.mul_one, w1, w2, w3]
    repeat refine And.intro (by first | omega | (simp; done) | (simp; omega) | assumption) ?_
    refine ExitR.same ⟨_, _, rfl, rfl, fun k hk => ?_⟩
    have hk : k = fr := by simpa [writesA] using hk
    subst hk
    rw [put1]
    simp only [newV, if_neg (show ¬((6:Int) = 1) by omega), if_true]
    congr 2
    rw [Int.max_def]
    split <;> split <;> omega

end Go.Proofs.Yteebkimhfaodnaa

/- Contracts: running one action. -/
set_option linter.unusedSimpArgs false
set_option linter.unusedVariables false
set_option maxRecDepth 20000
set_option maxHeartbeats 4000000
namespace Go.Proofs.Yteebkimhfaodnaa
open Go Go.RowKit

theorem cellsI_noT (Tb : Nat → Prop) : ∀ v : List Int, noT Tb (cellsI v) = True
  | [] => rfl
  | x :: v => cellsI_noT Tb v
theorem cellsI_argL (s : AState) : ∀ (v : List Int) (K : List AV → Bool → Prop), argL s (cellsI v) K = K (cellsI v) false
  | [], K => rfl
  | x :: v, K => by
    show argC s (.int .i64 x) (fun c' u => argL s (cellsI v) fun cs' us => K (c' :: cs') (u || us)) = _
    rw [show (fun (c' : AV) (u : Bool) => argL s (cellsI v) fun cs' us => K (c' :: cs') (u || us)) = fun c' u => K (c' :: cellsI v) (u || false) from funext fun c' => funext fun u => cellsI_argL s v _]
    rfl

/-- The effect of an action. -/
def runE (a : Action) (v : List Int) : Effect := ⟨doneA a (valK v a.fr) (valK v a.to), (readsA a).map fun k => ⟨k, valK v k⟩, if doneA a (valK v a.fr) (valK v a.to) then (writesA a).map fun k => ⟨k, newV a (valK v a.fr) (valK v a.to) k⟩ else []⟩
def encFO (e : Effect) : List AV := [.bool e.done, .osl false 2 (rows encE e.reads), .osl false 2 (rows encE e.writes)]

theorem readsA_len (a : Action) : (readsA a).length ≤ 2 := by
  unfold readsA; split <;> (try split) <;> simp
theorem writesA_len (a : Action) : (writesA a).length ≤ 2 := by
  unfold writesA; split <;> (try split) <;> simp
theorem mem_reads {a : Action} {k : Int} (h : k ∈ readsA a) : k = a.fr ∨ k = a.to := by
  unfold readsA at h
  split at h
  · simp at h
  · split at h
    · simp at h; exact .inl h
    · simpa using h

theorem c_impl_run (a : Action) (v : List Int) (ha : ActOk a) (hv : ValsOk v) : Det Try.prog 65 [.agg (encA a), .agg (cellsI v)] (.agg (encFO (runE a v))) := by
  refine fspec_det tab_ok Try.call65 Try.func65 rfl 58 Try.ntmps65 (of_decide_eq_true rfl) fun B => codeK_sound tab_ok _ _ _ ?_
  have cl : (cellsI v).length = 32 := by rw [cellsI_length, hv.1]
  have hfr := ha.fr
  have hto := ha.to
  have h2 := readsA_len a
  have h3 := writesA_len a
  simp (config := { maxSteps := 4000000 }) only [go_sem, simprocAttr, ↓dnA, Try.f65, rows_length, cl, encA]
  refine CallTo.det (c_impl_reads a) fun _ => ?_
  simp (config := { maxSteps := 4000000 }) only [go_sem, simprocAttr, ↓dnA, Try.f65, rows_length, cl, encA]
  refine semL_nilVA 5 1 600 2 true (by rfl) (by simp) (by rfl) (by rfl) (by decide) (by decide) ?_
  generalize hrs : readsA a = rs at h2
  have hmr : ∀ k, k ∈ rs → k = a.fr ∨ k = a.to := fun k hk => mem_reads (by rw [hrs]; exact hk)
  refine semL_for tab_ok (fun i : Nat => ⟨58, [(2, .loc 2 0), (3, .loc 3 0), (4, .loc 4 0), (5, .loc 5 0), (13, .row 14000 rs.length), (14, .int .i64 rs.length), (15, .int .i64 i)],
      [(14000, .row true false 1 (rows encI rs)), (5, .var [.bool false, .row 600 i, .sl (some false) []]), (4, .var [.bool false, .sl (some false) [], .sl (some false) []]), (3, .var (cellsI v)), (2, .var (encA a)),
        (600, .row true false 2 (rows encE ((rs.take i).map fun k => ⟨k, valK v k⟩)))]⟩) (fun i => rs.length - i)
    (fun i => i ≤ rs.length) 0 [(2, 2), (3, 3), (4, 4), (5, 5), (14000, 14000), (600, 600)] (Weak.of (by rfl) ?_ ?_ (by rfl)) (by omega) ?_
  · simp (config := { maxSteps := 4000000 }) only [go_sem, simprocAttr, ↓dnA, Try.f65, rows_length, encA, cellsI_wk, frW, wk2, wk1, wkL, wkB, hpW, List.mem_cons, Prod.mk.injEq, exists_eq_left, exists_eq_right, exists_eq]
    try rfl
  · simp (config := { maxSteps := 4000000 }) only [go_sem, simprocAttr, ↓dnA, Try.f65, rows_length, encA, cellsI_wk, frW, wk2, wk1, wkL, wkB, hpW, List.mem_cons, Prod.mk.injEq, exists_eq_left, exists_eq_right, exists_eq]
  · rintro i hi
    by_cases h : i < rs.length
    · have hk := hmr _ (List.getElem_mem h)
      have hb : 0 ≤ rs[i] ∧ rs[i] < 32 := by rcases hk with e | e <;> rw [e] <;> omega
      have hb1 := hb.1
      have hb2 := hb.2
      have g1 := cellsI_at v rs[i] hb.1 (by rw [hv.1]; omega) rs[i].toNat 1 rfl rfl
      have htk : (rows encE ((rs.take i).map fun k => (⟨k, valK v k⟩ : Entry))).take i = rows encE ((rs.take i).map fun k => ⟨k, valK v k⟩) := by
        rw [List.take_of_length_le]; rw [rows_length, List.length_map, List.length_take]; omega
      have hl : min i rs.length = i := by omega
      have hw : IntKind.i64.wrap ((i : Int) + 1) = ((i + 1 : Nat) : Int) := wsucc h (by omega)
      simp (config := { maxSteps := 4000000 }) only [go_sem, simprocAttr, ↓dnA, Try.f65, rows_length, nlt h, rows_get _ _ _ h, encI, nn0]
      refine ⟨h, ?_⟩
      refine semL_draw tab_ok mixed_ rfl (ord := [(0, []), (1, []), (2, []), (3, []), (4, []), (5, []), (6, []), (7, [0, 1]), (8, []), (9, []), (10, [])]) (by dsimp only; decide +kernel) ?_
      simp (config := { maxSteps := 4000000 }) only [go_sem, simprocAttr, ↓dnA, Try.f65, rows_length, List.length_take, List.length_map, hl, htk, hw, cl, g1, hb1, hb2, Nat.mul_one]
      repeat refine And.intro (by first | omega | (simp; done) | (simp; omega) | assumption) ?_
      refine ⟨i + 1, [(2, 2), (3, 3), (4, 4), (5, 5), (14000, 14000), (27, 600)], by omega, by dsimp only; omega, Weak.of (by rfl) ?_ ?_ (by rfl)⟩
      · simp (config := { maxSteps := 4000000 }) only [go_sem, simprocAttr, ↓dnA, Try.f65, rows_length, encA, cellsI_wk, frW, wk2, wk1, wkL, wkB, hpW, List.mem_cons, Prod.mk.injEq, exists_eq_left, exists_eq_right, exists_eq]
        rw [take_snoc _ _ h, List.map_append, List.map_singleton, ← rows_snoc]
        rfl
      · simp (config := { maxSteps := 4000000 }) only [go_sem, simprocAttr, ↓dnA, Try.f65, rows_length, encA, cellsI_wk, frW, wk2, wk1, wkL, wkB, hpW, List.mem_cons, Prod.mk.injEq, exists_eq_left, exists_eq_right, exists_eq]
    · have hi' : i = rs.length := by omega
      subst hi'
      have hct : (cellsI v).take 32 = cellsI v := cellsI_take _ 32 hv.1
      simp (config := { maxSteps := 4000000 }) only [go_sem, simprocAttr, ↓dnA, Try.f65, rows_length, nlf h, encA, cl, hct, cellsI_noT, cellsI_argL]
      refine CallTo.of (c_impl_result a v ha hv) ?_
      rintro r ls ⟨n, D, rfl, rfl, hD⟩
      have hrd : (runE a v).reads = rs.map fun k => ⟨k, valK v k⟩ := by rw [← hrs]; rfl
      cases hdn : doneA a (valK v a.fr) (valK v a.to) with
      | false =>
        have hwr : (runE a v).writes = [] := by unfold runE; rw [hdn]; rfl
        have hde : (runE a v).done = false := hdn
        simp (config := { maxSteps := 4000000 }) only [go_sem, simprocAttr, ↓dnA, Try.f65, rows_length, nlf h, encA, cl, hdn, encFO, hwr, hrd, hde, List.length_map, rows_nil]
      | true =>
        have hwr : (runE a v).writes = (writesA a).map fun k => ⟨k, newV a (valK v a.fr) (valK v a.to) k⟩ := by unfold runE; rw [hdn]; rfl
        have hde : (runE a v).done = true := hdn
        simp (config := { maxSteps := 4000000 }) only [go_sem, simprocAttr, ↓dnA, Try.f65, rows_length, nlf h, encA, cl, hdn]
        refine CallTo.det (c_impl_writes a) fun _ => ?_
        simp (config := { maxSteps := 4000000 }) only [go_sem, simprocAttr, ↓dnA, Try.f65, rows_length, nlf h, encA, cl]
        refine semL_nilVA 5 2 601 2 true (by rfl) (by simp) (by rfl) (by rfl) (by decide) (by decide) ?_
        generalize hws : writesA a = ws at h3 hD hwr
        generalize hnw : (fun k => (⟨k, newV a (valK v a.fr) (valK v a.to) k⟩ : Entry)) = nw at hwr
        refine semL_for tab_ok (fun i : Nat => ⟨58, [(4, .loc 4 0), (5, .loc 5 0), (8, .mp Try.prog 3 3 n D), (40, .row 41000 ws.length), (41, .int .i64 ws.length), (42, .int .i64 i)],
            [(41000, .row true false 1 (rows encI ws)), (5, .var [.bool true, .row 600 rs.length, .row 601 i]), (4, .var [.bool false, .sl (some false) [], .sl (some false) []]),
              (600, .row true false 2 (rows encE (rs.map fun k => ⟨k, valK v k⟩))), (601, .row true false 2 (rows encE ((ws.take i).map nw)))]⟩) (fun i => ws.length - i)
          (fun i => i ≤ ws.length) 0 [(4, 4), (5, 5), (41000, 41000), (600, 600), (601, 601)] (Weak.of (by rfl) ?_ ?_ (by rfl)) (by omega) ?_
        · simp (config := { maxSteps := 4000000 }) only [go_sem, simprocAttr, ↓dnA, Try.f65, rows_length, encA, cellsI_wk, frW, wk2, wk1, wkL, wkB, hpW, List.mem_cons, Prod.mk.injEq, exists_eq_left, exists_eq_right, exists_eq]
          try rfl
        · simp (config := { maxSteps := 4000000 }) only [go_sem, simprocAttr, ↓dnA, Try.f65, rows_length, encA, cellsI_wk, frW, wk2, wk1, wkL, wkB, hpW, List.mem_cons, Prod.mk.injEq, exists_eq_left, exists_eq_right, exists_eq]
        · rintro i hi
          by_cases h : i < ws.length
          · have hk := hD _ (List.getElem_mem h)
            have htk : (rows encE ((ws.take i).map nw)).take i = rows encE ((ws.take i).map nw) := by
              rw [List.take_of_length_le]; rw [rows_length, List.length_map, List.length_take]; omega
            have hl : min i ws.length = i := by omega
            have hw : IntKind.i64.wrap ((i : Int) + 1) = ((i + 1 : Nat) : Int) := wsucc h (by omega)
            simp (config := { maxSteps := 4000000 }) only [go_sem, simprocAttr, ↓dnA, Try.f65, rows_length, nlt h, h, rows_get _ _ _ h, encI, nn0, List.length_take, List.length_map, hl, htk, hw, hk]
            have hkw := mem_writes (a := a) (by rw [hws]; exact List.getElem_mem h)
            have hb : 0 ≤ ws[i] ∧ ws[i] < 32 := by rcases hkw with e | e <;> rw [e] <;> omega
            refine ⟨by omega, fun c hc => ?_⟩
            cases hc
            repeat refine And.intro (by first | omega | (simp; done) | (simp; omega) | assumption) ?_
            refine ⟨i + 1, [(4, 4), (5, 5), (41000, 41000), (600, 600), (54, 601)], by omega, by dsimp only; omega, Weak.of (by rfl) ?_ ?_ (by rfl)⟩
            · simp (config := { maxSteps := 4000000 }) only [go_sem, simprocAttr, ↓dnA, Try.f65, rows_length, encA, cellsI_wk, frW, wk2, wk1, wkL, wkB, hpW, List.mem_cons, Prod.mk.injEq, exists_eq_left, exists_eq_right, exists_eq]
              rw [take_snoc _ _ h, List.map_append, List.map_singleton, ← rows_snoc, ← hnw]
              rfl
            · simp (config := { maxSteps := 4000000 }) only [go_sem, simprocAttr, ↓dnA, Try.f65, rows_length, encA, cellsI_wk, frW, wk2, wk1, wkL, wkB, hpW, List.mem_cons, Prod.mk.injEq, exists_eq_left, exists_eq_right, exists_eq]
          · have hi' : i = ws.length := by omega
            subst hi'
            simp (config := { maxSteps := 4000000 }) only [go_sem, simprocAttr, ↓dnA, Try.f65, rows_length, nlf h, encFO, hwr, hrd, hde, List.length_map, List.take_length]

end Go.Proofs.Yteebkimhfaodnaa

/- Contracts: running many actions. -/
set_option linter.unusedSimpArgs false
set_option linter.unusedVariables false
set_option maxRecDepth 20000
set_option maxHeartbeats 4000000
namespace Go.Proofs.Yteebkimhfaodnaa
open Go Go.RowKit

/-- Values with entries written. -/
def applyW (v : List Int) (ws : List Entry) : List Int := ws.foldl putV v
/-- One action more. -/
def stepR (p : List Int × List Effect) (a : Action) : List Int × List Effect := (applyW p.1 (runE a p.1).writes, p.2 ++ [runE a p.1])
def runAllE (v : List Int) (l : List Action) : List Int × List Effect := l.foldl stepR (v, [])

def WritesOk (ws : List Entry) : Prop := ∀ w, w ∈ ws → (0 ≤ w.key ∧ w.key ≤ 31) ∧ 0 ≤ w.value ∧ w.value ≤ 1000000

theorem runE_writesOk {a : Action} {v : List Int} (ha : ActOk a) (hv : ValsOk v) : WritesOk (runE a v).writes := by
  intro w hw
  unfold runE at hw
  dsimp only at hw
  split at hw
  · rename_i hd
    obtain ⟨k, hk, rfl⟩ := List.mem_map.1 hw
    have hfr := ha.fr
    have hto := ha.to
    have ham := ha.amount
    have hf := hv.at a.fr
    have ht := hv.at a.to
    have hkd := ha.kind
    refine ⟨by rcases mem_writes hk with e | e <;> dsimp only <;> rw [e] <;> omega, ?_⟩
    unfold newV
    unfold doneA at hd
    dsimp only
    rcases hkd with e | e | e | e | e | e <;> simp [e] at hd ⊢
    · omega
    · by_cases h : a.fr = a.to
      · simp [h] at hd ⊢; rw [h] at hf; omega
      · simp [h] at hd ⊢; split <;> omega
    · omega
    · split <;> omega
    · omega
    · omega
  · cases hw

theorem applyW_ok : ∀ (ws : List Entry) (v : List Int), ValsOk v → WritesOk ws → ValsOk (applyW v ws)
  | [], v, hv, _ => hv
  | w :: ws, v, hv, hw => by
    refine applyW_ok ws (putV v w) ⟨by unfold putV; rw [List.length_set]; exact hv.1, fun k => ?_⟩ fun x hx => hw x (List.mem_cons_of_mem _ hx)
    have h1 := hw w (List.mem_cons_self ..)
    unfold putV
    rw [List.getD_eq_getElem?_getD, List.getElem?_set]
    split
    · split
      · exact h1.2
      · simp
    · rw [← List.getD_eq_getElem?_getD]; exact hv.2 k

theorem applyW_take (v : List Int) (ws : List Entry) (i : Nat) (h : i < ws.length) : applyW v (ws.take (i + 1)) = putV (applyW v (ws.take i)) ws[i] := by
  unfold applyW
  rw [take_snoc _ _ h, List.foldl_append]
  rfl

end Go.Proofs.Yteebkimhfaodnaa

/- Contracts: stores of values, serial runs (the program's). -/
set_option linter.unusedSimpArgs false
set_option linter.unusedVariables false
set_option maxRecDepth 20000
set_option maxHeartbeats 4000000
namespace Go.Proofs.Yteebkimhfaodnaa
open Go Go.RowKit

/-- The entries of the first n values. -/
def storeUp (v : List Int) (n : Nat) : List Entry := (List.range n).filterMap fun k => if v.getD k 0 > 0 then some ⟨(k : Int), v.getD k 0⟩ else none
def storeL (v : List Int) : List Entry := storeUp v 32
theorem valuesL_ok {xs : List Entry} (h : storeValid xs = true) : ValsOk (valuesL xs) := by
  obtain ⟨h1, h2⟩ := entOk_spec 1 xs (-1) h
  refine applyW_ok xs zeros32 ⟨rfl, fun k => ?_⟩ fun w hw => ?_
  · rw [List.getD_eq_getElem?_getD, zeros32, List.getElem?_replicate]
    split <;> simp
  · have := h1 w hw
    omega

theorem actionsValid_ok {l : List Action} (h : actionsValid l = true) : (∀ a, a ∈ l → ActOk a) ∧ l.length ≤ 10 := by
  unfold actionsValid at h
  rw [Bool.and_eq_true] at h
  exact ⟨fun a ha => actOk_of (List.all_eq_true.1 h.2 a ha), of_decide_eq_true h.1⟩


end Go.Proofs.Yteebkimhfaodnaa

/- Contracts: the reference's stores with entries put. -/
set_option linter.unusedSimpArgs false
set_option linter.unusedVariables false
set_option maxRecDepth 20000
set_option maxHeartbeats 4000000
namespace Go.Proofs.Yteebkimhfaodnaa
open Go Go.RowKit

/-- One entry more, while k is put. -/
def putS (k x : Int) (p : List Entry × Bool) (e : Entry) : List Entry × Bool :=
  let q := if !p.2 && decide (e.key ≥ k) then (p.1 ++ [⟨k, x⟩], true) else p
  if (e.key != k) = true then (q.1 ++ [e], q.2) else q
def putF (k x : Int) (d : Bool) (s : List Entry) : List Entry × Bool := s.foldl (putS k x) ([], d)
def putD (k x : Int) (d : Bool) (s : List Entry) : List Entry := if (putF k x d s).2 then (putF k x d s).1 else (putF k x d s).1 ++ [⟨k, x⟩]

theorem putF_take (k x : Int) (d : Bool) (s : List Entry) (i : Nat) (h : i < s.length) : putF k x d (s.take (i + 1)) = putS k x (putF k x d (s.take i)) s[i] := by
  unfold putF
  rw [take_snoc _ _ h, List.foldl_append]
  rfl
theorem putF_len (k x : Int) (d : Bool) (s : List Entry) : ∀ i, i ≤ s.length → (putF k x d (s.take i)).1.length ≤ 2 * i
  | 0, _ => by simp [putF]
  | i + 1, hi => by
    have ih := putF_len k x d s i (by omega)
    rw [putF_take _ _ _ _ _ (by omega)]
    unfold putS
    dsimp only
    split <;> split <;> simp <;> omega

theorem c_spec_l4Put (n1 : Option Bool) (s : List Entry) (k x : Int) (hs : s.length < 2 ^ 32) : Det Try.prog 111 [.sl n1 (rows encE s), .int .i64 k, .int .i64 x] (.osl true 2 (rows encE (putD k x false s))) := by
  refine fspec_det tab_ok Try.call111 Try.func111 rfl 57 Try.ntmps111 (of_decide_eq_true rfl) fun B => codeK_sound tab_ok _ _ _ ?_
  simp (config := { maxSteps := 4000000 }) only [go_sem, simprocAttr, ↓dnA, Try.f111, rows_length]
  refine semL_for tab_ok (fun i : Nat => ⟨57, [(0, .sl n1 (rows encE s)), (1, .int .i64 k), (2, .int .i64 x), (7, .row 600 (putF k x false (s.take i)).1.length), (8, .bool (putF k x false (s.take i)).2), (9, .int .i64 i)],
      [(600, .row true true 2 (rows encE (putF k x false (s.take i)).1))]⟩) (fun i => s.length - i)
    (fun i => i ≤ s.length) 0 [(10, 600)] (Weak.of (by rfl) ?_ ?_ (by rfl)) (by omega) ?_
  · simp (config := { maxSteps := 4000000 }) only [go_sem, simprocAttr, ↓dnA, Try.f111, rows_length, frW, wk2, wk1, wkL, wkB, hpW, List.mem_cons, Prod.mk.injEq, exists_eq_left, exists_eq_right, exists_eq]
    rfl
  · simp (config := { maxSteps := 4000000 }) only [go_sem, simprocAttr, ↓dnA, Try.f111, rows_length, frW, wk2, wk1, wkL, wkB, hpW, List.mem_cons, Prod.mk.injEq, exists_eq_left, exists_eq_right, exists_eq]
    exact ⟨rfl, rfl⟩
  · rintro i hi
    have hl := putF_len k x false s i hi
    by_cases h : i < s.length
    · have hw : IntKind.i64.wrap ((i : Int) + 1) = ((i + 1 : Nat) : Int) := wsucc h (by omega)
      have hst := putF_take k x false s i h
      generalize hp : putF k x false (s.take i) = p at hl hst
      obtain ⟨acc, dn⟩ := p
      dsimp only at hl
      have htk : (rows encE acc).take acc.length = rows encE acc := by rw [List.take_of_length_le]; rw [rows_length]; omega
      have hlk : List.length (rows encE acc ++ [[AV.int IntKind.i64 k, AV.int IntKind.i64 x]]) = acc.length + 1 := by simp [rows_length]
      have htk2 : (rows encE acc ++ [[AV.int IntKind.i64 k, AV.int IntKind.i64 x]]).take (acc.length + 1) = rows encE acc ++ [[AV.int IntKind.i64 k, AV.int IntKind.i64 x]] := by rw [List.take_of_length_le]; rw [hlk]; omega
      cases dn <;> cases h1 : decide (s[i].key ≥ k) <;> cases h2 : (s[i].key != k)
      all_goals (simp only [putS, h1, h2, Bool.not_true, Bool.not_false, Bool.and_true, Bool.and_false, Bool.false_eq_true, if_true, if_false] at hst)
      all_goals (simp (config := { maxSteps := 4000000 }) only [go_sem, simprocAttr, ↓dnA, Try.f111, rows_length, nlt h, h, rows_get _ _ _ h, encE, nn0, hp, h1, h2, htk, hlk, htk2, hw])
      all_goals repeat refine And.intro (by first | omega | (simp; done) | (simp; omega) | assumption) ?_
      all_goals first
        | (refine ⟨i + 1, [(47, 600)], by omega, by dsimp only; omega, Weak.of (by rfl) ?_ ?_ (by rfl)⟩
           · simp (config := { maxSteps := 4000000 }) only [go_sem, simprocAttr, ↓dnA, Try.f111, rows_length, hst, List.length_append, frW, wk2, wk1, wkL, wkB, hpW, List.mem_cons, Prod.mk.injEq, exists_eq_left, exists_eq_right, exists_eq]
             simp [rows, encE]
           · simp (config := { maxSteps := 4000000 }) only [go_sem, simprocAttr, ↓dnA, Try.f111, rows_length, hst, List.length_append, frW, wk2, wk1, wkL, wkB, hpW, List.mem_cons, Prod.mk.injEq, exists_eq_left, exists_eq_right, exists_eq])
        | (refine ⟨i + 1, [(33, 600)], by omega, by dsimp only; omega, Weak.of (by rfl) ?_ ?_ (by rfl)⟩
           · simp (config := { maxSteps := 4000000 }) only [go_sem, simprocAttr, ↓dnA, Try.f111, rows_length, hst, List.length_append, frW, wk2, wk1, wkL, wkB, hpW, List.mem_cons, Prod.mk.injEq, exists_eq_left, exists_eq_right, exists_eq]
             simp [rows, encE]
           · simp (config := { maxSteps := 4000000 }) only [go_sem, simprocAttr, ↓dnA, Try.f111, rows_length, hst, List.length_append, frW, wk2, wk1, wkL, wkB, hpW, List.mem_cons, Prod.mk.injEq, exists_eq_left, exists_eq_right, exists_eq])
        | (refine ⟨i + 1, [(600, 600)], by omega, by dsimp only; omega, Weak.of (by rfl) ?_ ?_ (by rfl)⟩
           · simp (config := { maxSteps := 4000000 }) only [go_sem, simprocAttr, ↓dnA, Try.f111, rows_length, hst, List.length_append, frW, wk2, wk1, wkL, wkB, hpW, List.mem_cons, Prod.mk.injEq, exists_eq_left, exists_eq_right, exists_eq]
           · simp (config := { maxSteps := 4000000 }) only [go_sem, simprocAttr, ↓dnA, Try.f111, rows_length, hst, List.length_append, frW, wk2, wk1, wkL, wkB, hpW, List.mem_cons, Prod.mk.injEq, exists_eq_left, exists_eq_right, exists_eq])
    · have hi' : i = s.length := by omega
      subst hi'
      rw [List.take_length] at hl
      unfold putD
      generalize hp : putF k x false s = p at hl
      obtain ⟨acc, dn⟩ := p
      dsimp only at hl
      have htk : (rows encE acc).take acc.length = rows encE acc := by rw [List.take_of_length_le]; rw [rows_length]; omega
      cases dn with
      | true =>
        simp (config := { maxSteps := 4000000 }) only [go_sem, simprocAttr, ↓dnA, Try.f111, rows_length, nlf h, hp, List.take_length, htk]
        try rfl
      | false =>
        simp (config := { maxSteps := 4000000 }) only [go_sem, simprocAttr, ↓dnA, Try.f111, rows_length, nlf h, hp, List.take_length, htk]
        repeat refine And.intro (by first | omega | (simp; done) | (simp; omega) | assumption) ?_
        exact ⟨by simp [rows_length], by simp [rows, encE]⟩

theorem c_spec_l2Put (n1 : Option Bool) (s : List Entry) (k x : Int) (hs : s.length < 2 ^ 32) : Det Try.prog 100 [.sl n1 (rows encE s), .int .i64 k, .int .i64 x] (.osl true 2 (rows encE (putD k x (x == 0) s))) := by
  refine fspec_det tab_ok Try.call100 Try.func100 rfl 59 Try.ntmps100 (of_decide_eq_true rfl) fun B => codeK_sound tab_ok _ _ _ ?_
  simp (config := { maxSteps := 4000000 }) only [go_sem, simprocAttr, ↓dnA, Try.f100, rows_length]
  refine semL_for tab_ok (fun i : Nat => ⟨59, [(0, .sl n1 (rows encE s)), (1, .int .i64 k), (2, .int .i64 x), (7, .row 600 (putF k x (x == 0) (s.take i)).1.length), (8, .bool (putF k x (x == 0) (s.take i)).2), (9, .int .i64 i)],
      [(600, .row true true 2 (rows encE (putF k x (x == 0) (s.take i)).1))]⟩) (fun i => s.length - i)
    (fun i => i ≤ s.length) 0 [(10, 600)] (Weak.of (by rfl) ?_ ?_ (by rfl)) (by omega) ?_
  · simp (config := { maxSteps := 4000000 }) only [go_sem, simprocAttr, ↓dnA, Try.f100, rows_length, frW, wk2, wk1, wkL, wkB, hpW, List.mem_cons, Prod.mk.injEq, exists_eq_left, exists_eq_right, exists_eq]
    rfl
  · simp (config := { maxSteps := 4000000 }) only [go_sem, simprocAttr, ↓dnA, Try.f100, rows_length, frW, wk2, wk1, wkL, wkB, hpW, List.mem_cons, Prod.mk.injEq, exists_eq_left, exists_eq_right, exists_eq]
    exact ⟨rfl, rfl⟩
  · rintro i hi
    have hl := putF_len k x (x == 0) s i hi
    by_cases h : i < s.length
    · have hw : IntKind.i64.wrap ((i : Int) + 1) = ((i + 1 : Nat) : Int) := wsucc h (by omega)
      have hst := putF_take k x (x == 0) s i h
      generalize hp : putF k x (x == 0) (s.take i) = p at hl hst
      obtain ⟨acc, dn⟩ := p
      dsimp only at hl
      have htk : (rows encE acc).take acc.length = rows encE acc := by rw [List.take_of_length_le]; rw [rows_length]; omega
      have hlk : List.length (rows encE acc ++ [[AV.int IntKind.i64 k, AV.int IntKind.i64 x]]) = acc.length + 1 := by simp [rows_length]
      have htk2 : (rows encE acc ++ [[AV.int IntKind.i64 k, AV.int IntKind.i64 x]]).take (acc.length + 1) = rows encE acc ++ [[AV.int IntKind.i64 k, AV.int IntKind.i64 x]] := by rw [List.take_of_length_le]; rw [hlk]; omega
      cases dn <;> cases h1 : decide (s[i].key ≥ k) <;> cases h2 : (s[i].key != k)
      all_goals (simp only [putS, h1, h2, Bool.not_true, Bool.not_false, Bool.and_true, Bool.and_false, Bool.false_eq_true, if_true, if_false] at hst)
      all_goals (simp (config := { maxSteps := 4000000 }) only [go_sem, simprocAttr, ↓dnA, Try.f100, rows_length, nlt h, h, rows_get _ _ _ h, encE, nn0, hp, h1, h2, htk, hlk, htk2, hw])
      all_goals repeat refine And.intro (by first | omega | (simp; done) | (simp; omega) | assumption) ?_
      all_goals first
        | (refine ⟨i + 1, [(49, 600)], by omega, by dsimp only; omega, Weak.of (by rfl) ?_ ?_ (by rfl)⟩
           · simp (config := { maxSteps := 4000000 }) only [go_sem, simprocAttr, ↓dnA, Try.f100, rows_length, hst, List.length_append, frW, wk2, wk1, wkL, wkB, hpW, List.mem_cons, Prod.mk.injEq, exists_eq_left, exists_eq_right, exists_eq]
             simp [rows, encE]
           · simp (config := { maxSteps := 4000000 }) only [go_sem, simprocAttr, ↓dnA, Try.f100, rows_length, hst, List.length_append, frW, wk2, wk1, wkL, wkB, hpW, List.mem_cons, Prod.mk.injEq, exists_eq_left, exists_eq_right, exists_eq])
        | (refine ⟨i + 1, [(35, 600)], by omega, by dsimp only; omega, Weak.of (by rfl) ?_ ?_ (by rfl)⟩
           · simp (config := { maxSteps := 4000000 }) only [go_sem, simprocAttr, ↓dnA, Try.f100, rows_length, hst, List.length_append, frW, wk2, wk1, wkL, wkB, hpW, List.mem_cons, Prod.mk.injEq, exists_eq_left, exists_eq_right, exists_eq]
             simp [rows, encE]
           · simp (config := { maxSteps := 4000000 }) only [go_sem, simprocAttr, ↓dnA, Try.f100, rows_length, hst, List.length_append, frW, wk2, wk1, wkL, wkB, hpW, List.mem_cons, Prod.mk.injEq, exists_eq_left, exists_eq_right, exists_eq])
        | (refine ⟨i + 1, [(600, 600)], by omega, by dsimp only; omega, Weak.of (by rfl) ?_ ?_ (by rfl)⟩
           · simp (config := { maxSteps := 4000000 }) only [go_sem, simprocAttr, ↓dnA, Try.f100, rows_length, hst, List.length_append, frW, wk2, wk1, wkL, wkB, hpW, List.mem_cons, Prod.mk.injEq, exists_eq_left, exists_eq_right, exists_eq]
           · simp (config := { maxSteps := 4000000 }) only [go_sem, simprocAttr, ↓dnA, Try.f100, rows_length, hst, List.length_append, frW, wk2, wk1, wkL, wkB, hpW, List.mem_cons, Prod.mk.injEq, exists_eq_left, exists_eq_right, exists_eq])
    · have hi' : i = s.length := by omega
      subst hi'
      rw [List.take_length] at hl
      unfold putD
      generalize hp : putF k x (x == 0) s = p at hl
      obtain ⟨acc, dn⟩ := p
      dsimp only at hl
      have htk : (rows encE acc).take acc.length = rows encE acc := by rw [List.take_of_length_le]; rw [rows_length]; omega
      cases dn with
      | true =>
        simp (config := { maxSteps := 4000000 }) only [go_sem, simprocAttr, ↓dnA, Try.f100, rows_length, nlf h, hp, List.take_length, htk]
        try rfl
      | false =>
        simp (config := { maxSteps := 4000000 }) only [go_sem, simprocAttr, ↓dnA, Try.f100, rows_length, nlf h, hp, List.take_length, htk]
        repeat refine And.intro (by first | omega | (simp; done) | (simp; omega) | assumption) ?_
        exact ⟨by simp [rows_length], by simp [rows, encE]⟩

end Go.Proofs.Yteebkimhfaodnaa

/- Contracts: the reference's runs of one action. -/
set_option linter.unusedSimpArgs false
set_option linter.unusedVariables false
set_option maxRecDepth 20000
set_option maxHeartbeats 4000000
namespace Go.Proofs.Yteebkimhfaodnaa
open Go Go.RowKit

theorem c_spec_ActionReads (a : Action) (ha : actionValid a = true) : Det Try.prog 96 [.agg (encA a)] (.osl true 1 (rows encI (readsA a))) := by
  refine fspec_det tab_ok Try.call96 Try.func96 rfl 35 Try.ntmps96 (of_decide_eq_true rfl) fun B => codeK_sound tab_ok _ _ _ ?_
  unfold encA readsA
  simp (config := { maxSteps := 4000000 }) only [go_sem, simprocAttr, ↓dnA, Try.f96, rows_length]
  refine CallTo.det (c_spec_ActionValid a) fun _ => ?_
  by_cases h1 : a.kind = 1
  · have e1 : (a.kind == 1) = true := by simp [h1]
    simp (config := { maxSteps := 4000000 }) only [go_sem, simprocAttr, ↓dnA, Try.f96, rows_length, ha, e1, h1, rows_nil]
  · have e1 : (a.kind == 1) = false := by simp [h1]
    by_cases h3 : a.kind = 3
    · have e3 : (a.kind == 3) = true := by simp [h3]
      simp (config := { maxSteps := 4000000 }) only [go_sem, simprocAttr, ↓dnA, Try.f96, rows_length, ha, e1, h1, e3, h3, rows, encI]
    · have e3 : (a.kind == 3) = false := by simp [h3]
      by_cases h6 : a.kind = 6
      · have e6 : (a.kind == 6) = true := by simp [h6]
        simp (config := { maxSteps := 4000000 }) only [go_sem, simprocAttr, ↓dnA, Try.f96, rows_length, ha, e1, h1, e3, h3, e6, h6, rows, encI]
      · have e6 : (a.kind == 6) = false := by simp [h6]
        by_cases hf : a.fr = a.to
        · have ef : (a.fr == a.to) = true := by simp [hf]
          simp (config := { maxSteps := 4000000 }) only [go_sem, simprocAttr, ↓dnA, Try.f96, rows_length, ha, e1, h1, e3, h3, e6, h6, ef, hf, rows, encI]
        · have ef : (a.fr == a.to) = false := by simp [hf]
          simp (config := { maxSteps := 4000000 }) only [go_sem, simprocAttr, ↓dnA, Try.f96, rows_length, ha, e1, h1, e3, h3, e6, h6, ef, hf, rows, encI]

/-- The effect of an action on the values of From and To. -/
def runX (a : Action) (f t : Int) : Effect := ⟨doneA a f t, (readsA a).map fun k => ⟨k, if k = a.fr then f else t⟩, if doneA a f t then (writesA a).map fun k => ⟨k, newV a f t k⟩ else []⟩

theorem runE_eq (a : Action) (v : List Int) : runE a v = runX a (valK v a.fr) (valK v a.to) := by
  unfold runE runX
  congr 1
  apply List.map_congr_left
  intro k hk
  by_cases h : k = a.fr
  · rw [if_pos h, h]
  · rw [if_neg h]
    rcases mem_reads hk with e | e
    · exact absurd e h
    · rw [e]

theorem putD_two (a b x y : Int) : putD b y false [⟨a, x⟩] = if a = b then [⟨b, y⟩] else [⟨min a b, if min a b = b then y else x⟩, ⟨max a b, if max a b = b then y else x⟩] := by
  unfold putD putF putS
  simp only [List.foldl_cons, List.foldl_nil, Bool.not_false, Bool.true_and]
  by_cases h : a = b
  · subst h; simp
  · by_cases h2 : a ≥ b
    · have e1 : min a b = b := by omega
      have e2 : max a b = a := by omega
      simp [h, h2, e1, e2]
    · have e1 : min a b = a := by omega
      have e2 : max a b = b := by omega
      simp [h, h2, e1, e2]

theorem c_spec_l6Run (a : Action) (f t : Int) (ha : actionValid a = true) (hf : 0 ≤ f ∧ f ≤ 1000000) (ht : 0 ≤ t ∧ t ≤ 1000000) :
    Det Try.prog 97 [.agg (encA a), .int .i64 f, .int .i64 t] (.agg (encFO (runX a f t))) := by
  refine fspec_det tab_ok Try.call97 Try.func97 rfl 152 Try.ntmps97 (of_decide_eq_true rfl) fun B => codeK_sound tab_ok _ _ _ ?_
  have hA := actOk_of ha
  have hfr := hA.fr
  have hto := hA.to
  have ham := hA.amount
  have h2 := readsA_len a
  simp (config := { maxSteps := 4000000 }) only [go_sem, simprocAttr, ↓dnA, Try.f97, rows_length, encA]
  refine CallTo.det (c_spec_ActionReads a ha) fun _ => ?_
  simp (config := { maxSteps := 4000000 }) only [go_sem, simprocAttr, ↓dnA, Try.f97, rows_length, encA]
  refine semL_nilVA 7 1 600 2 true (by rfl) (by simp) (by rfl) (by rfl) (by decide) (by decide) ?_
  have hrd : (runX a f t).reads = (readsA a).map fun k => ⟨k, if k = a.fr then f else t⟩ := rfl
  generalize hrs : readsA a = rs at h2 hrd
  generalize hnr : (fun k => (⟨k, if k = a.fr then f else t⟩ : Entry)) = nr at hrd
  have hmr : ∀ k, k ∈ rs → k = a.fr ∨ k = a.to := fun k hk => mem_reads (by rw [hrs]; exact hk)
  refine semL_for tab_ok (fun i : Nat => ⟨152, [(1, .int .i64 f), (2, .int .i64 t), (3, .loc 3 0), (6, .loc 6 0), (7, .loc 7 0), (8, .row 14000 rs.length), (9, .int .i64 i)],
      [(14000, .row true true 1 (rows encI rs)), (7, .var [.bool true, .row 600 i, .sl (some false) []]), (6, .var [.bool false, .sl (some false) [], .sl (some false) []]), (3, .var (encA a)),
        (600, .row true false 2 (rows encE ((rs.take i).map nr)))]⟩) (fun i => rs.length - i)
    (fun i => i ≤ rs.length) 0 [(3, 3), (6, 6), (7, 7), (14000, 14000), (600, 600)] (Weak.of (by rfl) ?_ ?_ (by rfl)) (by omega) ?_
  · simp (config := { maxSteps := 4000000 }) only [go_sem, simprocAttr, ↓dnA, Try.f97, rows_length, encA, frW, wk2, wk1, wkL, wkB, hpW, List.mem_cons, Prod.mk.injEq, exists_eq_left, exists_eq_right, exists_eq]
    try rfl
  · simp (config := { maxSteps := 4000000 }) only [go_sem, simprocAttr, ↓dnA, Try.f97, rows_length, encA, frW, wk2, wk1, wkL, wkB, hpW, List.mem_cons, Prod.mk.injEq, exists_eq_left, exists_eq_right, exists_eq]
    try rfl
  · rintro i hi
    by_cases h : i < rs.length
    · have hk := hmr _ (List.getElem_mem h)
      have hb : 0 ≤ rs[i] ∧ rs[i] < 32 := by rcases hk with e | e <;> rw [e] <;> omega
      have htk : (rows encE ((rs.take i).map nr)).take i = rows encE ((rs.take i).map nr) := by
        rw [List.take_of_length_le]; rw [rows_length, List.length_map, List.length_take]; omega
      have hl : min i rs.length = i := by omega
      have hw : IntKind.i64.wrap ((i : Int) + 1) = ((i + 1 : Nat) : Int) := wsucc h (by omega)
      have hni : nr rs[i] = ⟨rs[i], if rs[i] = a.fr then f else t⟩ := by rw [← hnr]
      simp (config := { maxSteps := 4000000 }) only [go_sem, simprocAttr, ↓dnA, Try.f97, rows_length, nlt h, h, rows_get _ _ _ h, encI, encA, nn0]
      refine semL_draw tab_ok mixed_ rfl (ord := [(0, []), (1, []), (2, []), (3, []), (4, []), (5, []), (6, [])]) (by dsimp only; decide +kernel) ?_
      cases hd : (rs[i] != a.fr) with
      | true =>
        have hd' : ¬ rs[i] = a.fr := by simpa using hd
        rw [if_neg hd'] at hni
        simp (config := { maxSteps := 4000000 }) only [go_sem, simprocAttr, ↓dnA, Try.f97, rows_length, nlt h, h, rows_get _ _ _ h, encI, encA, nn0, hd]
        refine semL_draw tab_ok mixed_ rfl (ord := [(0, []), (1, []), (2, []), (3, []), (4, []), (5, []), (6, []), (7, []), (8, [0, 1]), (9, []), (10, []), (11, [])]) (by dsimp only; decide +kernel) ?_
        simp (config := { maxSteps := 4000000 }) only [go_sem, simprocAttr, ↓dnA, Try.f97, rows_length, nlt h, h, rows_get _ _ _ h, encI, encA, nn0, List.length_take, List.length_map, hl, htk, hw]
        repeat refine And.intro (by first | omega | (simp; done) | (simp; omega) | assumption) ?_
        refine ⟨i + 1, [(3, 3), (6, 6), (7, 7), (14000, 14000), (38, 600)], by omega, by dsimp only; omega, Weak.of (by rfl) ?_ ?_ (by rfl)⟩
        · simp (config := { maxSteps := 4000000 }) only [go_sem, simprocAttr, ↓dnA, Try.f97, rows_length, encA, frW, wk2, wk1, wkL, wkB, hpW, List.mem_cons, Prod.mk.injEq, exists_eq_left, exists_eq_right, exists_eq]
          rw [take_snoc _ _ h, List.map_append, List.map_singleton, ← rows_snoc, hni]
          rfl
        · simp (config := { maxSteps := 4000000 }) only [go_sem, simprocAttr, ↓dnA, Try.f97, rows_length, encA, frW, wk2, wk1, wkL, wkB, hpW, List.mem_cons, Prod.mk.injEq, exists_eq_left, exists_eq_right, exists_eq]
      | false =>
        have hd' : rs[i] = a.fr := by simpa using hd
        rw [if_pos hd'] at hni
        simp (config := { maxSteps := 4000000 }) only [go_sem, simprocAttr, ↓dnA, Try.f97, rows_length, nlt h, h, rows_get _ _ _ h, encI, encA, nn0, hd]
        refine semL_draw tab_ok mixed_ rfl (ord := [(0, []), (1, []), (2, []), (3, []), (4, []), (5, []), (6, []), (7, []), (8, [0, 1]), (9, []), (10, []), (11, [])]) (by dsimp only; decide +kernel) ?_
        simp (config := { maxSteps := 4000000 }) only [go_sem, simprocAttr, ↓dnA, Try.f97, rows_length, nlt h, h, rows_get _ _ _ h, encI, encA, nn0, List.length_take, List.length_map, hl, htk, hw]
        repeat refine And.intro (by first | omega | (simp; done) | (simp; omega) | assumption) ?_
        refine ⟨i + 1, [(3, 3), (6, 6), (7, 7), (14000, 14000), (38, 600)], by omega, by dsimp only; omega, Weak.of (by rfl) ?_ ?_ (by rfl)⟩
        · simp (config := { maxSteps := 4000000 }) only [go_sem, simprocAttr, ↓dnA, Try.f97, rows_length, encA, frW, wk2, wk1, wkL, wkB, hpW, List.mem_cons, Prod.mk.injEq, exists_eq_left, exists_eq_right, exists_eq]
          rw [take_snoc _ _ h, List.map_append, List.map_singleton, ← rows_snoc, hni]
          rfl
        · simp (config := { maxSteps := 4000000 }) only [go_sem, simprocAttr, ↓dnA, Try.f97, rows_length, encA, frW, wk2, wk1, wkL, wkB, hpW, List.mem_cons, Prod.mk.injEq, exists_eq_left, exists_eq_right, exists_eq]
    · have hi' : i = rs.length := by omega
      subst hi'
      rw [List.take_length]
      have w1 : IntKind.i64.wrap (f - a.amount) = f - a.amount := wrap_small _ (by omega) (by omega)
      have w2 : IntKind.i64.wrap (f + t) = f + t := wrap_small _ (by omega) (by omega)
      have w3 : IntKind.i64.wrap (t + a.amount) = t + a.amount := wrap_small _ (by omega) (by omega)
      obtain ⟨kd, fr, to, am⟩ := a
      dsimp only at *
      rcases hA.kind with e | e | e | e | e | e <;> dsimp only at e <;> subst e
      · have hde : (runX ⟨1, fr, to, am⟩ f t).done = true := rfl
        have hwr : (runX ⟨1, fr, to, am⟩ f t).writes = [⟨fr, am⟩] := rfl
        simp (config := { maxSteps := 4000000 }) only [go_sem, simprocAttr, ↓dnA, Try.f97, rows_length, nlf h, encA, w1, w2, w3, encFO, hde, hwr, hrd, List.length_map, rows, encE]
      · have hde : (runX ⟨2, fr, to, am⟩ f t).done = doneA ⟨2, fr, to, am⟩ f t := rfl
        have hwr : (runX ⟨2, fr, to, am⟩ f t).writes = if doneA ⟨2, fr, to, am⟩ f t then (writesA ⟨2, fr, to, am⟩).map (fun k => ⟨k, newV ⟨2, fr, to, am⟩ f t k⟩) else [] := rfl
        have hcall := c_spec_l4Put (some true) [⟨fr, f - am⟩] to (t + am) (by simp)
        by_cases he : fr = to
        · subst he
          have e1 : (fr == fr) = true := by simp
          have hdn : doneA ⟨2, fr, fr, am⟩ f t = decide (f ≥ am) := by simp [doneA]
          have hw0 : (writesA ⟨2, fr, fr, am⟩).map (fun k => (⟨k, newV ⟨2, fr, fr, am⟩ f t k⟩ : Entry)) = [⟨fr, f⟩] := by simp [writesA, newV]
          rw [hdn] at hde hwr
          rw [hw0] at hwr
          cases h1 : decide (f ≥ am) with
          | false =>
            rw [h1, if_neg (by simp)] at hwr
            rw [h1] at hde
            simp (config := { maxSteps := 4000000 }) only [go_sem, simprocAttr, ↓dnA, Try.f97, rows_length, nlf h, encA, w1, w2, w3, h1, e1]
            refine CallTo.det hcall fun _ => ?_
            simp (config := { maxSteps := 4000000 }) only [go_sem, simprocAttr, ↓dnA, Try.f97, rows_length, nlf h, encA, w1, w2, w3, h1, e1, encFO, hde, hwr, hrd, List.length_map, rows_nil]
          | true =>
            rw [h1, if_pos rfl] at hwr
            rw [h1] at hde
            simp (config := { maxSteps := 4000000 }) only [go_sem, simprocAttr, ↓dnA, Try.f97, rows_length, nlf h, encA, w1, w2, w3, h1, e1]
            refine CallTo.det hcall fun _ => ?_
            simp (config := { maxSteps := 4000000 }) only [go_sem, simprocAttr, ↓dnA, Try.f97, rows_length, nlf h, encA, w1, w2, w3, h1, e1, encFO, hde, hwr, hrd, List.length_map, rows, encE]
        · have e1 : (fr == to) = false := by simp [he]
          have hdn : doneA ⟨2, fr, to, am⟩ f t = (decide (f ≥ am) && decide (t + am ≤ 1000000)) := by simp [doneA, he]
          have hw0 : (writesA ⟨2, fr, to, am⟩).map (fun k => (⟨k, newV ⟨2, fr, to, am⟩ f t k⟩ : Entry)) = putD to (t + am) false [⟨fr, f - am⟩] := by
            rw [putD_two, if_neg he]
            simp [writesA, newV, he]
          rw [hdn] at hde hwr
          rw [hw0] at hwr
          cases h1 : decide (f ≥ am) with
          | false =>
            rw [h1, Bool.false_and, if_neg (by simp)] at hwr
            rw [h1, Bool.false_and] at hde
            simp (config := { maxSteps := 4000000 }) only [go_sem, simprocAttr, ↓dnA, Try.f97, rows_length, nlf h, encA, w1, w2, w3, h1, e1]
            refine CallTo.det hcall fun _ => ?_
            simp (config := { maxSteps := 4000000 }) only [go_sem, simprocAttr, ↓dnA, Try.f97, rows_length, nlf h, encA, w1, w2, w3, h1, e1, encFO, hde, hwr, hrd, List.length_map, rows_nil]
          | true =>
            rw [h1, Bool.true_and] at hwr hde
            cases h3 : decide (t + am ≤ 1000000) with
            | false =>
              rw [h3, if_neg (by simp)] at hwr
              rw [h3] at hde
              simp (config := { maxSteps := 4000000 }) only [go_sem, simprocAttr, ↓dnA, Try.f97, rows_length, nlf h, encA, w1, w2, w3, h1, e1, h3]
              refine CallTo.det hcall fun _ => ?_
              simp (config := { maxSteps := 4000000 }) only [go_sem, simprocAttr, ↓dnA, Try.f97, rows_length, nlf h, encA, w1, w2, w3, h1, e1, h3, encFO, hde, hwr, hrd, List.length_map, rows_nil]
            | true =>
              rw [h3, if_pos rfl] at hwr
              rw [h3] at hde
              simp (config := { maxSteps := 4000000 }) only [go_sem, simprocAttr, ↓dnA, Try.f97, rows_length, nlf h, encA, w1, w2, w3, h1, e1, h3]
              refine CallTo.det hcall fun _ => ?_
              simp (config := { maxSteps := 4000000 }) only [go_sem, simprocAttr, ↓dnA, Try.f97, rows_length, nlf h, encA, w1, w2, w3, h1, e1, h3, encFO, hde, hwr, hrd, List.length_map]
      · have hde : (runX ⟨3, fr, to, am⟩ f t).done = true := rfl
        have hwr : (runX ⟨3, fr, to, am⟩ f t).writes = [⟨to, f⟩] := rfl
        simp (config := { maxSteps := 4000000 }) only [go_sem, simprocAttr, ↓dnA, Try.f97, rows_length, nlf h, encA, w1, w2, w3, encFO, hde, hwr, hrd, List.length_map, rows, encE]
      · have hde : (runX ⟨4, fr, to, am⟩ f t).done = true := rfl
        have hwr : (runX ⟨4, fr, to, am⟩ f t).writes = putD to f false [⟨fr, t⟩] := by
          rw [putD_two]
          unfold runX doneA writesA newV
          by_cases he : fr = to
          · simp [he]
          · simp [he]
        simp (config := { maxSteps := 4000000 }) only [go_sem, simprocAttr, ↓dnA, Try.f97, rows_length, nlf h, encA, w1, w2, w3]
        refine CallTo.det (c_spec_l4Put _ [⟨fr, t⟩] to f (by simp)) fun _ => ?_
        simp (config := { maxSteps := 4000000 }) only [go_sem, simprocAttr, ↓dnA, Try.f97, rows_length, nlf h, encA, w1, w2, w3, encFO, hde, hwr, hrd, List.length_map]
      · have hde : (runX ⟨5, fr, to, am⟩ f t).done = decide (f + t ≤ 1000000) := rfl
        have hwr : (runX ⟨5, fr, to, am⟩ f t).writes = if decide (f + t ≤ 1000000) then [⟨to, f + t⟩] else [] := rfl
        cases hd : decide (f + t ≤ 1000000) with
        | true =>
          rw [hd, if_pos rfl] at hwr
          simp (config := { maxSteps := 4000000 }) only [go_sem, simprocAttr, ↓dnA, Try.f97, rows_length, nlf h, encA, w1, w2, w3, hd, encFO, hde, hwr, hrd, List.length_map, rows, encE]
        | false =>
          rw [hd, if_neg (by simp)] at hwr
          simp (config := { maxSteps := 4000000 }) only [go_sem, simprocAttr, ↓dnA, Try.f97, rows_length, nlf h, encA, w1, w2, w3, hd, encFO, hde, hwr, hrd, List.length_map, rows, encE]
      · have hde : (runX ⟨6, fr, to, am⟩ f t).done = true := rfl
        have hwr : (runX ⟨6, fr, to, am⟩ f t).writes = [⟨fr, max 0 (f - am)⟩] := rfl
        simp (config := { maxSteps := 4000000 }) only [go_sem, simprocAttr, ↓dnA, Try.f97, rows_length, nlf h, encA, w1, w2, w3, encFO, hde, hwr, hrd, List.length_map, rows, encE]
        rw [Int.max_def]; split <;> split <;> omega

end Go.Proofs.Yteebkimhfaodnaa

/- Stores as data: puts, values. -/
set_option linter.unusedSimpArgs false
set_option linter.unusedVariables false
set_option maxRecDepth 20000
set_option maxHeartbeats 4000000
namespace Go.Proofs.Yteebkimhfaodnaa
open Go Go.RowKit

theorem entOk_cons {lo last : Int} {e : Entry} {r : List Entry} : entOk lo last (e :: r) = true ↔ (last < e.key ∧ e.key ≤ 31) ∧ (lo ≤ e.value ∧ e.value ≤ 1000000) ∧ entOk lo e.key r = true := by
  simp only [entOk, Bool.and_eq_true, inB_iff]
  constructor
  · rintro ⟨⟨h1, h2⟩, h3⟩; exact ⟨⟨by omega, h1.2⟩, h2, h3⟩
  · rintro ⟨h1, h2, h3⟩; exact ⟨⟨⟨by omega, h1.2⟩, h2⟩, h3⟩

theorem entOk_mono {lo a b : Int} (h : a ≤ b) : ∀ {r : List Entry}, entOk lo b r = true → entOk lo a r = true
  | [], _ => rfl
  | e :: r, hr => by
    rw [entOk_cons] at hr ⊢
    exact ⟨⟨by omega, hr.1.2⟩, hr.2⟩

theorem ValsOk.mem {v : List Int} (h : ValsOk v) : ∀ x, x ∈ v → 0 ≤ x ∧ x ≤ 1000000 := by
  intro x hx
  obtain ⟨i, hi, rfl⟩ := List.getElem_of_mem hx
  have := h.2 i
  rwa [List.getD_eq_getElem?_getD, List.getElem?_eq_getElem hi] at this

/-- Puts, one entry behind the other. -/
def putR (k x : Int) : Bool → List Entry → List Entry
  | d, [] => if d then [] else [⟨k, x⟩]
  | d, e :: r => (if !d && decide (e.key ≥ k) then [⟨k, x⟩] else []) ++ ((if (e.key != k) = true then [e] else []) ++ putR k x (d || decide (e.key ≥ k)) r)

theorem putF_eq (k x : Int) : ∀ (s : List Entry) (acc : List Entry) (d : Bool), (if (s.foldl (putS k x) (acc, d)).2 then (s.foldl (putS k x) (acc, d)).1 else (s.foldl (putS k x) (acc, d)).1 ++ [⟨k, x⟩]) = acc ++ putR k x d s
  | [], acc, d => by cases d <;> simp [putR]
  | e :: r, acc, d => by
    rw [List.foldl_cons]
    have hst : putS k x (acc, d) e = (acc ++ ((if !d && decide (e.key ≥ k) then [⟨k, x⟩] else []) ++ (if (e.key != k) = true then [e] else [])), d || decide (e.key ≥ k)) := by
      unfold putS
      cases d <;> cases decide (e.key ≥ k) <;> cases (e.key != k) <;> simp
    rw [hst, putF_eq k x r]
    simp only [putR, List.append_assoc]

theorem putD_eq (k x : Int) (d : Bool) (s : List Entry) : putD k x d s = putR k x d s := by
  have := putF_eq k x s [] d
  rwa [List.nil_append] at this

theorem putR_true (k x : Int) : ∀ (s : List Entry), putR k x true s = s.filter fun e => e.key != k
  | [] => rfl
  | e :: r => by
    unfold putR
    rw [Bool.true_or, putR_true k x r]
    cases h : (e.key != k) <;> simp [h]

theorem filter_ok (k : Int) {lo : Int} : ∀ {s : List Entry} {last : Int}, entOk lo last s = true → entOk lo last (s.filter fun e => e.key != k) = true
  | [], _, _ => rfl
  | e :: r, last, h => by
    rw [entOk_cons] at h
    have ih := filter_ok k h.2.2
    rw [List.filter_cons]
    split
    · rw [entOk_cons]; exact ⟨h.1, h.2.1, ih⟩
    · exact entOk_mono (by omega) ih

theorem filter_at (k j : Int) : ∀ (s : List Entry), valAt (s.filter fun e => e.key != k) j = if j = k then 0 else valAt s j
  | [] => by simp [valAt]
  | e :: r => by
    have ih := filter_at k j r
    rw [List.filter_cons]
    by_cases he : e.key = k
    · rw [if_neg (by simp [he]), ih]
      by_cases hj : j = k
      · rw [if_pos hj, if_pos hj]
      · rw [if_neg hj, if_neg hj]; simp only [valAt]; rw [if_neg (by omega)]
    · rw [if_pos (by simp [he])]
      simp only [valAt]
      rw [ih]
      by_cases hj : j = k
      · rw [if_neg (by omega), if_pos hj, if_pos hj]
      · rw [if_neg hj, if_neg hj]

theorem filter_id (k : Int) {lo : Int} : ∀ {s : List Entry} {last : Int}, k ≤ last → entOk lo last s = true → (s.filter fun e => e.key != k) = s
  | [], _, _, _ => rfl
  | e :: r, last, hk, h => by
    rw [entOk_cons] at h
    rw [List.filter_cons, if_pos (by simp; omega), filter_id k (last := e.key) (by omega) h.2.2]

theorem putR_ok {k x : Int} (hk : k ≤ 31) (hx : 1 ≤ x ∧ x ≤ 1000000) : ∀ {s : List Entry} {last : Int}, last < k → entOk 1 last s = true →
    entOk 1 last (putR k x false s) = true ∧ ∀ j, valAt (putR k x false s) j = if j = k then x else valAt s j
  | [], last, hl, _ => by
    constructor
    · show entOk 1 last [⟨k, x⟩] = true
      rw [entOk_cons]; exact ⟨⟨hl, hk⟩, hx, rfl⟩
    · intro j
      show (if k = j then x else 0) = _
      by_cases h : j = k
      · rw [if_pos h.symm, if_pos h]
      · rw [if_neg (by omega), if_neg h]; rfl
  | e :: r, last, hl, h => by
    rw [entOk_cons] at h
    unfold putR
    by_cases hg : e.key ≥ k
    · simp only [hg, decide_true, Bool.not_false, Bool.true_and, if_true, Bool.or_true]
      rw [putR_true, filter_id k (last := e.key) (by omega) h.2.2]
      by_cases he : e.key = k
      · rw [if_neg (by simp [he])]
        constructor
        · show entOk 1 last (⟨k, x⟩ :: r) = true
          rw [entOk_cons]; exact ⟨⟨hl, hk⟩, hx, he ▸ h.2.2⟩
        · intro j
          show (if k = j then x else valAt r j) = if j = k then x else (if e.key = j then e.value else valAt r j)
          by_cases hj : j = k
          · rw [if_pos hj.symm, if_pos hj]
          · rw [if_neg (by omega), if_neg hj, if_neg (by omega)]
      · rw [if_pos (by simp [he])]
        constructor
        · show entOk 1 last (⟨k, x⟩ :: e :: r) = true
          rw [entOk_cons, entOk_cons]; exact ⟨⟨hl, hk⟩, hx, ⟨by dsimp only; omega, h.1.2⟩, h.2.1, h.2.2⟩
        · intro j
          show (if k = j then x else (if e.key = j then e.value else valAt r j)) = if j = k then x else (if e.key = j then e.value else valAt r j)
          by_cases hj : j = k
          · rw [if_pos hj.symm, if_pos hj]
          · rw [if_neg (by omega), if_neg hj]
    · simp only [hg, decide_false, Bool.not_false, Bool.and_false, Bool.false_eq_true, if_false, Bool.or_false]
      rw [if_pos (by simp; omega)]
      obtain ⟨i1, i2⟩ := putR_ok hk hx (last := e.key) (by omega) h.2.2
      constructor
      · show entOk 1 last (e :: putR k x false r) = true
        rw [entOk_cons]; exact ⟨h.1, h.2.1, i1⟩
      · intro j
        show (if e.key = j then e.value else valAt (putR k x false r) j) = if j = k then x else (if e.key = j then e.value else valAt r j)
        rw [i2 j]
        by_cases hj : j = k
        · rw [if_pos hj, if_neg (by omega), if_pos hj]
        · rw [if_neg hj, if_neg hj]

theorem putD_ok {k x : Int} (hk : 0 ≤ k ∧ k ≤ 31) (hx : 0 ≤ x ∧ x ≤ 1000000) {s : List Entry} (h : storeValid s = true) : storeValid (putD k x (x == 0) s) = true ∧ ∀ j, valAt (putD k x (x == 0) s) j = if j = k then x else valAt s j := by
  rw [putD_eq]
  by_cases h0 : x = 0
  · subst h0
    rw [show ((0 : Int) == 0) = true from rfl, putR_true]
    exact ⟨filter_ok k h, fun j => filter_at k j s⟩
  · rw [show (x == 0) = false by simp [h0]]
    exact putR_ok hk.2 (by omega) (last := -1) (by omega) h

end Go.Proofs.Yteebkimhfaodnaa

/- Contracts: the reference's serial runs. -/
set_option linter.unusedSimpArgs false
set_option linter.unusedVariables false
set_option maxRecDepth 20000
set_option maxHeartbeats 4000000
namespace Go.Proofs.Yteebkimhfaodnaa
open Go Go.RowKit

theorem storeAt_bd {s : List Entry} (h : storeValid s = true) (k : Int) : 0 ≤ valAt s k ∧ valAt s k ≤ 1000000 := by
  obtain ⟨h1, _⟩ := entOk_spec 1 s (-1) h
  exact valAt_bd (fun e he => by have := h1 e he; omega) k

theorem entOk_len {lo : Int} : ∀ {s : List Entry} {last : Int}, -1 ≤ last → entOk lo last s = true → s = [] ∨ (s.length : Int) ≤ 31 - last
  | [], _, _, _ => .inl rfl
  | e :: r, last, hl, h => by
    rw [entOk_cons] at h
    rcases entOk_len (by omega) h.2.2 with e1 | e1
    · subst e1; right; simp only [List.length_cons, List.length_nil]; omega
    · right; rw [List.length_cons]; omega
theorem store_len {s : List Entry} (h : storeValid s = true) : s.length ≤ 32 := by
  rcases entOk_len (by omega) h with e | e
  · subst e; simp
  · omega

theorem writesOk_ent {ws : List Entry} (h : entOk 0 (-1) ws = true) : WritesOk ws := fun w hw => by have := (entOk_spec 0 ws (-1) h).1 w hw; omega

theorem runE_ent {a : Action} {v : List Int} (ha : ActOk a) (hv : ValsOk v) : entOk 0 (-1) (runE a v).writes = true := by
  have hW := runE_writesOk ha hv
  have hs : ∀ k x : Int, (⟨k, x⟩ : Entry) ∈ (runE a v).writes → (-1 < k ∧ k ≤ 31) ∧ 0 ≤ x ∧ x ≤ 1000000 := fun k x h => by have := hW _ h; dsimp only at this; omega
  have hfr := ha.fr
  have hto := ha.to
  unfold runE at hs ⊢
  dsimp only at hs ⊢
  split
  · rename_i hd
    rw [if_pos hd] at hs
    unfold writesA at hs ⊢
    split
    · rename_i hk
      rw [if_pos hk] at hs
      rw [List.map_cons, List.map_nil] at hs ⊢
      rw [entOk_cons]
      have := hs _ _ (List.mem_cons_self ..)
      exact ⟨this.1, this.2, rfl⟩
    · rename_i hk
      rw [if_neg hk] at hs
      split
      · rename_i hk2
        rw [if_pos hk2] at hs
        rw [List.map_cons, List.map_nil] at hs ⊢
        rw [entOk_cons]
        have := hs _ _ (List.mem_cons_self ..)
        exact ⟨this.1, this.2, rfl⟩
      · rename_i hk2
        rw [if_neg hk2] at hs
        rw [List.map_cons, List.map_cons, List.map_nil] at hs ⊢
        rw [entOk_cons, entOk_cons]
        have h1 := hs _ _ (List.mem_cons_self ..)
        have h2 := hs _ _ (List.mem_cons_of_mem _ (List.mem_cons_self ..))
        exact ⟨h1.1, h1.2, ⟨by dsimp only; omega, h2.1.2⟩, h2.2, rfl⟩
  · rfl

theorem runE_wlen (a : Action) (v : List Int) : (runE a v).writes.length ≤ 2 := by
  unfold runE
  dsimp only
  split
  · rw [List.length_map]; exact writesA_len _
  · simp


end Go.Proofs.Yteebkimhfaodnaa

/- Contracts: drawn keys, values, actions. -/
set_option linter.unusedSimpArgs false
set_option linter.unusedVariables false
set_option maxRecDepth 20000
set_option maxHeartbeats 4000000
namespace Go.Proofs.Yteebkimhfaodnaa
open Go Go.RowKit

def NumQ (lo hi d : Int) (nb : Option Bool) (bs : List Int) (p : Int) (r : AV) (b : List AV) : Prop := ∃ x q : Int, r = .int .i64 x ∧ b = rd nb bs q ∧ p ≤ q ∧ q ≤ p + d ∧ lo ≤ x ∧ x ≤ hi

theorem wr0 : IntKind.i64.wrap 0 = 0 := by decide
theorem wr1 : IntKind.i64.wrap 1 = 1 := by decide
theorem wr2 : IntKind.i64.wrap 2 = 2 := by decide
theorem wr3 : IntKind.i64.wrap 3 = 3 := by decide
theorem wr4 : IntKind.i64.wrap 4 = 4 := by decide
theorem wr5 : IntKind.i64.wrap 5 = 5 := by decide
theorem wr6 : IntKind.i64.wrap 6 = 6 := by decide
theorem tn0 : (0 : Int).toNat = 0 := rfl
theorem tn1 : (1 : Int).toNat = 1 := rfl
theorem tn2 : (2 : Int).toNat = 2 := rfl
theorem tn3 : (3 : Int).toNat = 3 := rfl
theorem tn4 : (4 : Int).toNat = 4 := rfl
theorem tn5 : (5 : Int).toNat = 5 := rfl
theorem tn6 : (6 : Int).toNat = 6 := rfl

theorem c_spec_l20Key (nb : Option Bool) (bs : List Int) (p : Int) (h : RdOk bs p) (hp : p ≤ 999999000) : FSpec Try.prog 81 [.loc 0 0] true (rd nb bs p) (NumQ 0 31 3 nb bs p) := by
  refine fspec_rel tab_ok Try.call81 Try.func81 rfl 13 Try.ntmps81 (of_decide_eq_true rfl) fun B => codeK_sound tab_ok _ _ _ ?_
  unfold rd
  simp (config := { maxSteps := 4000000 }) only [go_sem, simprocAttr, ↓dnA, Try.f81, wr0, wr1, wr2, wr3, wr4, wr5, wr6, tn0, tn1, tn2, tn3, tn4, tn5, tn6]
  refine CallTo.of (c_spec_pick nb bs p 5 h) ?_
  rintro r b ⟨x, rfl, rfl, hx⟩
  have h1 := h.step (q := p + 1) (by omega) (by omega)
  unfold rd
  simp (config := { maxSteps := 4000000 }) only [go_sem, simprocAttr, ↓dnA, Try.f81, wr0, wr1, wr2, wr3, wr4, wr5, wr6, tn0, tn1, tn2, tn3, tn4, tn5, tn6]
  refine CallTo.of (c_spec_pick nb bs (p + 1) 32 h1) ?_
  rintro r b ⟨y, rfl, rfl, hy⟩
  have h2 := h.step (q := p + 1 + 1) (by omega) (by omega)
  unfold rd
  simp (config := { maxSteps := 4000000 }) only [go_sem, simprocAttr, ↓dnA, Try.f81, wr0, wr1, wr2, wr3, wr4, wr5, wr6, tn0, tn1, tn2, tn3, tn4, tn5, tn6]
  refine CallTo.of (c_spec_pick nb bs (p + 1 + 1) 4 h2) ?_
  rintro r b ⟨z, rfl, rfl, hz⟩
  unfold rd
  have hz4 : z = 0 ∨ z = 1 ∨ z = 2 ∨ z = 3 := by omega
  rcases hz4 with rfl | rfl | rfl | rfl
  all_goals
    simp (config := { maxSteps := 4000000 }) only [go_sem, simprocAttr, ↓dnA, Try.f81, wr0, wr1, wr2, wr3, wr4, wr5, wr6, tn0, tn1, tn2, tn3, tn4, tn5, tn6]
    exact .same ⟨_, _, rfl, rfl, by omega, by omega, by omega, by omega⟩


theorem c_spec_l20Value (nb : Option Bool) (bs : List Int) (p : Int) (h : RdOk bs p) (hp : p ≤ 999999000) : FSpec Try.prog 82 [.loc 0 0] true (rd nb bs p) (NumQ 0 1000000 3 nb bs p) := by
  refine fspec_rel tab_ok Try.call82 Try.func82 rfl 15 Try.ntmps82 (of_decide_eq_true rfl) fun B => codeK_sound tab_ok _ _ _ ?_
  unfold rd
  simp (config := { maxSteps := 4000000 }) only [go_sem, simprocAttr, ↓dnA, Try.f82, wr0, wr1, wr2, wr3, wr4, wr5, wr6, tn0, tn1, tn2, tn3, tn4, tn5, tn6]
  refine CallTo.of (c_spec_pick nb bs p 12 h) ?_
  rintro r b ⟨x, rfl, rfl, hx⟩
  have h1 := h.step (q := p + 1) (by omega) (by omega)
  unfold rd
  simp (config := { maxSteps := 4000000 }) only [go_sem, simprocAttr, ↓dnA, Try.f82, wr0, wr1, wr2, wr3, wr4, wr5, wr6, tn0, tn1, tn2, tn3, tn4, tn5, tn6]
  refine CallTo.of (c_spec_pick nb bs (p + 1) 256 h1) ?_
  rintro r b ⟨y, rfl, rfl, hy⟩
  have h2 := h.step (q := p + 1 + 1) (by omega) (by omega)
  unfold rd
  simp (config := { maxSteps := 4000000 }) only [go_sem, simprocAttr, ↓dnA, Try.f82, wr0, wr1, wr2, wr3, wr4, wr5, wr6, tn0, tn1, tn2, tn3, tn4, tn5, tn6]
  refine CallTo.of (c_spec_pick nb bs (p + 1 + 1) 7 h2) ?_
  rintro r b ⟨z, rfl, rfl, hz⟩
  unfold rd
  have hz4 : z = 0 ∨ z = 1 ∨ z = 2 ∨ z = 3 ∨ z = 4 ∨ z = 5 ∨ z = 6 := by omega
  rcases hz4 with rfl | rfl | rfl | rfl | rfl | rfl | rfl
  all_goals
    simp (config := { maxSteps := 4000000 }) only [go_sem, simprocAttr, ↓dnA, Try.f82, wr0, wr1, wr2, wr3, wr4, wr5, wr6, tn0, tn1, tn2, tn3, tn4, tn5, tn6]
    exact .same ⟨_, _, rfl, rfl, by omega, by omega, by omega, by omega⟩

def ActQ (nb : Option Bool) (bs : List Int) (p : Int) (r : AV) (b : List AV) : Prop := ∃ (a : Action) (q : Int), r = .agg (encA a) ∧ b = rd nb bs q ∧ p ≤ q ∧ q ≤ p + 15

theorem c_spec_l20Action (nb : Option Bool) (bs : List Int) (p n : Int) (h : RdOk bs p) (hp : p ≤ 999998000) (hn : 0 ≤ n ∧ n ≤ 1000000) : FSpec Try.prog 83 [.loc 0 0, .int .i64 n] true (rd nb bs p) (ActQ nb bs p) := by
  refine fspec_rel tab_ok Try.call83 Try.func83 rfl 58 Try.ntmps83 (of_decide_eq_true rfl) fun B => codeK_sound tab_ok _ _ _ ?_
  unfold rd
  simp (config := { maxSteps := 4000000 }) only [go_sem, simprocAttr, ↓dnA, Try.f83, wr0, wr1, wr2, wr3, wr4, wr5, wr6, tn0, tn1, tn2, tn3, tn4, tn5, tn6]
  refine CallTo.of (c_spec_pick nb bs p 6 h) ?_
  rintro r b ⟨x, rfl, rfl, hx⟩
  have h1 := h.step (q := p + 1) (by omega) (by omega)
  unfold rd
  simp (config := { maxSteps := 4000000 }) only [go_sem, simprocAttr, ↓dnA, Try.f83, wr0, wr1, wr2, wr3, wr4, wr5, wr6, tn0, tn1, tn2, tn3, tn4, tn5, tn6]
  refine CallTo.of (c_spec_l20Key nb bs (p + 1) h1 (by omega)) ?_
  rintro r b ⟨y, q1, rfl, rfl, hq1, hq1', hy⟩
  have h2 := h.step (q := q1) (by omega) (by omega)
  unfold rd
  simp (config := { maxSteps := 4000000 }) only [go_sem, simprocAttr, ↓dnA, Try.f83, wr0, wr1, wr2, wr3, wr4, wr5, wr6, tn0, tn1, tn2, tn3, tn4, tn5, tn6]
  refine CallTo.of (c_spec_l20Key nb bs q1 h2 (by omega)) ?_
  rintro r b ⟨z, q2, rfl, rfl, hq2, hq2', hz⟩
  have h3 := h.step (q := q2) (by omega) (by omega)
  unfold rd
  simp (config := { maxSteps := 4000000 }) only [go_sem, simprocAttr, ↓dnA, Try.f83, wr0, wr1, wr2, wr3, wr4, wr5, wr6, tn0, tn1, tn2, tn3, tn4, tn5, tn6]
  refine CallTo.of (c_spec_l20Value nb bs q2 h3 (by omega)) ?_
  rintro r b ⟨u, q3, rfl, rfl, hq3, hq3', hu⟩
  have h4 := h.step (q := q3) (by omega) (by omega)
  unfold rd
  have hx6 : x = 0 ∨ x = 1 ∨ x = 2 ∨ x = 3 ∨ x = 4 ∨ x = 5 := by omega
  rcases hx6 with rfl | rfl | rfl | rfl | rfl | rfl
  all_goals
    simp (config := { maxSteps := 4000000 }) only [go_sem, simprocAttr, ↓dnA, Try.f83, wr0, wr1, wr2, wr3, wr4, wr5, wr6, tn0, tn1, tn2, tn3, tn4, tn5, tn6]
    refine CallTo.of (c_spec_odd nb bs q3 n h4 hn) ?_
    rintro r b ⟨g, q4, rfl, rfl, hq4, hq4'⟩
    have h5 := h.step (q := q4) (by omega) (by omega)
    unfold rd
    cases g
    · simp (config := { maxSteps := 4000000 }) only [go_sem, simprocAttr, ↓dnA, Try.f83, wr0, wr1, wr2, wr3, wr4, wr5, wr6, tn0, tn1, tn2, tn3, tn4, tn5, tn6]
      exact .same ⟨⟨_, _, _, _⟩, q4, rfl, rfl, by omega, by omega⟩
    · simp (config := { maxSteps := 4000000 }) only [go_sem, simprocAttr, ↓dnA, Try.f83, wr0, wr1, wr2, wr3, wr4, wr5, wr6, tn0, tn1, tn2, tn3, tn4, tn5, tn6]
      refine CallTo.of (c_spec_pick nb bs q4 4 h5) ?_
      rintro r b ⟨m, rfl, rfl, hm⟩
      have h6 := h.step (q := q4 + 1) (by omega) (by omega)
      unfold rd
      have hm4 : m = 0 ∨ m = 1 ∨ m = 2 ∨ m = 3 := by omega
      rcases hm4 with rfl | rfl | rfl | rfl
      all_goals
        simp (config := { maxSteps := 4000000 }) only [go_sem, simprocAttr, ↓dnA, Try.f83, wr0, wr1, wr2, wr3, wr4, wr5, wr6, tn0, tn1, tn2, tn3, tn4, tn5, tn6]
        first
          | exact .same ⟨⟨_, _, _, _⟩, q4 + 1, rfl, rfl, by omega, by omega⟩
          | (refine CallTo.of (c_spec_pick nb bs (q4 + 1) 2 h6) ?_
             rintro r b ⟨m2, rfl, rfl, hm2⟩
             unfold rd
             have hm4 : m2 = 0 ∨ m2 = 1 := by omega
             rcases hm4 with rfl | rfl
             all_goals
               simp (config := { maxSteps := 4000000 }) only [go_sem, simprocAttr, ↓dnA, Try.f83, wr0, wr1, wr2, wr3, wr4, wr5, wr6, tn0, tn1, tn2, tn3, tn4, tn5, tn6]
               exact .same ⟨⟨_, _, _, _⟩, q4 + 1 + 1, rfl, rfl, by omega, by omega⟩)

end Go.Proofs.Yteebkimhfaodnaa

/- Contracts: drawn lists of actions, drawn stores. -/
set_option linter.unusedSimpArgs false
set_option linter.unusedVariables false
set_option maxRecDepth 20000
set_option maxHeartbeats 4000000
namespace Go.Proofs.Yteebkimhfaodnaa
open Go Go.RowKit

def ActsQ (nb : Option Bool) (bs : List Int) (p : Int) (r : AV) (b : List AV) : Prop := ∃ (xs : List Action) (q : Int), r = .osl true 4 (rows encA xs) ∧ b = rd nb bs q ∧ p ≤ q ∧ q ≤ p + 200 ∧ xs.length ≤ 20

theorem c_spec_l20Actions (nb : Option Bool) (bs : List Int) (p n : Int) (h : RdOk bs p) (hp : p ≤ 999990000) (hn : 0 ≤ n ∧ n ≤ 1000000) : FSpec Try.prog 50 [.loc 0 0, .int .i64 n] true (rd nb bs p) (ActsQ nb bs p) := by
  refine fspec_rel tab_ok Try.call50 Try.func50 rfl 38 Try.ntmps50 (of_decide_eq_true rfl) fun B => codeK_sound tab_ok _ _ _ ?_
  unfold rd
  simp (config := { maxSteps := 4000000 }) only [go_sem, simprocAttr, ↓dnA, Try.f50, rows_length]
  refine CallTo.of (c_spec_pick nb bs p 7 h) ?_
  rintro r b ⟨x, rfl, rfl, hx⟩
  unfold rd
  simp (config := { maxSteps := 4000000 }) only [go_sem, simprocAttr, ↓dnA, Try.f50, rows_length]
  obtain ⟨c0, rfl⟩ : ∃ c0 : Nat, x = (c0 : Int) := ⟨x.toNat, by omega⟩
  refine semL_for tab_ok (fun s : List Action × Nat × Int => ⟨38, [(0, .loc 900 0), (1, .int .i64 n), (5, .row 600 s.1.length), (6, .int .i64 s.2.1)], [(900, .var (rd nb bs s.2.2)), (600, .row true true 4 (rows encA s.1))]⟩) (fun s => s.2.1)
    (fun s => s.1.length + s.2.1 ≤ 6 ∧ p ≤ s.2.2 ∧ s.2.2 + 15 * s.2.1 ≤ p + 91) ([], c0, p + 1) [(900, 900), (7, 600)] (Weak.of (by rfl) ?_ ?_ (by rfl)) (by dsimp only; simp only [List.length_nil]; omega) ?_
  · simp (config := { maxSteps := 4000000 }) only [go_sem, simprocAttr, ↓dnA, Try.f50, rows_length, rd, frW, wk2, wk1, wkL, wkB, hpW, List.mem_cons, Prod.mk.injEq, exists_eq_left, exists_eq_right, exists_eq]
    try rfl
  · simp (config := { maxSteps := 4000000 }) only [go_sem, simprocAttr, ↓dnA, Try.f50, rows_length, rd, frW, wk2, wk1, wkL, wkB, hpW, List.mem_cons, Prod.mk.injEq, exists_eq_left, exists_eq_right, exists_eq]
    try rfl
  · rintro ⟨xs, c, q⟩ ⟨i1, i2, i3⟩
    dsimp only at i1 i2 i3 ⊢
    have hq := h.step (q := q) (by omega) (by omega)
    have htk : (rows encA xs).take xs.length = rows encA xs := by rw [List.take_of_length_le]; rw [rows_length]; omega
    by_cases hc : 0 < c
    · have hd : decide ((c : Int) > 0) = true := by simp; omega
      have hw : IntKind.i64.wrap ((c : Int) - 1) = ((c - 1 : Nat) : Int) := by rw [wrap_small _ (by omega) (by omega)]; omega
      simp (config := { maxSteps := 4000000 }) only [go_sem, simprocAttr, ↓dnA, Try.f50, rows_length, rd, hd, hw, htk]
      refine CallTo.of (c_spec_l20Action nb bs q 0 hq (by omega) (by omega)) ?_
      rintro r b ⟨a, q', rfl, rfl, hq1, hq2⟩
      simp (config := { maxSteps := 4000000 }) only [go_sem, simprocAttr, ↓dnA, Try.f50, rows_length, rd, encA, hd, hw, htk]
      repeat refine And.intro (by first | omega | (simp; done) | (simp; omega) | assumption) ?_
      refine ⟨(xs ++ [a], c - 1, q'), [(900, 900), (18, 600)], ⟨by dsimp only; simp only [List.length_append, List.length_cons, List.length_nil]; omega, by dsimp only; omega, by dsimp only; omega⟩, by dsimp only; omega, Weak.of (by rfl) ?_ ?_ (by rfl)⟩
      · simp (config := { maxSteps := 4000000 }) only [go_sem, simprocAttr, ↓dnA, Try.f50, rows_length, rd, List.length_append, frW, wk2, wk1, wkL, wkB, hpW, List.mem_cons, Prod.mk.injEq, exists_eq_left, exists_eq_right, exists_eq]
        rw [← rows_snoc]; rfl
      · simp (config := { maxSteps := 4000000 }) only [go_sem, simprocAttr, ↓dnA, Try.f50, rows_length, rd, List.length_append, frW, wk2, wk1, wkL, wkB, hpW, List.mem_cons, Prod.mk.injEq, exists_eq_left, exists_eq_right, exists_eq]
    · obtain rfl : c = 0 := by omega
      simp (config := { maxSteps := 4000000 }) only [go_sem, simprocAttr, ↓dnA, Try.f50, rows_length, rd, htk]
      refine CallTo.of (c_spec_odd nb bs q n hq hn) ?_
      rintro r b ⟨g, q1, rfl, rfl, hq1, hq2⟩
      have h5 := h.step (q := q1) (by omega) (by omega)
      unfold rd
      cases g with
      | false =>
        simp (config := { maxSteps := 4000000 }) only [go_sem, simprocAttr, ↓dnA, Try.f50, rows_length, htk]
        exact .same ⟨xs, q1, rfl, rfl, by omega, by omega, by omega⟩
      | true =>
        simp (config := { maxSteps := 4000000 }) only [go_sem, simprocAttr, ↓dnA, Try.f50, rows_length, htk]
        refine CallTo.of (c_spec_pick nb bs q1 2 h5) ?_
        rintro r b ⟨z, rfl, rfl, hz⟩
        have h6 := h.step (q := q1 + 1) (by omega) (by omega)
        unfold rd
        have hz2 : z = 0 ∨ z = 1 := by omega
        rcases hz2 with rfl | rfl
        · simp (config := { maxSteps := 4000000 }) only [go_sem, simprocAttr, ↓dnA, Try.f50, rows_length, htk]
          refine CallTo.of (c_spec_l20Action nb bs (q1 + 1) 1 h6 (by omega) (by omega)) ?_
          rintro r b ⟨a, q', rfl, rfl, hq3, hq4⟩
          have hl : (rows encA xs ++ [[AV.int IntKind.i64 a.kind, AV.int IntKind.i64 a.fr, AV.int IntKind.i64 a.to, AV.int IntKind.i64 a.amount]]) = rows encA (xs ++ [a]) := by rw [← rows_snoc]; rfl
          have hl2 : (xs ++ [a]).length = xs.length + 1 := by simp
          simp (config := { maxSteps := 4000000 }) only [go_sem, simprocAttr, ↓dnA, Try.f50, rows_length, rd, encA, htk, hl, hl2]
          repeat refine And.intro (by first | omega | (simp; done) | (simp; omega) | assumption) ?_
          exact .same ⟨xs ++ [a], q', rfl, rfl, by omega, by omega, by rw [hl2]; omega⟩
        · simp (config := { maxSteps := 4000000 }) only [go_sem, simprocAttr, ↓dnA, Try.f50, rows_length, htk]
          refine semL_for tab_ok (fun s : List Action => ⟨38, [(5, .row 600 s.length)], [(900, .var (rd nb bs (q1 + 1))), (600, .row true true 4 (rows encA s))]⟩) (fun s => 11 - s.length)
            (fun s => s.length ≤ 11) xs [(900, 900), (600, 600)] (Weak.of (by rfl) ?_ ?_ (by rfl)) (by omega) ?_
          · simp (config := { maxSteps := 4000000 }) only [go_sem, simprocAttr, ↓dnA, Try.f50, rows_length, rd, frW, wk2, wk1, wkL, wkB, hpW, List.mem_cons, Prod.mk.injEq, exists_eq_left, exists_eq_right, exists_eq]
          · simp (config := { maxSteps := 4000000 }) only [go_sem, simprocAttr, ↓dnA, Try.f50, rows_length, rd, frW, wk2, wk1, wkL, wkB, hpW, List.mem_cons, Prod.mk.injEq, exists_eq_left, exists_eq_right, exists_eq]
          · intro ys hy
            have htk : (rows encA ys).take ys.length = rows encA ys := by rw [List.take_of_length_le]; rw [rows_length]; omega
            by_cases h10 : ys.length ≤ 10
            · have hd : decide ((ys.length : Int) ≤ 10) = true := by simp; omega
              simp (config := { maxSteps := 4000000 }) only [go_sem, simprocAttr, ↓dnA, Try.f50, rows_length, rd, hd, htk]
              repeat refine And.intro (by first | omega | (simp; done) | (simp; omega) | assumption) ?_
              refine ⟨ys ++ [⟨1, 0, 0, 0⟩], [(900, 900), (36, 600)], by simp; omega, by simp; omega, Weak.of (by rfl) ?_ ?_ (by rfl)⟩
              · simp (config := { maxSteps := 4000000 }) only [go_sem, simprocAttr, ↓dnA, Try.f50, rows_length, rd, List.length_append, frW, wk2, wk1, wkL, wkB, hpW, List.mem_cons, Prod.mk.injEq, exists_eq_left, exists_eq_right, exists_eq]
                rw [← rows_snoc]; rfl
              · simp (config := { maxSteps := 4000000 }) only [go_sem, simprocAttr, ↓dnA, Try.f50, rows_length, rd, List.length_append, frW, wk2, wk1, wkL, wkB, hpW, List.mem_cons, Prod.mk.injEq, exists_eq_left, exists_eq_right, exists_eq]
                try rfl
            · have hd : decide ((ys.length : Int) ≤ 10) = false := by simp; omega
              simp (config := { maxSteps := 4000000 }) only [go_sem, simprocAttr, ↓dnA, Try.f50, rows_length, rd, hd, htk]
              exact .same ⟨ys, q1 + 1, rfl, rfl, by omega, by omega, by omega⟩

end Go.Proofs.Yteebkimhfaodnaa

/- Contracts: drawn stores, drawn serial runs. -/
set_option linter.unusedSimpArgs false
set_option linter.unusedVariables false
set_option maxRecDepth 20000
set_option maxHeartbeats 4000000
namespace Go.Proofs.Yteebkimhfaodnaa
open Go Go.RowKit

/-- A store with a value put. -/
def putValue (s : List Entry) (k x : Int) : List Entry × Bool := if storeValid s then (if inB k 0 31 && inB x 0 1000000 then (putD k x (x == 0) s, true) else (s, false)) else ([], false)

theorem putValue_len (s : List Entry) (k x : Int) (h : s.length ≤ 40) : (putValue s k x).1.length ≤ 40 := by
  unfold putValue
  split
  · rename_i hs
    split
    · rename_i hb
      rw [Bool.and_eq_true] at hb
      have := store_len (putD_ok (inB_iff.1 hb.1) (inB_iff.1 hb.2) hs).1
      dsimp only; omega
    · exact h
  · simp

theorem c_spec_PutValue (n1 : Option Bool) (s : List Entry) (k x : Int) (hs : s.length ≤ 1000) : Det Try.prog 80 [.sl n1 (rows encE s), .int .i64 k, .int .i64 x] (.tup [.osl true 2 (rows encE (putValue s k x).1), .bool (putValue s k x).2]) := by
  refine fspec_det tab_ok Try.call80 Try.func80 rfl 27 Try.ntmps80 (of_decide_eq_true rfl) fun B => codeK_sound tab_ok _ _ _ ?_
  unfold putValue
  have b1 := all_rows encE AV.flat (fun _ => rfl) s
  have b2 := all_rows encE AV.one (fun _ => rfl) s
  have b3 := sz0_rows encE 2 (fun _ => rfl) s
  simp (config := { maxSteps := 4000000 }) only [go_sem, simprocAttr, ↓dnA, Try.f80, rows_length]
  refine CallTo.det (c_spec_StoreValid n1 s (by omega)) fun _ => ?_
  cases h1 : storeValid s with
  | false => simp (config := { maxSteps := 4000000 }) only [go_sem, simprocAttr, ↓dnA, Try.f80, rows_length, h1, rows_nil]
  | true =>
    simp (config := { maxSteps := 4000000 }) only [go_sem, simprocAttr, ↓dnA, Try.f80, rows_length, h1]
    refine CallTo.det (c_l1In _ _ _) fun _ => ?_
    cases h2 : inB k 0 31 with
    | false =>
      simp (config := { maxSteps := 4000000 }) only [go_sem, simprocAttr, ↓dnA, Try.f80, rows_length, h1, h2, b1, b2, b3]
      repeat refine And.intro (by first | omega | (simp; done) | (simp; omega) | assumption) ?_
      omega
    | true =>
      simp (config := { maxSteps := 4000000 }) only [go_sem, simprocAttr, ↓dnA, Try.f80, rows_length, h1, h2]
      refine CallTo.det (c_l1In _ _ _) fun _ => ?_
      cases h3 : inB x 0 1000000 with
      | false =>
        simp (config := { maxSteps := 4000000 }) only [go_sem, simprocAttr, ↓dnA, Try.f80, rows_length, h1, h2, h3, b1, b2, b3]
        repeat refine And.intro (by first | omega | (simp; done) | (simp; omega) | assumption) ?_
        omega
      | true =>
        simp (config := { maxSteps := 4000000 }) only [go_sem, simprocAttr, ↓dnA, Try.f80, rows_length, h1, h2, h3]
        refine CallTo.det (c_spec_l2Put n1 s k x (by omega)) fun _ => ?_
        simp (config := { maxSteps := 4000000 }) only [go_sem, simprocAttr, ↓dnA, Try.f80, rows_length, h1, h2, h3]

def StoreQ (nb : Option Bool) (bs : List Int) (p : Int) (r : AV) (b : List AV) : Prop := ∃ (xs : List Entry) (q : Int), r = .osl true 2 (rows encE xs) ∧ b = rd nb bs q ∧ p ≤ q ∧ q ≤ p + 200 ∧ xs.length ≤ 50

theorem c_spec_l20Store (nb : Option Bool) (bs : List Int) (p n : Int) (h : RdOk bs p) (hp : p ≤ 999990000) (hn : 0 ≤ n ∧ n ≤ 1000000) : FSpec Try.prog 49 [.loc 0 0, .int .i64 n] true (rd nb bs p) (StoreQ nb bs p) := by
  refine fspec_rel tab_ok Try.call49 Try.func49 rfl 57 Try.ntmps49 (of_decide_eq_true rfl) fun B => codeK_sound tab_ok _ _ _ ?_
  unfold rd
  simp (config := { maxSteps := 4000000 }) only [go_sem, simprocAttr, ↓dnA, Try.f49, rows_length, wr0, wr1, wr2, wr3, tn0, tn1, tn2, tn3]
  refine CallTo.of (c_spec_pick nb bs p 7 h) ?_
  rintro r b ⟨x, rfl, rfl, hx⟩
  unfold rd
  simp (config := { maxSteps := 4000000 }) only [go_sem, simprocAttr, ↓dnA, Try.f49, rows_length, wr0, wr1, wr2, wr3, tn0, tn1, tn2, tn3]
  obtain ⟨c0, rfl⟩ : ∃ c0 : Nat, x = (c0 : Int) := ⟨x.toNat, by omega⟩
  refine semL_for tab_ok (fun s : List Entry × Nat × Int => ⟨57, [(0, .loc 900 0), (1, .int .i64 n), (5, .row 600 s.1.length), (6, .int .i64 s.2.1)], [(900, .var (rd nb bs s.2.2)), (600, .row true true 2 (rows encE s.1))]⟩) (fun s => s.2.1)
    (fun s => s.1.length ≤ 40 ∧ p ≤ s.2.2 ∧ s.2.2 + 6 * s.2.1 ≤ p + 91) ([], c0, p + 1) [(900, 900), (7, 600)] (Weak.of (by rfl) ?_ ?_ (by rfl)) (by dsimp only; simp only [List.length_nil]; omega) ?_
  · simp (config := { maxSteps := 4000000 }) only [go_sem, simprocAttr, ↓dnA, Try.f49, rows_length, wr0, wr1, wr2, wr3, tn0, tn1, tn2, tn3, rd, frW, wk2, wk1, wkL, wkB, hpW, List.mem_cons, Prod.mk.injEq, exists_eq_left, exists_eq_right, exists_eq]
    try rfl
  · simp (config := { maxSteps := 4000000 }) only [go_sem, simprocAttr, ↓dnA, Try.f49, rows_length, wr0, wr1, wr2, wr3, tn0, tn1, tn2, tn3, rd, frW, wk2, wk1, wkL, wkB, hpW, List.mem_cons, Prod.mk.injEq, exists_eq_left, exists_eq_right, exists_eq]
    try rfl
  · rintro ⟨xs, c, q⟩ ⟨i1, i2, i3⟩
    dsimp only at i1 i2 i3 ⊢
    have hq := h.step (q := q) (by omega) (by omega)
    have htk : (rows encE xs).take xs.length = rows encE xs := by rw [List.take_of_length_le]; rw [rows_length]; omega
    by_cases hc : 0 < c
    · have hd : decide ((c : Int) > 0) = true := by simp; omega
      have hw : IntKind.i64.wrap ((c : Int) - 1) = ((c - 1 : Nat) : Int) := by rw [wrap_small _ (by omega) (by omega)]; omega
      simp (config := { maxSteps := 4000000 }) only [go_sem, simprocAttr, ↓dnA, Try.f49, rows_length, wr0, wr1, wr2, wr3, tn0, tn1, tn2, tn3, rd, hd, hw, htk]
      refine CallTo.of (c_spec_l20Key nb bs q hq (by omega)) ?_
      rintro r b ⟨k, q', rfl, rfl, hq1, hq2, hk⟩
      have hq' := h.step (q := q') (by omega) (by omega)
      simp (config := { maxSteps := 4000000 }) only [go_sem, simprocAttr, ↓dnA, Try.f49, rows_length, wr0, wr1, wr2, wr3, tn0, tn1, tn2, tn3, rd, hd, hw, htk]
      refine CallTo.of (c_spec_l20Value nb bs q' hq' (by omega)) ?_
      rintro r b ⟨v, q2, rfl, rfl, hq3, hq4, hv⟩
      simp (config := { maxSteps := 4000000 }) only [go_sem, simprocAttr, ↓dnA, Try.f49, rows_length, wr0, wr1, wr2, wr3, tn0, tn1, tn2, tn3, rd, hd, hw, htk]
      have hpl := putValue_len xs k v i1
      refine CallTo.det (c_spec_PutValue _ xs k v (by omega)) fun _ => ?_
      generalize putValue xs k v = ys at hpl
      obtain ⟨ys, ok⟩ := ys
      dsimp only at hpl ⊢
      simp (config := { maxSteps := 4000000 }) only [go_sem, simprocAttr, ↓dnA, Try.f49, rows_length, wr0, wr1, wr2, wr3, tn0, tn1, tn2, tn3, rd, hd, hw, htk]
      refine ⟨(ys, c - 1, q2), [(900, 900), (21000, 600)], ⟨by dsimp only; omega, by dsimp only; omega, by dsimp only; omega⟩, by dsimp only; omega, Weak.of (by rfl) ?_ ?_ (by rfl)⟩
      · simp (config := { maxSteps := 4000000 }) only [go_sem, simprocAttr, ↓dnA, Try.f49, rows_length, wr0, wr1, wr2, wr3, tn0, tn1, tn2, tn3, rd, frW, wk2, wk1, wkL, wkB, hpW, List.mem_cons, Prod.mk.injEq, exists_eq_left, exists_eq_right, exists_eq]
      · simp (config := { maxSteps := 4000000 }) only [go_sem, simprocAttr, ↓dnA, Try.f49, rows_length, wr0, wr1, wr2, wr3, tn0, tn1, tn2, tn3, rd, frW, wk2, wk1, wkL, wkB, hpW, List.mem_cons, Prod.mk.injEq, exists_eq_left, exists_eq_right, exists_eq]
    · obtain rfl : c = 0 := by omega
      have b1 := all_rows encE AV.flat (fun _ => rfl) xs
      have b2 := all_rows encE AV.one (fun _ => rfl) xs
      have b3 := sz0_rows encE 2 (fun _ => rfl) xs
      simp (config := { maxSteps := 4000000 }) only [go_sem, simprocAttr, ↓dnA, Try.f49, rows_length, wr0, wr1, wr2, wr3, tn0, tn1, tn2, tn3, rd, htk]
      refine CallTo.of (c_spec_odd nb bs q n hq hn) ?_
      rintro r b ⟨g, q1, rfl, rfl, hq1, hq2⟩
      have h5 := h.step (q := q1) (by omega) (by omega)
      unfold rd
      cases g with
      | false =>
        simp (config := { maxSteps := 4000000 }) only [go_sem, simprocAttr, ↓dnA, Try.f49, rows_length, wr0, wr1, wr2, wr3, tn0, tn1, tn2, tn3, htk]
        exact .same ⟨xs, q1, rfl, rfl, by omega, by omega, by omega⟩
      | true =>
        simp (config := { maxSteps := 4000000 }) only [go_sem, simprocAttr, ↓dnA, Try.f49, rows_length, wr0, wr1, wr2, wr3, tn0, tn1, tn2, tn3, htk]
        refine CallTo.of (c_spec_pick nb bs q1 4 h5) ?_
        rintro r b ⟨z, rfl, rfl, hz⟩
        have h6 := h.step (q := q1 + 1) (by omega) (by omega)
        unfold rd
        have hz2 : z = 0 ∨ z = 1 ∨ z = 2 ∨ z = 3 := by omega
        rcases hz2 with rfl | rfl | rfl | rfl
        · have hl : rows encE xs ++ [[AV.int IntKind.i64 32, AV.int IntKind.i64 1]] = rows encE (xs ++ [⟨32, 1⟩]) := by rw [← rows_snoc]; rfl
          have hl2 : (xs ++ [(⟨32, 1⟩ : Entry)]).length = xs.length + 1 := by simp
          simp (config := { maxSteps := 4000000 }) only [go_sem, simprocAttr, ↓dnA, Try.f49, rows_length, wr0, wr1, wr2, wr3, tn0, tn1, tn2, tn3, htk, hl, hl2]
          repeat refine And.intro (by first | omega | (simp; done) | (simp; omega) | assumption) ?_
          exact .same ⟨xs ++ [⟨32, 1⟩], q1 + 1, rfl, rfl, by omega, by omega, by rw [hl2]; omega⟩
        · simp (config := { maxSteps := 4000000 }) only [go_sem, simprocAttr, ↓dnA, Try.f49, rows_length, wr0, wr1, wr2, wr3, tn0, tn1, tn2, tn3, htk]
          exact .same ⟨[⟨31, 1⟩, ⟨0, 1⟩], q1 + 1, rfl, rfl, by omega, by omega, by simp⟩
        · simp (config := { maxSteps := 4000000 }) only [go_sem, simprocAttr, ↓dnA, Try.f49, rows_length, wr0, wr1, wr2, wr3, tn0, tn1, tn2, tn3, htk]
          refine CallTo.of (c_spec_pick nb bs (q1 + 1) 3 h6) ?_
          rintro r b ⟨m, rfl, rfl, hm⟩
          unfold rd
          have hm4 : m = 0 ∨ m = 1 ∨ m = 2 := by omega
          rcases hm4 with rfl | rfl | rfl
          · simp (config := { maxSteps := 4000000 }) only [go_sem, simprocAttr, ↓dnA, Try.f49, rows_length, wr0, wr1, wr2, wr3, tn0, tn1, tn2, tn3, htk]
            exact .same ⟨[⟨1, 0⟩], q1 + 1 + 1, rfl, rfl, by omega, by omega, by simp⟩
          · simp (config := { maxSteps := 4000000 }) only [go_sem, simprocAttr, ↓dnA, Try.f49, rows_length, wr0, wr1, wr2, wr3, tn0, tn1, tn2, tn3, htk]
            exact .same ⟨[⟨1, -1⟩], q1 + 1 + 1, rfl, rfl, by omega, by omega, by simp⟩
          · simp (config := { maxSteps := 4000000 }) only [go_sem, simprocAttr, ↓dnA, Try.f49, rows_length, wr0, wr1, wr2, wr3, tn0, tn1, tn2, tn3, htk]
            exact .same ⟨[⟨1, 1000001⟩], q1 + 1 + 1, rfl, rfl, by omega, by omega, by simp⟩
        · simp (config := { maxSteps := 4000000 }) only [go_sem, simprocAttr, ↓dnA, Try.f49, rows_length, wr0, wr1, wr2, wr3, tn0, tn1, tn2, tn3, htk]
          repeat refine And.intro (by first | omega | (simp; done) | (simp; omega) | assumption) ?_
          exact .same ⟨⟨-1, 5⟩ :: xs, q1 + 1, rfl, rfl, by omega, by omega, by simp; omega⟩

def DrawRunQ (r : AV) (b : List AV) : Prop := ∃ (s : List Entry) (l : List Action), r = .tup [.osl true 2 (rows encE s), .osl true 4 (rows encA l)] ∧ s.length ≤ 50 ∧ l.length ≤ 20

theorem c_spec_DrawRunSerial (nb : Option Bool) (bs : List Int) (h : CodeOk bs) : FSpec Try.prog 24 [.sl nb (rows encB bs)] false [] DrawRunQ := by
  refine fspec_rel tab_ok Try.call24 Try.func24 rfl 13 Try.ntmps24 (of_decide_eq_true rfl) fun B => codeK_sound tab_ok _ _ _ ?_
  simp (config := { maxSteps := 4000000 }) only [go_sem, simprocAttr, ↓dnA, Try.f24, rows_length]
  refine CallTo.of (c_spec_l20Open nb bs h) ?_
  rintro r b rfl
  unfold rd
  simp (config := { maxSteps := 4000000 }) only [go_sem, simprocAttr, ↓dnA, Try.f24, rows_length]
  have h0 := code_take h
  refine CallTo.of (c_spec_l20Store nb _ 0 12 h0 (by omega) (by omega)) ?_
  rintro r b ⟨s, q, rfl, rfl, hq1, hq2, hs⟩
  have h1 := h0.step (q := q) (by omega) (by omega)
  unfold rd
  simp (config := { maxSteps := 4000000 }) only [go_sem, simprocAttr, ↓dnA, Try.f24, rows_length]
  refine CallTo.of (c_spec_l20Actions nb _ q 12 h1 (by omega) (by omega)) ?_
  rintro r b ⟨l, q', rfl, rfl, hq3, hq4, hl⟩
  unfold rd
  simp (config := { maxSteps := 4000000 }) only [go_sem, simprocAttr, ↓dnA, Try.f24, rows_length]
  exact .same ⟨s, l, rfl, hs, hl⟩

end Go.Proofs.Yteebkimhfaodnaa

