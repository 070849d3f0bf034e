/- A call: the state behind it. -/
import Derived.Test.YtdaemhaecjldaaaAi11
namespace Go.Proofs.Ytdaemhaecjldaaa
open Go Go.RowKit

def slFree : AV → Bool
  | .int _ _ => true
  | .bool _ => true
  | .osl _ _ _ => true
  | _ => false

def slFreeP : AV → Bool
  | .agg cs => cs.all slFree
  | a => slFree a

def slFreeR : AV → Bool
  | .tup rs => rs.all slFreeP
  | a => slFreeP a

theorem BCell.free {w : World} {S S' : Nat → Prop} {v : Value} {a : AV} {F : Nat → Prop} (h : BCell w S v a F) (hf : slFree a = true) : BCell w S' v a F := by
  cases h with
  | pure a F h hF =>
    cases h with
    | int k n => exact .pure _ _ _ (.int _ _) hF
    | bool b => exact .pure _ _ _ (.bool _) hF
    | _ => cases hf
  | osl nn sz es F h => exact .osl _ _ _ _ _ h

theorem BCells.free {w : World} {S S' : Nat → Prop} {vs : Nat → Value} {cs : List AV} {FF : Nat → Nat → Prop} (h : BCells w S vs cs FF) (hf : cs.all slFree = true) : BCells w S' vs cs FF :=
  ⟨fun i hi => (h.cell i hi).free (List.all_eq_true.1 hf _ (getD_mem _ _ _ hi)), h.dis⟩

theorem BPart.free {w : World} {S S' : Nat → Prop} {v : Value} {a : AV} {F : Nat → Prop} (h : BPart w S v a F) (hf : slFreeP a = true) : BPart w S' v a F := by
  cases h with
  | cell v a F h =>
    cases h with
    | pure a F h hF =>
      cases h with
      | int k n => exact .cell _ _ _ (.pure _ _ _ (.int _ _) hF)
      | bool b => exact .cell _ _ _ (.pure _ _ _ (.bool _) hF)
      | agg vs cs hl h =>
        refine .cell _ _ _ (.pure _ _ _ (.agg _ _ hl fun i hi => ?_) hF)
        have h1 := h i hi
        have h2 := List.all_eq_true.1 hf _ (getD_mem cs i .top hi)
        generalize cs.getD i .top = c at *
        generalize vs.getD i undef = u at *
        cases h1 with
        | int k n => exact .int _ _
        | bool b => exact .bool _
        | _ => cases h2
      | _ => cases hf
    | osl nn sz es F h => exact .cell _ _ _ (.osl _ _ _ _ _ h)
  | agg vs cs FF F hl h hF => exact .agg vs cs FF F hl (h.free hf) hF

theorem BRes.free {w : World} {S S' : Nat → Prop} {v : Value} {a : AV} {F : Nat → Prop} (h : BRes w S v a F) (hf : slFreeR a = true) : BRes w S' v a F := by
  cases h with
  | part v a F h =>
    cases a with
    | tup rs =>
      cases h with
      | cell v a F h =>
        cases h with
        | pure a F h hF =>
          cases h with
          | tup vs _ hl h =>
            have key : ∀ (i : Nat) (hi : i < rs.length), BPart w S' (vs.getD i undef) (rs.getD i .top) (fun _ => False) := fun i hi =>
              BPart.free (.cell _ _ _ (.pure _ _ _ (h i hi) (fun _ e => e))) (List.all_eq_true.1 hf _ (getD_mem _ _ _ hi))
            exact .tup vs rs (fun _ _ => False) F hl key (fun _ _ _ _ _ e => e.elim) (fun x => ⟨fun e => absurd e (hF x), fun ⟨_, _, e⟩ => e.elim⟩)
    | _ => exact .part _ _ _ (h.free hf)
  | tup vs rs FF F hl h hd hF => exact .tup vs rs FF F hl (fun i hi => (h i hi).free (List.all_eq_true.1 hf _ (getD_mem _ _ _ hi))) hd hF
  | box b c ty cs F hb hl h hF => cases hf

theorem BCell.mono {w : World} {S S' : Nat → Prop} {v : Value} {a : AV} {F : Nat → Prop} (hS : ∀ x, S x → S' x) (h : BCell w S v a F) : BCell w S' v a F := by
  cases h with
  | pure a F h hF => exact .pure _ _ _ (h.mono hS) hF
  | osl nn sz es F h => exact .osl _ _ _ _ _ h

theorem BCells.mono {w : World} {S S' : Nat → Prop} {vs : Nat → Value} {cs : List AV} {FF : Nat → Nat → Prop} (hS : ∀ x, S x → S' x) (h : BCells w S vs cs FF) : BCells w S' vs cs FF :=
  ⟨fun i hi => (h.cell i hi).mono hS, h.dis⟩

theorem BPart.mono {w : World} {S S' : Nat → Prop} {v : Value} {a : AV} {F : Nat → Prop} (hS : ∀ x, S x → S' x) (h : BPart w S v a F) : BPart w S' v a F := by
  cases h with
  | cell v a F h => exact .cell _ _ _ (h.mono hS)
  | agg vs cs FF F hl h hF => exact .agg vs cs FF _ hl (h.mono hS) hF

theorem BRes.mono {w : World} {S S' : Nat → Prop} {v : Value} {a : AV} {F : Nat → Prop} (hS : ∀ x, S x → S' x) (h : BRes w S v a F) : BRes w S' v a F := by
  cases h with
  | part v a F h => exact .part _ _ _ (h.mono hS)
  | tup vs rs FF F hl h hd hF => exact .tup vs rs FF _ hl (fun i hi => (h i hi).mono hS) hd hF
  | box b c ty cs F hb hl h hF => exact .box b c ty cs _ hb hl (fun i hi => (h i hi).mono hS) hF

theorem BoxAt.mono {w : World} {S S' : Nat → Prop} {b : Nat} {cs : List AV} {BF : Nat → Nat → Prop} (hS : ∀ x, S x → S' x) (h : BoxAt w S b cs BF) : BoxAt w S' b cs BF :=
  ⟨let ⟨c, ty, h1, h2, h3⟩ := h.at_; ⟨c, ty, h1, h2, h3.mono hS⟩, h.nb⟩

/-- New names: no two alike, none there yet. -/
def newOk (s : AState) : List (Nat × ABlk) → Prop
  | [] => True
  | p :: r => (s.blk p.1 = .none ∧ p.1 ≠ 900) ∧ p.1 ∉ r.map Prod.fst ∧ newOk s r

theorem newOk_nodup {s : AState} : ∀ {B : List (Nat × ABlk)}, newOk s B → (B.map Prod.fst).Nodup ∧ ∀ i, i ∈ B.map Prod.fst → s.blk i = .none ∧ i ≠ 900
  | [], _ => by simp
  | p :: r, h => by
    obtain ⟨h1, h2, h3⟩ := h
    obtain ⟨h4, h5⟩ := newOk_nodup h3
    refine ⟨by rw [List.map_cons, List.nodup_cons]; exact ⟨h2, h4⟩, ?_⟩
    intro i hi
    rw [List.map_cons, List.mem_cons] at hi
    rcases hi with rfl | hi
    · exact h1
    · exact h5 i hi

theorem map_blk_fst (L : List Imp) : (L.map Imp.blk).map Prod.fst = L.map Imp.id := by
  rw [List.map_map]; rfl

/-- The state behind a call (but for the slot of the result): a result without a box. -/
theorem R.recv {X : Ctx} {s s' : AState} {a : Act} {w w' : World} (h : R X s a w) {T : Nat → Prop} {L : List Imp} {hb : Bool} {bid b : Nat} {cs : List AV} {S : Nat → Prop} {c : Array Value} {ty : TypeId}
    (hnd : (L.map Imp.id).Nodup) (hnew : ∀ i, i ∈ L.map Imp.id → s.blk i = .none) (h9 : ∀ i, i ∈ L.map Imp.id → i ≠ 900) (hL : ∀ m, m ∈ L → OwnS w' m.v m.nn m.sz m.es m.F) (hdis : L.Pairwise (fun m m' => ∀ x, m.F x → ¬ m'.F x))
    (hT : ∀ i, T i ↔ i ∈ L.map Imp.id ∨ (T i ∧ s'.blk i = .dead) ∨ (hb = true ∧ i = bid))
    (hLs : ∀ m, m ∈ L → s'.blk m.id = .row true m.nn m.sz m.es) (hnT : ∀ i, ¬ T i → s'.blk i = s.blk i) (hnt : s'.nt = s.nt) (hfr : s'.fr = s.fr)
    (hdead : ∀ i, T i → s'.blk i = .dead → i ∉ L.map Imp.id) 
    (hbx : hb = true → (∃ cs0, s.blk bid = .var cs0) ∧ s'.blk bid = .var cs ∧ X.at_ bid = some b ∧ (∀ m, m ∈ L → ¬ m.F b) ∧ w'.heap[b]? = some (.cells c ty (0, 0)) ∧ c.size = cs.length ∧
      ∀ (X' : Ctx) (kd : Nat → Kd), (∀ x, S x → X'.Sh x) → Fits X' kd L → ∀ (i : Nat) (_ : i < cs.length), VRel X' kd w' (c.getD i undef) (cs.getD i .top))
    (hos : w'.os = w.os) (htape : w'.tape = w.tape) (hout : w'.output = w.output) (hsize : w.heap.size ≤ w'.heap.size)
    (hheap : ∀ x, x < w.heap.size → (∀ id, T id → X.own x ≠ some id) → w'.heap[x]? = w.heap[x]?)
    (hF : ∀ m, m ∈ L → ∀ x, m.F x → (∃ t, T t ∧ X.own x = some t) ∨ w.heap.size ≤ x)
    (hS : ∀ x, S x → (∀ m, m ∈ L → ¬ m.F x) ∧ (hb = true → x ≠ b) ∧ X.base.A x ∧ (∀ id, X.own x = some id → T id)) :
    ∃ X' : Ctx, X'.base = X.base ∧ R X' s' a w' ∧ (∀ x, S x → X'.Sh x) ∧ Fits X' s'.kds L ∧ ∀ v av, VRel X s.kds w v av → VRel X' s'.kds w' v av := by
  classical
  obtain ⟨fo, fo1, fo2⟩ := ownL_ex L hdis (fun x => if hb = true ∧ x = b then some bid else if ∃ t, T t ∧ X.own x = some t then none else X.own x)
  obtain ⟨fa, fa1, fa2⟩ := atL_ex L hnd (fun m => blockOf m.v) X.at_
  obtain ⟨fc, fc1, fc2⟩ := atL_ex L hnd (fun m => capOf m.v) X.cap
  let X' : Ctx := { X with at_ := fa, cap := fc, own := fo }
  have hTL : ∀ m, m ∈ L → T m.id := fun m hm => (hT m.id).2 (.inl (List.mem_map_of_mem hm))
  have hTb : hb = true → T bid := fun e => (hT bid).2 (.inr (.inr ⟨e, rfl⟩))
  have hbown : hb = true → X.own b = some bid := by
    intro e
    obtain ⟨⟨cs0, h1⟩, _, h2, _⟩ := hbx e
    have hB := h.bl bid
    rw [h1] at hB
    obtain ⟨b', _, _, h3, _, h4, _⟩ := hB
    rw [h2] at h3; cases h3
    exact (h4 b).2 rfl
  have hbL : hb = true → bid ∉ L.map Imp.id := by
    intro e hm
    obtain ⟨⟨cs0, h1⟩, _⟩ := hbx e
    rw [hnew bid hm] at h1; cases h1
  have hrest : ∀ x, (∀ m, m ∈ L → ¬ m.F x) → ¬ (hb = true ∧ x = b) → (∀ t, T t → X.own x ≠ some t) → fo x = X.own x := by
    intro x h1 h2 h3
    rw [fo2 x h1, if_neg h2, if_neg (fun ⟨t, e1, e2⟩ => h3 t e1 e2)]
  -- who owns a block
  have hwho : ∀ x i, fo x = some i → (∃ m, m ∈ L ∧ m.id = i ∧ m.F x) ∨ (hb = true ∧ x = b ∧ i = bid) ∨ (¬ T i ∧ X.own x = some i ∧ ∀ m, m ∈ L → ¬ m.F x) := by
    intro x i hx
    by_cases hm : ∃ m, m ∈ L ∧ m.F x
    · obtain ⟨m, h1, h2⟩ := hm
      rw [fo1 m h1 x h2] at hx
      cases hx
      exact .inl ⟨m, h1, rfl, h2⟩
    · have hm' : ∀ m, m ∈ L → ¬ m.F x := fun m h1 h2 => hm ⟨m, h1, h2⟩
      rw [fo2 x hm'] at hx
      split at hx
      · rename_i e
        cases hx
        exact .inr (.inl ⟨e.1, e.2, rfl⟩)
      · split at hx
        · cases hx
        · rename_i hne
          exact .inr (.inr ⟨fun e => hne ⟨i, e, hx⟩, hx, hm'⟩)
  have hW : WStep X X' w w' T := by
    refine ⟨rfl, hos, htape, hout, hsize, ?_, ?_, ?_, ?_, fa2 900 (fun e => h9 900 e rfl)⟩
    · intro x hx hxT
      refine ⟨hheap x hx hxT, hrest x ?_ ?_ hxT⟩
      · intro m hm hFx
        rcases hF m hm x hFx with ⟨t, e1, e2⟩ | e
        · exact hxT t e1 e2
        · omega
      · rintro ⟨e, rfl⟩
        exact hxT bid (hTb e) (hbown e)
    · intro i hi
      have : i ∉ L.map Imp.id := fun e => hi ((hT i).2 (.inl e))
      exact ⟨fa2 i this, fc2 i this⟩
    · intro x i hi hx
      rcases hwho x i hx with ⟨m, h1, rfl, _⟩ | ⟨e, _, rfl⟩ | ⟨_, e, _⟩
      · exact absurd (hTL m h1) hi
      · exact absurd (hTb e) hi
      · exact e
    · intro x i hx
      rcases hwho x i hx with ⟨m, h1, rfl, h2⟩ | ⟨e, rfl, rfl⟩ | ⟨_, e, _⟩
      · refine ⟨(hL m h1).lt x h2, ?_⟩
        rcases hF m h1 x h2 with ⟨t, _, e⟩ | e
        · exact (h.ow x t e).2
        · have := h.size; exact .inr (by omega)
      · have := h.ow x _ (hbown e)
        exact ⟨by omega, this.2⟩
      · have := h.ow x _ e
        exact ⟨by omega, this.2⟩
  have hkL : ∀ m, m ∈ L → s'.kds m.id = .row m.sz := fun m hm => by unfold AState.kds; rw [hLs m hm]; rfl
  have hfits : Fits X' s'.kds L := fun m hm => ⟨fa1 m hm, fc1 m hm, hkL m hm⟩
  have hN : ∀ i, NameOk X X' s.kds s'.kds i := by
    intro i
    by_cases hTi : T i
    · rcases (hT i).1 hTi with e | ⟨_, e⟩ | ⟨e, rfl⟩
      · refine .inl ?_
        unfold AState.kds; rw [hnew i e]; rfl
      · exact .inr (.inl (by unfold AState.kds; rw [e]; rfl))
      · obtain ⟨⟨cs0, h1⟩, h2, _⟩ := hbx e
        refine .inr (.inr ⟨?_, ?_, fa2 i (hbL e), fc2 i (hbL e)⟩)
        · unfold AState.kds; rw [h1]; exact fun e => by cases e
        · unfold AState.kds; rw [h1, h2]; rfl
    · have hk : s'.kds i = s.kds i := by unfold AState.kds; rw [hnT i hTi]
      by_cases hd : s.kds i = .dead
      · exact .inr (.inl (hk.trans hd))
      · exact .inr (.inr ⟨hd, hk, (hW.at_ i hTi).1, (hW.at_ i hTi).2⟩)
  have hV : ∀ v av, VRel X s.kds w v av → VRel X' s'.kds w' v av := fun v av hv => hv.step hN hW.sh
  have hSh : ∀ x, S x → X'.Sh x := by
    intro x hx
    obtain ⟨h1, h2, h3, h4⟩ := hS x hx
    refine ⟨?_, h3⟩
    show fo x = none
    rw [fo2 x h1, if_neg (fun e => h2 e.1 e.2)]
    split
    · rfl
    · rename_i hne
      cases ho : X.own x with
      | none => rfl
      | some i => exact absurd ⟨i, h4 i ho, ho⟩ hne
  refine ⟨X', rfl, ?_, hSh, hfits, hV⟩
  refine h.step hW (by rw [hnt]; exact h.nt) h.df (fun i hi => hnT i hi) (fun i _ => hN i) (fun _ i => ?_) ?_
  · have : s'.get i = s.get i := by unfold AState.get; rw [hfr]
    rw [this]; exact hV _ _ (h.fr i)
  · intro _ i hTi
    rcases (hT i).1 hTi with e | ⟨_, e⟩ | ⟨e, rfl⟩
    · obtain ⟨m, hm, rfl⟩ := List.mem_map.1 e
      rw [hLs m hm]
      refine (hL m hm).brel (fa1 m hm) (fc1 m hm) (fun x => ?_)
      constructor
      · intro hx
        rcases hwho x _ hx with ⟨m', h1, h2, h3⟩ | ⟨e1, _, e2⟩ | ⟨e1, _, _⟩
        · have : m' = m := by
            have hinj : ∀ (L : List Imp), (L.map Imp.id).Nodup → ∀ m m', m ∈ L → m' ∈ L → m'.id = m.id → m' = m := by
              intro L
              induction L with
              | nil => intro _ m m' h; cases h
              | cons k L ih =>
                intro hnd m m' hm hm' hid
                rw [List.map_cons, List.nodup_cons] at hnd
                rcases List.mem_cons.1 hm with e1 | e1
                · rcases List.mem_cons.1 hm' with e2 | e2
                  · rw [e1, e2]
                  · exact absurd (List.mem_map.2 ⟨m', e2, by rw [hid, e1]⟩) hnd.1
                · rcases List.mem_cons.1 hm' with e2 | e2
                  · exact absurd (List.mem_map.2 ⟨m, e1, by rw [← hid, e2]⟩) hnd.1
                  · exact ih hnd.2 m m' e1 e2 hid
            exact hinj L hnd m m' hm h1 h2
          rw [← this]; exact h3
        · exact absurd (List.mem_map_of_mem (f := Imp.id) hm) (by rw [e2]; exact hbL e1)
        · exact absurd (hTL m hm) e1
      · exact fun hx => fo1 m hm x hx
    · rw [e]
      intro x hx
      rcases hwho x i hx with ⟨m, h1, rfl, _⟩ | ⟨e1, _, rfl⟩ | ⟨e1, _, _⟩
      · exact hdead m.id hTi e (List.mem_map_of_mem h1)
      · obtain ⟨_, h2, _⟩ := hbx e1
        rw [h2] at e; cases e
      · exact e1 hTi
    · obtain ⟨_, h2, h3, h4, h5, h6, h7⟩ := hbx e
      rw [h2]
      refine ⟨b, c, ty, (fa2 i (hbL e)).trans h3, h5, fun x => ?_, h6, h7 X' s'.kds hSh hfits⟩
      constructor
      · intro hx
        rcases hwho x i hx with ⟨m, h1, h2', _⟩ | ⟨_, e2, _⟩ | ⟨e1, _, _⟩
        · exact absurd (List.mem_map.2 ⟨m, h1, h2'⟩) (hbL e)
        · exact e2
        · exact absurd hTi e1
      · rintro rfl
        show fo x = some i
        rw [fo2 x h4, if_pos ⟨e, rfl⟩]

end Go.Proofs.Ytdaemhaecjldaaa
