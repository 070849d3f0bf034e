/- A call as one operation. -/
import Derived.Test.YtdaemhaecjldaaaAi12
namespace Go.Proofs.Ytdaemhaecjldaaa
open Go Go.RowKit

def boxOf : List AV → Option Nat
  | [] => none
  | .loc id _ :: _ => some id
  | _ :: r => boxOf r

def boxK (s : AState) (fin hb : Bool) (bid : Nat) (K : List AV → List Nat → Prop) : Prop :=
  if hb then (match s.blk bid with
    | .var cs => expL s fin cs K
    | _ => False)
  else K [] []

def cbase (d : Option Nat) : Nat := match d with
  | some d => 1000 * (d + 1)
  | none => 999000

def deadL (us : List Nat) : List (Nat × ABlk) := us.map fun i => (i, .dead)

/-- The state behind a call. -/
def callSt (s : AState) (d : Option Nat) (r : AV) (hb : Bool) (bid : Nat) (bx' : List AV) (us : List Nat) : AState :=
  { s with hp := impB (cbase d) r ++ ((if hb then (bid, ABlk.var (impL (cbase d + 500) bx')) :: (impLB (cbase d + 500) bx' ++ deadL us) else []) ++ s.hp) }.put d (imp (cbase d) r)

/-- A call, by any contract of the function that fits. What follows stands in the place of an instance, so that simp leaves it alone until the call is done. -/
def CallTo (P : Program) (k : FuncId) (args : List AV) (hb : Bool) (bx : List AV) [K : Kont (AV → List AV → Prop)] : Prop :=
  ∃ Q, FSpec P k args hb bx Q ∧ ∀ r bx', Q r bx' → K.k r bx'

/-- A function that gives one result. -/
def Det (P : Program) (k : FuncId) (args : List AV) (r : AV) : Prop := FSpec P k args false [] fun r' _ => r' = r

theorem CallTo.det {P : Program} {k : FuncId} {args : List AV} {K : AV → List AV → Prop} {r : AV} (h : Det P k args r) (hK : ∀ bx', K r bx') : @CallTo P k args false [] ⟨K⟩ :=
  ⟨_, h, fun r' bx' e => by subst e; exact hK bx'⟩

/-- A function with a box that gives one result and one box. -/
def DetB (P : Program) (k : FuncId) (args bx : List AV) (r : AV) (bx' : List AV) : Prop := FSpec P k args true bx fun r' b' => r' = r ∧ b' = bx'

theorem CallTo.detB {P : Program} {k : FuncId} {args bx bx' : List AV} {K : AV → List AV → Prop} {r : AV} (h : DetB P k args bx r bx') (hK : K r bx') : @CallTo P k args true bx ⟨K⟩ :=
  ⟨_, h, fun r' b' e => by obtain ⟨rfl, rfl⟩ := e; exact hK⟩

theorem CallTo.of {P : Program} {k : FuncId} {args bx : List AV} {hb : Bool} {K : AV → List AV → Prop} {Q : AV → List AV → Prop} (h : FSpec P k args hb bx Q) (hK : ∀ r bx', Q r bx' → K r bx') : @CallTo P k args hb bx ⟨K⟩ := ⟨Q, h, hK⟩

def callK (P : Program) (s : AState) (d : Option Nat) (k : FuncId) (args : List AV) (Φ : AState → Prop) : Prop :=
  boxK s false (boxOf args).isSome ((boxOf args).getD 0) fun bx us =>
    noTP (fun i => (boxOf args).isSome = true ∧ (i = (boxOf args).getD 0 ∨ i ∈ us)) args ∧ us.Nodup ∧
    argsK s (boxOf args).isSome ((boxOf args).getD 0) args fun args' used =>
    @CallTo P k args' (boxOf args).isSome bx ⟨fun r bx' =>
      (used = true → slFreeR r = true ∧ bx'.all slFree = true) ∧ (∀ cs, r ≠ .box cs) ∧
      newOk s (impB (cbase d) r ++ (if (boxOf args).isSome then impLB (cbase d + 500) bx' else [])) ∧ Φ (callSt s d r (boxOf args).isSome ((boxOf args).getD 0) bx' us)⟩

theorem blk_app (s : AState) (B : List (Nat × ABlk)) (i : Nat) : ({ s with hp := B ++ s.hp } : AState).blk i = if i ∈ B.map Prod.fst then getL .none B i else s.blk i := getL_append _ _ _ _

theorem deadL_fst (us : List Nat) : (deadL us).map Prod.fst = us := by
  unfold deadL; rw [List.map_map]; exact List.map_id' us

theorem deadL_get {us : List Nat} {i : Nat} (h : i ∈ us) : getL ABlk.none (deadL us) i = .dead := by
  induction us with
  | nil => cases h
  | cons u us ih =>
    show getL ABlk.none ((u, .dead) :: deadL us) i = _
    rw [getL_cons]
    split
    · rfl
    · rename_i hne
      rcases List.mem_cons.1 h with e | e
      · exact absurd e hne
      · exact ih e

theorem put_blk (s : AState) (d : Option Nat) (v : AV) (i : Nat) : (s.put d v).blk i = s.blk i := by cases d <;> rfl
theorem put_kds (s : AState) (d : Option Nat) (v : AV) : (s.put d v).kds = s.kds := by cases d <;> rfl
theorem put_nt (s : AState) (d : Option Nat) (v : AV) : (s.put d v).nt = s.nt := by cases d <;> rfl

/-- What a result that is no box gives. -/
theorem got_res {w : World} {S : Nat → Prop} {v : Value} {a : AV} {F : Nat → Prop} (n : Nat) (hnb : ∀ cs, a ≠ .box cs) (h : BRes w S v a F) : ∃ L, Got w S v (imp n a) (impB n a) F L := by
  cases h with
  | part v a F h =>
    have e : (imp n a = impP n a ∧ impB n a = impPB n a) ∨ ∃ cs, a = .tup cs := by
      cases a <;> first | exact .inl ⟨rfl, rfl⟩ | exact .inr ⟨_, rfl⟩ | exact absurd rfl (hnb _)
    rcases e with ⟨e1, e2⟩ | ⟨cs, rfl⟩
    · rw [e1, e2]; exact got_part n h
    · cases h with
      | cell v a F h =>
        cases h with
        | pure a F h hF =>
          cases h with
          | tup vs cs hl h =>
            obtain ⟨L, l1, l2, l3, l4, l5, l6⟩ := got_parts cs n (fun i => vs.getD i undef) (fun _ _ => False) (fun i hi => .cell _ _ _ (.pure _ _ _ (h i hi) (fun _ e => e))) (fun _ _ _ _ _ e => e.elim)
            refine ⟨L, l1, l2, fun x => ⟨fun e => absurd e (hF x), fun e => ?_⟩, l4, fun X kd hS hf => .tup _ _ (by rw [l5]; exact hl) (fun i hi => l6 X kd hS hf i (by rw [l5] at hi; exact hi))⟩
            obtain ⟨i, _, e⟩ := (l3 x).2 e; exact e.elim
  | tup vs rs FF F hl h hd hF =>
    obtain ⟨L, l1, l2, l3, l4, l5, l6⟩ := got_parts rs n (fun i => vs.getD i undef) FF h hd
    exact ⟨L, l1, l2, fun x => (hF x).trans (l3 x), l4, fun X kd hS hf => .tup _ _ (by rw [l5]; exact hl) (fun i hi => l6 X kd hS hf i (by rw [l5] at hi; exact hi))⟩
  | box b c ty cs F hb hl h hF => exact absurd rfl (hnb _)

theorem callK_sound {P : Program} {X : Ctx} {s : AState} {a : Act} {w : World} {k : FuncId} {args : List AV} {vs : Array Value} {d : Option Nat} {Φ : AState → Prop} (h : R X s a w) (hd : ∀ i, d = some i → i < s.nt)
    (hl : vs.size = args.length) (hv : ∀ (i : Nat) (_ : i < args.length), VRel X s.kds w (vs.getD i undef) (args.getD i .top)) (hK : callK P s d k args Φ) :
    (∀ w, (callFunc k vs).run P w = .ok (.enter k vs) w) ∧ Calls P k vs w fun e w' => ∃ v, e = .returned v ∧ Post X.base Φ (a.put d v) w' := by
  classical
  unfold callK at hK
  generalize hhb : (boxOf args).isSome = hb at *
  generalize hbid : (boxOf args).getD 0 = bid at *
  -- the box
  have hbK : ∃ (b : Nat) (bx : List AV) (us : List Nat) (FF : Nat → Nat → Prop) (cs0 : List AV) (cc : Array Value) (ty : TypeId), (hb = true → s.blk bid = .var cs0 ∧ X.at_ bid = some b ∧ w.heap[b]? = some (.cells cc ty (0, 0)) ∧ cc.size = bx.length ∧ (∀ x, X.own x = some bid ↔ x = b) ∧
      (∀ (i : Nat) (_ : i < bx.length), BCell w (ESet X s false) (cc.getD i undef) (bx.getD i .top) (FF i))) ∧ (hb = false → us = [] ∧ bx = []) ∧
      (∀ id, id ∈ us → ∃ nn sz es, s.blk id = .row true nn sz es) ∧ (∀ x, (∃ i, i < bx.length ∧ FF i x) ↔ ∃ id, id ∈ us ∧ X.own x = some id) ∧
      (us.Nodup → ∀ (i j x : Nat) (_ : i < bx.length) (_ : j < bx.length), FF i x → FF j x → i = j) ∧
      noTP (fun i => hb = true ∧ (i = bid ∨ i ∈ us)) args ∧ us.Nodup ∧ argsK s hb bid args fun args' used =>
        @CallTo P k args' hb bx ⟨fun r bx' => (used = true → slFreeR r = true ∧ bx'.all slFree = true) ∧ (∀ cs, r ≠ .box cs) ∧
          newOk s (impB (cbase d) r ++ (if hb then impLB (cbase d + 500) bx' else [])) ∧ Φ (callSt s d r hb bid bx' us)⟩ := by
    unfold boxK at hK
    cases hbt : hb with
    | false =>
      rw [hbt] at hK
      exact ⟨0, [], [], fun _ _ => False, [], #[], 0, (fun e => by cases e), (fun _ => ⟨rfl, rfl⟩), (fun _ e => by cases e), (fun x => by simp), (fun _ _ _ _ _ _ e => e.elim), hK⟩
    | true =>
      rw [hbt, if_pos rfl] at hK
      split at hK
      · rename_i cs0 hcs
        have hB := h.bl bid
        rw [hcs] at hB
        obtain ⟨b, cc, ty, h1, h2, h3, h4, h5⟩ := hB
        obtain ⟨bx, us, FF, hK, g1, g2, g3, g4, g5⟩ := expL_sound (fin := false) h cs0 (fun i => cc.getD i undef) _ h5 hK
        exact ⟨b, bx, us, FF, cs0, cc, ty, (fun _ => ⟨hcs, h1, h2, by omega, h3, g2⟩), (fun e => by cases e), g3, g4, g5, hK⟩
      · exact hK.elim
  obtain ⟨b, bx, us, BF, cs0, cc, ty, hb1, hb0, hus, hBF, hBd, hnoT, hund, hK⟩ := hbK
  have husT : ∀ i, i ∈ us → hb = true := by
    intro i hi
    cases hbt : hb with
    | true => rfl
    | false => rw [(hb0 hbt).1] at hi; cases hi
  obtain ⟨args', used, hK, hl', hargs⟩ := argsK_sound (Tb := fun i => hb = true ∧ (i = bid ∨ i ∈ us)) (b := b) h
    (fun e => ⟨(hb1 e).2.1, by unfold AState.kds; rw [(hb1 e).1]; rfl⟩) args (fun i => vs.getD i undef) _ hnoT hv hK
  obtain ⟨Q, ⟨hcall, hspec⟩, hQ⟩ := hK
  refine ⟨fun w => hcall vs w, ?_⟩
  -- the blocks that the callee may write are those of the box and its rows
  have hM : ∀ x, BoxM hb b bx BF x ↔ hb = true ∧ ∃ t, (t = bid ∨ t ∈ us) ∧ X.own x = some t := by
    intro x
    constructor
    · rintro ⟨e, hx⟩
      refine ⟨e, ?_⟩
      rcases hx with rfl | hx
      · exact ⟨bid, .inl rfl, ((hb1 e).2.2.2.2.1 x).2 rfl⟩
      · obtain ⟨id, h1, h2⟩ := (hBF x).1 hx
        exact ⟨id, .inr h1, h2⟩
    · rintro ⟨e, t, ht, hx⟩
      refine ⟨e, ?_⟩
      rcases ht with rfl | ht
      · exact .inl (((hb1 e).2.2.2.2.1 x).1 hx)
      · exact .inr ((hBF x).2 ⟨t, ht, hx⟩)
  have hbox : hb = true → BoxAt w (CSet X used fun i => hb = true ∧ (i = bid ∨ i ∈ us)) b bx BF := by
    intro e
    obtain ⟨g1, g2, g3, g4, g5, g6⟩ := hb1 e
    refine ⟨⟨cc, ty, g3, g4, ?_, hBd hund⟩, ?_⟩
    · intro i hi
      exact (g6 i hi).mono fun x hx => ⟨hx.1, fun id e' => by have := (hx.2 id e').1; cases this⟩
    · intro i hi hx
      obtain ⟨id, h1, h2⟩ := (hBF b).1 ⟨i, hi, hx⟩
      have h3 : X.own b = some bid := (g5 b).2 rfl
      have he : id = bid := Option.some.inj (h2.symm.trans h3)
      obtain ⟨_, _, _, h4⟩ := hus id h1
      rw [he, g1] at h4; cases h4
  refine (hspec w (CSet X used fun i => hb = true ∧ (i = bid ∨ i ∈ us)) vs b BF (by omega) hargs hbox ?_).mono ?_
  · intro x hx hC
    obtain ⟨e, t, ht, hox⟩ := (hM x).1 hx
    exact (hC.2 t hox).2 ⟨e, ht⟩
  rintro e w' ⟨v, r, bx', F, BF', rfl, hQr, hW, hR, hB', hFB, hO⟩
  obtain ⟨q1, q2, q3, q4⟩ := hQ r bx' hQr
  refine ⟨v, rfl, ?_⟩
  -- the set that the imported parts may look at
  generalize hS' : (fun x => ¬ F x ∧ ¬ BoxM hb b bx' BF' x ∧ (CSet X used (fun i => hb = true ∧ (i = bid ∨ i ∈ us)) x ∨ BoxM hb b bx BF x ∨ w.heap.size ≤ x)) = S' at *
  let S2 : Nat → Prop := fun x => S' x ∧ ∀ id, X.own x = some id → hb = true ∧ (id = bid ∨ id ∈ us)
  have hRB : BRes w' S2 v r F ∧ (hb = true → BoxAt w' S2 b bx' BF') := by
    cases hu : used with
    | true =>
      refine ⟨hR.free (q1 hu).1, fun e => ?_⟩
      obtain ⟨⟨c', ty', h1, h2, h3⟩, h4⟩ := hB' e
      exact ⟨⟨c', ty', h1, h2, h3.free (q1 hu).2⟩, h4⟩
    | false =>
      have hsub : ∀ x, S' x → S2 x := by
        intro x hx
        refine ⟨hx, fun id hid => ?_⟩
        rw [← hS'] at hx
        rcases hx.2.2 with hC | hC | hC
        · have := (hC.2 id hid).1; rw [hu] at this; cases this
        · obtain ⟨e, t, ht, hox⟩ := (hM x).1 hC
          rw [hid] at hox; cases hox
          exact ⟨e, ht⟩
        · have := (h.ow x id hid).1; omega
      exact ⟨hR.mono hsub, fun e => (hB' e).mono hsub⟩
  obtain ⟨hR2, hB2⟩ := hRB
  obtain ⟨L1, g⟩ := got_res (cbase d) q2 hR2
  have hL2 : ∃ (L2 : List Imp) (c' : Array Value) (ty' : TypeId), L2.map Imp.blk = (if hb then impLB (cbase d + 500) bx' else []) ∧ (∀ m, m ∈ L2 → OwnS w' m.v m.nn m.sz m.es m.F) ∧ (∀ m, m ∈ L2 → ∀ x, m.F x → hb = true ∧ ∃ i, i < bx'.length ∧ BF' i x) ∧
      L2.Pairwise (fun m m' => ∀ x, m.F x → ¬ m'.F x) ∧ (hb = true → w'.heap[b]? = some (.cells c' ty' (0, 0)) ∧ c'.size = (impL (cbase d + 500) bx').length ∧
      ∀ (X' : Ctx) (kd : Nat → Kd), (∀ x, S2 x → X'.Sh x) → Fits X' kd L2 → ∀ (i : Nat) (_ : i < (impL (cbase d + 500) bx').length), VRel X' kd w' (c'.getD i undef) ((impL (cbase d + 500) bx').getD i .top)) := by
    cases hbt : hb with
    | false => exact ⟨[], #[], 0, rfl, (fun _ e => by cases e), (fun _ e => by cases e), .nil, fun e => by cases e⟩
    | true =>
      obtain ⟨⟨c', ty', h1, h2, h3⟩, h4⟩ := hB2 hbt
      obtain ⟨L, l1, l2, l3, l4, l5, l6⟩ := got_cells bx' (cbase d + 500) _ BF' h3
      exact ⟨L, c', ty', l1, l2, (fun m hm x hx => ⟨rfl, (l3 x).2 ⟨m, hm, hx⟩⟩), l4, fun _ => ⟨h1, by omega, fun X' kd hS hf i hi => l6 X' kd hS hf i (by omega)⟩⟩
  obtain ⟨L2, c', ty', k1, k2, k3, k4, k5⟩ := hL2
  obtain ⟨hnd, hnew⟩ := newOk_nodup q3
  have hkeys : (impB (cbase d) r ++ (if hb then impLB (cbase d + 500) bx' else [])).map Prod.fst = (L1 ++ L2).map Imp.id := by
    rw [← g.blks, ← k1, ← List.map_append, map_blk_fst]
  rw [hkeys] at hnd hnew
  have hnew9 : ∀ i, i ∈ (L1 ++ L2).map Imp.id → i ≠ 900 := fun i hi => (hnew i hi).2
  replace hnew : ∀ i, i ∈ (L1 ++ L2).map Imp.id → s.blk i = .none := fun i hi => (hnew i hi).1
  have hmemL : ∀ i, i ∈ (L1 ++ L2).map Imp.id → i ∉ us ∧ (hb = true → i ≠ bid) := by
    intro i hi
    refine ⟨fun e => ?_, fun e e' => ?_⟩
    · obtain ⟨_, _, _, h1⟩ := hus i e
      rw [hnew i hi] at h1; cases h1
    · have := (hb1 e).1
      rw [← e', hnew i hi] at this; cases this
  -- the blocks of the state behind
  have hblk : ∀ i, (callSt s d r hb bid bx' us).blk i = if i ∈ (L1 ++ L2).map Imp.id then getL .none ((L1 ++ L2).map Imp.blk) i else if hb = true ∧ i = bid then .var (impL (cbase d + 500) bx') else if hb = true ∧ i ∈ us then .dead else s.blk i := by
    intro i
    unfold callSt
    rw [put_blk]
    show getL ABlk.none (impB (cbase d) r ++ ((if hb then (bid, ABlk.var (impL (cbase d + 500) bx')) :: (impLB (cbase d + 500) bx' ++ deadL us) else []) ++ s.hp)) i = _
    rw [getL_append, ← g.blks, map_blk_fst]
    by_cases h1 : i ∈ L1.map Imp.id
    · rw [if_pos h1, if_pos (by rw [List.map_append]; exact List.mem_append.2 (.inl h1)), List.map_append, getL_append, map_blk_fst, if_pos h1]
    · rw [if_neg h1]
      cases hbt : hb with
      | false =>
        have : L2 = [] := by
          rw [hbt] at k1; exact List.map_eq_nil_iff.1 k1
        subst this
        simp [h1, AState.blk]
      | true =>
        rw [hbt, if_pos rfl] at k1
        rw [if_pos rfl, List.cons_append, getL_cons]
        by_cases h2 : i = bid
        · have hnm : i ∉ (L1 ++ L2).map Imp.id := fun e => (hmemL i e).2 hbt h2
          rw [if_pos h2, if_neg hnm, if_pos ⟨rfl, h2⟩]
        · rw [if_neg h2, List.append_assoc, getL_append, ← k1, map_blk_fst]
          by_cases h3 : i ∈ L2.map Imp.id
          · rw [if_pos h3, if_pos (by rw [List.map_append]; exact List.mem_append.2 (.inr h3)), List.map_append, getL_append, map_blk_fst, if_neg h1]
          · rw [if_neg h3, if_neg (by rw [List.map_append]; exact fun e => (List.mem_append.1 e).elim h1 h3), if_neg (fun e => h2 e.2), getL_append, deadL_fst]
            by_cases h4 : i ∈ us
            · rw [if_pos h4, if_pos ⟨rfl, h4⟩]; exact deadL_get h4
            · rw [if_neg h4, if_neg (fun e => h4 e.2)]; rfl
  have hbL : hb = true → bid ∉ (L1 ++ L2).map Imp.id := fun e hm => (hmemL bid hm).2 e rfl
  have hput : Post X.base Φ (a.put d v) w' := by
    obtain ⟨X', hXb, hRR, hSh, hFits, hV⟩ := R.recv (s' := { callSt s d r hb bid bx' us with fr := s.fr }) (L := L1 ++ L2) (S := S2) (b := b) (bid := bid) (hb := hb) (cs := impL (cbase d + 500) bx') (c := c') (ty := ty')
      (T := fun i => i ∈ (L1 ++ L2).map Imp.id ∨ (hb = true ∧ (i = bid ∨ i ∈ us))) (w' := w') h hnd hnew hnew9
      (fun m hm => (List.mem_append.1 hm).elim (fun e => g.own m e) (fun e => k2 m e))
      (by
        rw [List.pairwise_append]
        refine ⟨g.dis, k4, fun m hm m' hm' x hx hx' => ?_⟩
        obtain ⟨e, i, hi, hy⟩ := k3 m' hm' x hx'
        exact hFB x ((g.all x).2 ⟨m, hm, hx⟩) ⟨e, .inr ⟨i, hi, hy⟩⟩)
      (by
        intro i
        have hb' : ({ callSt s d r hb bid bx' us with fr := s.fr } : AState).blk i = (callSt s d r hb bid bx' us).blk i := rfl
        rw [hb', hblk]
        constructor
        · rintro (e | ⟨e, rfl | e'⟩)
          · exact .inl e
          · exact .inr (.inr ⟨e, rfl⟩)
          · by_cases hi : i ∈ (L1 ++ L2).map Imp.id
            · exact .inl hi
            · by_cases hib : i = bid
              · exact .inr (.inr ⟨e, hib⟩)
              · exact .inr (.inl ⟨.inr ⟨e, .inr e'⟩, by rw [if_neg hi, if_neg (fun e => hib e.2), if_pos ⟨e, e'⟩]⟩)
        · rintro (e | ⟨e, _⟩ | ⟨e, rfl⟩)
          · exact .inl e
          · exact e
          · exact .inr ⟨e, .inl rfl⟩)
      (by
        intro m hm
        show (callSt s d r hb bid bx' us).blk m.id = _
        rw [hblk, if_pos (List.mem_map_of_mem hm)]
        exact getL_imp _ _ hnd hm)
      (by
        intro i hi
        show (callSt s d r hb bid bx' us).blk i = _
        rw [hblk, if_neg (fun e => hi (.inl e)), if_neg (fun e => hi (.inr ⟨e.1, .inl e.2⟩)), if_neg (fun e => hi (.inr ⟨e.1, .inr e.2⟩))])
      (by show (callSt s d r hb bid bx' us).nt = s.nt; unfold callSt; rw [put_nt]) rfl
      (by
        intro i _ hdd hm
        have hdd' : (callSt s d r hb bid bx' us).blk i = .dead := hdd
        rw [hblk, if_pos hm] at hdd'
        obtain ⟨m, hm1, rfl⟩ := List.mem_map.1 hm
        rw [getL_imp _ _ hnd hm1] at hdd'; cases hdd')
      (by
        intro e
        obtain ⟨g1, g2, g3, g4, g5, g6⟩ := hb1 e
        obtain ⟨j1, j2, j3⟩ := k5 e
        refine ⟨⟨cs0, g1⟩, ?_, g2, ?_, j1, j2, fun X' kd hS hf => j3 X' kd hS hf.of_append_right⟩
        · show (callSt s d r hb bid bx' us).blk bid = _
          rw [hblk, if_neg (hbL e), if_pos ⟨e, rfl⟩]
        · intro m hm hx
          rcases List.mem_append.1 hm with e' | e'
          · exact hFB b ((g.all b).2 ⟨m, e', hx⟩) ⟨e, .inl rfl⟩
          · obtain ⟨_, i, hi, hy⟩ := k3 m e' b hx
            exact (hB2 e).nb i hi hy)
      hW.os hW.tape hW.output hW.size
      (by
        intro x hx hxT
        refine hW.heap x hx (fun hx' => ?_)
        obtain ⟨e, t, ht, hox⟩ := (hM x).1 hx'
        exact hxT t (.inr ⟨e, ht⟩) hox)
      (by
        intro m hm x hx
        have : F x ∨ BoxM hb b bx' BF' x := by
          rcases List.mem_append.1 hm with e' | e'
          · exact .inl ((g.all x).2 ⟨m, e', hx⟩)
          · obtain ⟨e, i, hi, hy⟩ := k3 m e' x hx
            exact .inr ⟨e, .inr ⟨i, hi, hy⟩⟩
        rcases (hO x this).1 with e' | e'
        · obtain ⟨e, t, ht, hox⟩ := (hM x).1 e'
          exact .inl ⟨t, .inr ⟨e, ht⟩, hox⟩
        · exact .inr e')
      (by
        rintro x ⟨hx, hx2⟩
        rw [← hS'] at hx
        refine ⟨?_, ?_, ?_, ?_⟩
        · intro m hm hmx
          rcases List.mem_append.1 hm with e' | e'
          · exact hx.1 ((g.all x).2 ⟨m, e', hmx⟩)
          · obtain ⟨e, i, hi, hy⟩ := k3 m e' x hmx
            exact hx.2.1 ⟨e, .inr ⟨i, hi, hy⟩⟩
        · rintro e rfl
          exact hx.2.1 ⟨e, .inl rfl⟩
        · rcases hx.2.2 with hC | hC | hC
          · exact hC.1
          · obtain ⟨e, t, ht, hox⟩ := (hM x).1 hC
            exact h.ownA hox
          · have := h.size; exact .inr (.inr (by omega))
        · intro id hid
          exact .inr (hx2 id hid))
    have hpv : VRel X' ({ callSt s d r hb bid bx' us with fr := s.fr } : AState).kds w' v (imp (cbase d) r) := g.rel X' _ hSh hFits.of_append_left
    have hfin := hRR.put (dst := d) hpv (fun i hi => by
      have : ({ callSt s d r hb bid bx' us with fr := s.fr } : AState).nt = s.nt := by
        show (callSt s d r hb bid bx' us).nt = s.nt; unfold callSt; rw [put_nt]
      rw [this]; exact hd i hi)
    have hst : ({ callSt s d r hb bid bx' us with fr := s.fr } : AState).put d (imp (cbase d) r) = callSt s d r hb bid bx' us := by
      unfold callSt
      cases d <;> rfl
    rw [hst] at hfin
    exact ⟨X', _, hXb, hfin, q4⟩
  exact hput

end Go.Proofs.Ytdaemhaecjldaaa
