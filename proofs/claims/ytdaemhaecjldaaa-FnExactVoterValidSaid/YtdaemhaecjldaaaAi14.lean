/- A function's contract out of its body: the state at its beginning, what it hands back at its end. -/
import Derived.Test.YtdaemhaecjldaaaAi13
namespace Go.Proofs.Ytdaemhaecjldaaa
open Go Go.RowKit

/-- The body's part of a proof: whatever the machine's frame and world, if they fit the state. -/
def SemC (P : Program) (B : Base) (c : Code) (Kx : Exit → AState → Prop) (s : AState) : Prop :=
  ∀ (X : Ctx) (a : Act) (w : World), X.base = B → R X s a w → c.wp P (fun e a' w' => Post B (Kx e) a' w') a w

def argIn : AV → AV
  | .loc _ _ => .loc 900 0
  | a => a

def argsIn : Nat → List AV → List (Nat × AV)
  | _, [] => []
  | n, a :: r => (n, argIn a) :: argsIn (n + 1) r

/-- The state at the beginning of a function. -/
def startSt (nt : Nat) (args : List AV) (hb : Bool) (bx : List AV) : AState :=
  { nt := nt, fr := argsIn 0 args, hp := if hb then (900, .var (impL 901 bx)) :: impLB 901 bx else [] }

/-- The values of the results. -/
def resK (T : Tab) (s : AState) : List ResultVar → (List AV → Prop) → Prop
  | [], K => K []
  | .tmp t :: r, K => resK T s r fun vs => K (s.get t :: vs)
  | .cell t ty :: r, K => (match s.get t with
    | .loc id 0 => (match s.blk id with
      | .var cs => (match tyShape T ty with
        | some (true, size, _) => size = cs.length ∧ resK T s r fun vs => K (.agg cs :: vs)
        | some (false, _, _) => cs.length = 1 ∧ resK T s r fun vs => K (cs.getD 0 .top :: vs)
        | none => False)
      | _ => False)
    | _ => False)

def expP (s : AState) (a : AV) (K : AV → List Nat → Prop) : Prop :=
  match a with
  | .agg cs => expL s true cs fun cs' us => K (.agg cs') us
  | a => expC s true a K

def expPL (s : AState) : List AV → (List AV → List Nat → Prop) → Prop
  | [], K => K [] []
  | c :: cs, K => expP s c fun c' u => expPL s cs fun cs' us => K (c' :: cs') (u ++ us)

def packA : List AV → AV
  | [v] => v
  | vs => .tup vs
def packV : List Value → Value
  | [v] => v
  | vs => .tuple vs.toArray

/-- What a function hands back: one value or several. -/
def exitK (T : Tab) (s : AState) (rs : List ResultVar) (hb : Bool) (Q : AV → List AV → Prop) : Prop :=
  resK T s rs fun vals => expPL s vals fun vals' us => boxK s true hb 900 fun bx' us' => (us ++ us').Nodup ∧
    Q (packA vals') bx'

theorem argsIn_get : ∀ (args : List AV) (n i : Nat), getL .top (argsIn n args) i = if n ≤ i ∧ i < n + args.length then argIn (args.getD (i - n) .top) else .top
  | [], n, i => by
    simp [argsIn, getL]
    intro h1 h2; omega
  | c :: cs, n, i => by
    show getL .top ((n, argIn c) :: argsIn (n + 1) cs) i = _
    rw [getL_cons, argsIn_get cs (n + 1) i]
    by_cases h : i = n
    · subst h
      rw [if_pos rfl, if_pos ⟨Nat.le_refl _, by simp⟩, Nat.sub_self, getD_zero]
    · rw [if_neg h]
      by_cases h2 : n + 1 ≤ i ∧ i < n + 1 + cs.length
      · rw [if_pos h2, if_pos ⟨by omega, by simp; omega⟩, show i - n = (i - (n + 1)) + 1 by omega, getD_succ]
      · rw [if_neg h2, if_neg (by simp; omega)]

theorem impLB_fst_ge : ∀ (cs : List AV) (n i : Nat), i ∈ (impLB n cs).map Prod.fst → n ≤ i
  | [], n, i, h => by simp [impLB] at h
  | c :: cs, n, i, h => by
    rw [show impLB n (c :: cs) = impCB n c ++ impLB (n + 1) cs from rfl, List.map_append, List.mem_append] at h
    rcases h with h | h
    · cases c <;> simp [impCB] at h
      omega
    · have := impLB_fst_ge cs (n + 1) i h; omega

theorem impLB_nodup : ∀ (cs : List AV) (n : Nat), ((impLB n cs).map Prod.fst).Nodup
  | [], n => by simp [impLB]
  | c :: cs, n => by
    rw [show impLB n (c :: cs) = impCB n c ++ impLB (n + 1) cs from rfl, List.map_append, List.nodup_append]
    refine ⟨by cases c <;> simp [impCB], impLB_nodup cs (n + 1), ?_⟩
    intro a ha b hb e
    have h2 := impLB_fst_ge cs (n + 1) b hb
    have h1 : a = n := by cases c <;> simp [impCB] at ha; exact ha
    omega

theorem R.start {w : World} {S : Nat → Prop} {vs : Array Value} {b nt : Nat} {args bx : List AV} {hb : Bool} {BF : Nat → Nat → Prop} (hl : vs.size = args.length)
    (hargs : ∀ (i : Nat) (_ : i < args.length), ArgRel w S hb b (vs.getD i undef) (args.getD i .top)) (hbx : hb = true → BoxAt w S b bx BF) (hM : ∀ x, BoxM hb b bx BF x → ¬ S x) (hnt : args.length ≤ nt) :
    ∃ X : Ctx, X.base = ⟨w, BoxM hb b bx BF, S, if hb then some b else none⟩ ∧ R X (startSt nt args hb bx) { tmps := vs ++ Array.replicate (nt - vs.size) undef, defers := [] } w := by
  classical
  have hL : ∃ (L : List Imp) (c : Array Value) (ty : TypeId), L.map Imp.blk = (if hb then impLB 901 bx else []) ∧ (∀ m, m ∈ L → OwnS w m.v m.nn m.sz m.es m.F) ∧ (∀ m, m ∈ L → ∀ x, m.F x → hb = true ∧ ∃ i, i < bx.length ∧ BF i x) ∧
      L.Pairwise (fun m m' => ∀ x, m.F x → ¬ m'.F x) ∧ (hb = true → w.heap[b]? = some (.cells c ty (0, 0)) ∧ c.size = (impL 901 bx).length ∧ (∀ m, m ∈ L → ¬ m.F b) ∧ b < w.heap.size ∧
      ∀ (X' : Ctx) (kd : Nat → Kd), (∀ x, S x → X'.Sh x) → Fits X' kd L → ∀ (i : Nat) (_ : i < (impL 901 bx).length), VRel X' kd w (c.getD i undef) ((impL 901 bx).getD i .top)) := by
    cases hbt : hb with
    | false => exact ⟨[], #[], 0, rfl, (fun _ e => by cases e), (fun _ e => by cases e), .nil, fun e => by cases e⟩
    | true =>
      obtain ⟨⟨c', ty', h1, h2, h3⟩, h4⟩ := hbx hbt
      obtain ⟨L, l1, l2, l3, l4, l5, l6⟩ := got_cells bx 901 _ BF h3
      refine ⟨L, c', ty', l1, l2, (fun m hm x hx => ⟨rfl, (l3 x).2 ⟨m, hm, hx⟩⟩), l4, fun _ => ⟨h1, by omega, ?_, (Array.getElem?_eq_some_iff.1 h1).1, fun X' kd hS hf i hi => l6 X' kd hS hf i (by omega)⟩⟩
      intro m hm hx
      obtain ⟨i, hi, hy⟩ := (l3 b).2 ⟨m, hm, hx⟩
      exact h4 i hi hy
  obtain ⟨L, c, ty, k1, k2, k3, k4, k5⟩ := hL
  have hkeys : L.map Imp.id = (if hb then impLB 901 bx else []).map Prod.fst := by rw [← k1, map_blk_fst]
  have hnd : (L.map Imp.id).Nodup := by
    rw [hkeys]; split
    · exact impLB_nodup _ _
    · simp
  have hge : ∀ i, i ∈ L.map Imp.id → 901 ≤ i := by
    intro i hi
    rw [hkeys] at hi
    split at hi
    · exact impLB_fst_ge _ _ _ hi
    · simp at hi
  obtain ⟨fo, fo1, fo2⟩ := ownL_ex L k4 (fun x => if hb = true ∧ x = b then some 900 else none)
  obtain ⟨fa, fa1, fa2⟩ := atL_ex L hnd (fun m => blockOf m.v) (fun i => if i = 900 then some b else none)
  obtain ⟨fc, fc1, fc2⟩ := atL_ex L hnd (fun m => capOf m.v) (fun _ => 0)
  let X : Ctx := { base := ⟨w, BoxM hb b bx BF, S, if hb then some b else none⟩, at_ := fa, cap := fc, own := fo }
  have hblk : ∀ i, (startSt nt args hb bx).blk i = if hb = true ∧ i = 900 then .var (impL 901 bx) else getL .none (L.map Imp.blk) i := by
    intro i
    unfold startSt
    show getL ABlk.none (if hb then (900, ABlk.var (impL 901 bx)) :: impLB 901 bx else []) i = _
    cases hbt : hb with
    | false => rw [hbt] at k1; rw [k1]; simp
    | true =>
      rw [hbt] at k1
      rw [if_pos rfl, getL_cons, k1, if_pos rfl]
      simp
  have hblkL : ∀ m, m ∈ L → (startSt nt args hb bx).blk m.id = .row true m.nn m.sz m.es := by
    intro m hm
    rw [hblk, if_neg (fun e => by have := hge m.id (List.mem_map_of_mem hm); omega)]
    exact getL_imp _ _ hnd hm
  have hwho : ∀ x i, fo x = some i → (∃ m, m ∈ L ∧ m.id = i ∧ m.F x) ∨ (hb = true ∧ x = b ∧ i = 900) := by
    intro x i hx
    by_cases hm : ∃ m, m ∈ L ∧ m.F x
    · obtain ⟨m, h1, h2⟩ := hm
      rw [fo1 m h1 x h2] at hx
      cases hx
      exact .inl ⟨m, h1, rfl, h2⟩
    · rw [fo2 x (fun m h1 h2 => hm ⟨m, h1, h2⟩)] at hx
      split at hx
      · rename_i e
        cases hx
        exact .inr ⟨e.1, e.2, rfl⟩
      · cases hx
  have hSh : ∀ x, S x → X.Sh x := by
    intro x hx
    refine ⟨?_, .inl hx⟩
    show fo x = none
    have hnM : ¬ BoxM hb b bx BF x := fun e => hM x e hx
    rw [fo2 x (fun m hm e => by obtain ⟨h1, i, h2, h3⟩ := k3 m hm x e; exact hnM ⟨h1, .inr ⟨i, h2, h3⟩⟩), if_neg (fun e => hnM ⟨e.1, .inl e.2⟩)]
  have hfits : Fits X (startSt nt args hb bx).kds L := fun m hm => ⟨fa1 m hm, fc1 m hm, by unfold AState.kds; rw [hblkL m hm]; rfl⟩
  have h900 : 900 ∉ L.map Imp.id := fun e => by have := hge 900 e; omega
  refine ⟨X, rfl, ?_, rfl, ?_, ?_, ?_, rfl, rfl, rfl, Nat.le_refl _, fun _ _ _ => rfl, ?_⟩
  · show (vs ++ Array.replicate (nt - vs.size) undef).size = nt
    simp; omega
  · intro i
    show VRel X _ w ((vs ++ Array.replicate (nt - vs.size) undef).getD i undef) (getL .top (argsIn 0 args) i)
    rw [argsIn_get]
    by_cases hi : i < args.length
    · rw [if_pos ⟨Nat.zero_le _, by omega⟩, Nat.sub_zero]
      have e : (vs ++ Array.replicate (nt - vs.size) undef).getD i undef = vs.getD i undef := by
        have h1 : i < vs.size := by omega
        simp [Array.getD_eq_getD_getElem?, Array.getElem?_append, h1]
      rw [e]
      rcases hargs i hi with h1 | ⟨h1, h2, h3⟩
      · have : argIn (args.getD i .top) = args.getD i .top := by
          generalize args.getD i .top = aa at *
          generalize vs.getD i undef = vv at *
          cases h1 <;> rfl
        rw [this]
        exact .pure (h1.mono hSh)
      · rw [h2, h3]
        have hk : (startSt nt args hb bx).kds 900 = .var := by
          unfold AState.kds; rw [hblk, if_pos ⟨h1, rfl⟩]; rfl
        exact .loc 900 0 b hk ((fa2 900 h900).trans (if_pos rfl))
    · rw [if_neg (by omega)]; exact .top _
  · intro i
    rw [hblk]
    by_cases h1 : hb = true ∧ i = 900
    · rw [if_pos h1]
      obtain ⟨hbt, rfl⟩ := h1
      obtain ⟨g1, g2, g3, _, g4⟩ := k5 hbt
      refine ⟨b, c, ty, (fa2 900 h900).trans (if_pos rfl), g1, fun x => ?_, g2, g4 X _ hSh hfits⟩
      constructor
      · intro hx
        rcases hwho x 900 hx with ⟨m, h2, h3, _⟩ | ⟨_, h2, _⟩
        · have := hge m.id (List.mem_map_of_mem h2); omega
        · exact h2
      · rintro rfl
        show fo x = some 900
        rw [fo2 x g3, if_pos ⟨hbt, rfl⟩]
    · rw [if_neg h1]
      by_cases h2 : i ∈ L.map Imp.id
      · obtain ⟨m, hm, rfl⟩ := List.mem_map.1 h2
        rw [getL_imp _ _ hnd hm]
        refine (k2 m hm).brel (fa1 m hm) (fc1 m hm) (fun x => ?_)
        constructor
        · intro hx
          rcases hwho x _ hx with ⟨m', e1, e2, e3⟩ | ⟨_, _, e⟩
          · have : (m' : Imp).F x ∧ m'.id = m.id := ⟨e3, e2⟩
            by_cases hmm : m' = m
            · rw [← hmm]; exact e3
            · exfalso
              -- two parts of one name
              have hinj : ∀ (L : List Imp), (L.map Imp.id).Nodup → ∀ m m', m ∈ L → m' ∈ L → m'.id = m.id → m' = m := by
                intro L
                induction L with
                | nil => intro _ m m' h; cases h
                | cons k L ih =>
                  intro hnd m m' hm hm' hid
                  rw [List.map_cons, List.nodup_cons] at hnd
                  rcases List.mem_cons.1 hm with e1 | e1
                  · rcases List.mem_cons.1 hm' with e2 | e2
                    · rw [e1, e2]
                    · exact absurd (List.mem_map.2 ⟨m', e2, by rw [hid, e1]⟩) hnd.1
                  · rcases List.mem_cons.1 hm' with e2 | e2
                    · exact absurd (List.mem_map.2 ⟨m, e1, by rw [← hid, e2]⟩) hnd.1
                    · exact ih hnd.2 m m' e1 e2 hid
              exact hmm (hinj L hnd m m' hm e1 e2)
          · have := hge m.id (List.mem_map_of_mem hm); omega
        · exact fun hx => fo1 m hm x hx
      · have hn : getL ABlk.none (L.map Imp.blk) i = .none := by
          have := getL_append ABlk.none (L.map Imp.blk) [] i
          rw [List.append_nil, map_blk_fst, if_neg h2] at this
          exact this
        rw [hn]
        intro x hx
        rcases hwho x i hx with ⟨m, e1, e2, _⟩ | ⟨e1, _, e2⟩
        · exact h2 (List.mem_map.2 ⟨m, e1, e2⟩)
        · exact h1 ⟨e1, e2⟩
  · intro x i hx
    rcases hwho x i hx with ⟨m, e1, e2, e3⟩ | ⟨e1, rfl, _⟩
    · refine ⟨(k2 m e1).lt x e3, .inl ?_⟩
      obtain ⟨g1, j, g2, g3⟩ := k3 m e1 x e3
      exact ⟨g1, .inr ⟨j, g2, g3⟩⟩
    · obtain ⟨_, _, _, g4, _⟩ := k5 e1
      exact ⟨g4, .inl ⟨e1, .inl rfl⟩⟩
  · intro b' hb'
    have hb'' : (if hb then some b else none) = some b' := hb'
    split at hb''
    · cases hb''
      exact (fa2 900 h900).trans (if_pos rfl)
    · cases hb''

theorem BPart.congrF {w : World} {S : Nat → Prop} {v : Value} {a : AV} {F F' : Nat → Prop} (h : BPart w S v a F) (hF : F' = F) : BPart w S v a F' := by
  subst hF; exact h

/-! ### The end -/

theorem expP_sound {X : Ctx} {s : AState} {a : Act} {w : World} {c : AV} {v : Value} {K : AV → List Nat → Prop} (h : R X s a w) (hv : VRel X s.kds w v c) (hK : expP s c K) :
    ∃ (c' : AV) (u : List Nat) (F : Nat → Prop), K c' u ∧ (u.Nodup → BPart w (ESet X s true) v c' F) ∧ (∀ x, F x ↔ ∃ id, id ∈ u ∧ X.own x = some id) ∧ ∀ id, id ∈ u → ∃ nn sz es, s.blk id = .row true nn sz es := by
  unfold expP at hK
  split at hK
  · rename_i cs
    obtain ⟨us, e, hus, hur⟩ := hv.agg_inv
    obtain ⟨cs', u, FF, hK, g1, g2, g3, g4, g5⟩ := expL_sound h cs (fun i => us.getD i undef) _ hur hK
    refine ⟨_, u, fun x => ∃ i, i < cs'.length ∧ FF i x, hK, fun hnd => ?_, g4, g3⟩
    rw [e]
    exact .agg us cs' FF _ (by omega) ⟨g2, g5 hnd⟩ (fun x => Iff.rfl)
  · obtain ⟨c', u, F, hK, g1, g2, g3⟩ := expC_sound h hv hK
    exact ⟨c', u, F, hK, fun _ => .cell _ _ _ g1, g2, g3⟩

theorem expPL_sound {X : Ctx} {s : AState} {a : Act} {w : World} (h : R X s a w) : ∀ (cs : List AV) (vs : List Value) (K : List AV → List Nat → Prop), vs.length = cs.length →
    (∀ (i : Nat) (_ : i < cs.length), VRel X s.kds w (vs.getD i undef) (cs.getD i .top)) → expPL s cs K →
    ∃ (cs' : List AV) (us : List Nat) (FF : Nat → Nat → Prop), K cs' us ∧ cs'.length = cs.length ∧ (us.Nodup → ∀ (i : Nat) (_ : i < cs'.length), BPart w (ESet X s true) (vs.getD i undef) (cs'.getD i .top) (FF i)) ∧
      (∀ id, id ∈ us → ∃ nn sz es, s.blk id = .row true nn sz es) ∧ (∀ x, (∃ i, i < cs'.length ∧ FF i x) ↔ ∃ id, id ∈ us ∧ X.own x = some id) ∧
      (us.Nodup → ∀ (i j x : Nat) (_ : i < cs'.length) (_ : j < cs'.length), FF i x → FF j x → i = j) := by
  intro cs
  induction cs with
  | nil =>
    intro vs K _ _ hK
    exact ⟨[], [], fun _ _ => False, hK, rfl, by simp, by simp, by simp, by simp⟩
  | cons c cs ih =>
    intro vs K hl hv hK
    cases vs with
    | nil => simp at hl
    | cons v vs =>
    have h0 := hv 0 (by simp)
    rw [getD_zero, getD_zero] at h0
    obtain ⟨c', u, F, hK, hC, hF, hu⟩ := expP_sound h h0 hK
    obtain ⟨cs', us, FF, hK, hl, hCs, hus, hFF, hd⟩ := ih vs _ (by simpa using hl) (fun i hi => by
      have := hv (i + 1) (by simp; omega)
      rwa [getD_succ, getD_succ] at this) hK
    refine ⟨c' :: cs', u ++ us, fun i => match i with | 0 => F | i + 1 => FF i, hK, by simp [hl], ?_, ?_, ?_, ?_⟩
    · intro hnd i hi
      obtain ⟨hnd1, hnd2, _⟩ := List.nodup_append.1 hnd
      cases i with
      | zero => exact hC hnd1
      | succ i => exact hCs hnd2 i (by simp at hi; omega)
    · intro id hid
      rcases List.mem_append.1 hid with e | e
      · exact hu id e
      · exact hus id e
    · intro x
      constructor
      · rintro ⟨i, hi, hx⟩
        cases i with
        | zero => obtain ⟨id, h1, h2⟩ := (hF x).1 hx; exact ⟨id, List.mem_append.2 (.inl h1), h2⟩
        | succ i => obtain ⟨id, h1, h2⟩ := (hFF x).1 ⟨i, by simp at hi; omega, hx⟩; exact ⟨id, List.mem_append.2 (.inr h1), h2⟩
      · rintro ⟨id, h1, h2⟩
        rcases List.mem_append.1 h1 with e | e
        · exact ⟨0, by simp, (hF x).2 ⟨id, e, h2⟩⟩
        · obtain ⟨i, hi, hx⟩ := (hFF x).2 ⟨id, e, h2⟩
          exact ⟨i + 1, by simp; omega, hx⟩
    · intro hnd i j x hi hj hx hy
      obtain ⟨_, hnd2, hnd3⟩ := List.nodup_append.1 hnd
      cases i with
      | zero =>
        cases j with
        | zero => rfl
        | succ j =>
          obtain ⟨id, h1, h2⟩ := (hF x).1 hx
          obtain ⟨id', h3, h4⟩ := (hFF x).1 ⟨j, by simp at hj; omega, hy⟩
          rw [h2] at h4; cases h4
          exact absurd rfl (hnd3 id h1 id h3)
      | succ i =>
        cases j with
        | zero =>
          obtain ⟨id, h1, h2⟩ := (hF x).1 hy
          obtain ⟨id', h3, h4⟩ := (hFF x).1 ⟨i, by simp at hi; omega, hx⟩
          rw [h2] at h4; cases h4
          exact absurd rfl (hnd3 id h1 id h3)
        | succ j => rw [hd hnd2 i j x (by simp at hi; omega) (by simp at hj; omega) hx hy]

def resOne (tmps : Array Value) : ResultVar → Sem Value
  | .tmp t => pure (tmps.getD t undef)
  | .cell a t => do loadVar t (← asAddr (tmps.getD a undef))

/-- The results as the machine has them. -/
theorem resK_sound {P : Program} {T : Tab} (hT : TabOk P T) {X : Ctx} {s : AState} {a : Act} {w : World} (h : R X s a w) : ∀ (rs : List ResultVar) (K : List AV → Prop), resK T s rs K →
    ∃ (vals : List Value) (avs : List AV), K avs ∧ vals.length = avs.length ∧ avs.length = rs.length ∧ (∀ (i : Nat) (_ : i < avs.length), VRel X s.kds w (vals.getD i undef) (avs.getD i .top)) ∧
      (rs.mapM (resOne a.tmps)).run P w = .ok vals w
  | [], K, hK => ⟨[], [], hK, rfl, rfl, by simp, by simp⟩
  | .tmp t :: r, K, hK => by
    obtain ⟨vals, avs, h1, h2, h3, h4, h5⟩ := resK_sound hT h r _ hK
    refine ⟨a.tmps.getD t undef :: vals, s.get t :: avs, h1, by simp [h2], by simp [h3], ?_, ?_⟩
    · intro i hi
      cases i with
      | zero => exact h.fr t
      | succ i => rw [getD_succ, getD_succ]; exact h4 i (by simp at hi; omega)
    · have h6 : (resOne a.tmps (.tmp t)).run P w = .ok (a.tmps.getD t undef) w := rfl
      simp only [List.mapM_cons, Sem.run_bind, h6, Sem.run_pure, Result.andThen_ok, h5]
  | .cell x ty :: r, K, hK => by
    unfold resK at hK
    split at hK
    · rename_i id hx
      split at hK
      · rename_i cs hb
        have hkd : s.kds id = .var := by unfold AState.kds; rw [hb]; rfl
        have hv := h.fr x
        rw [hx] at hv
        obtain ⟨b, hve, hi⟩ := hv.loc_inv hkd
        have hB := h.bl id
        rw [hb] at hB
        obtain ⟨b', c, cty, g1, g2, g3, g4, g5⟩ := hB
        rw [hi] at g1; cases g1
        cases hti : T ty with
        | none => simp [tyShape, hti] at hK
        | some i =>
          obtain ⟨nf, d, z, ok⟩ := hT.get hti
          simp only [tyShape, hti] at hK
          cases hag : i.agg with
          | true =>
            simp only [hag] at hK
            obtain ⟨hsz, hK⟩ := hK
            obtain ⟨vals, avs, h1, h2, h3, h4, h5⟩ := resK_sound hT h r _ hK
            refine ⟨.agg c :: vals, .agg cs :: avs, h1, by simp [h2], by simp [h3], ?_, ?_⟩
            · intro j hj
              cases j with
              | zero => exact .agg _ _ g4 g5
              | succ j => rw [getD_succ, getD_succ]; exact h4 j (by simp at hj; omega)
            · have hl : (loadVar ty ⟨b, 0, none⟩).run P w = .ok (.agg c) w := by
                simp only [loadVar, Sem.run_bind, ok.run_agg, ok.run_size, hag, if_true, Result.andThen_ok]
                have hsc : i.size = c.toList.length := by simp; omega
                rw [hsc, run_loadCells_list (P := P) w ⟨b, 0, none⟩ c.toList (fun j v hj => by
                  rw [addr_add, Nat.zero_add, cell_of_row w b j c cty (0, 0) g2]; simpa using hj)]
                simp
              have h6 : (resOne a.tmps (.cell x ty)).run P w = (loadVar ty ⟨b, 0, none⟩).run P w := by
                unfold resOne
                rw [Sem.run_bind, hve]
                rfl
              simp only [List.mapM_cons, Sem.run_bind, h6, hl, Sem.run_pure, Result.andThen_ok, h5]
          | false =>
            simp only [hag] at hK
            obtain ⟨hsz, hK⟩ := hK
            obtain ⟨vals, avs, h1, h2, h3, h4, h5⟩ := resK_sound hT h r _ hK
            refine ⟨c.getD 0 undef :: vals, cs.getD 0 .top :: avs, h1, by simp [h2], by simp [h3], ?_, ?_⟩
            · intro j hj
              cases j with
              | zero => exact g5 0 (by omega)
              | succ j => rw [getD_succ, getD_succ]; exact h4 j (by simp at hj; omega)
            · have hl : (loadVar ty ⟨b, 0, none⟩).run P w = .ok (c.getD 0 undef) w := by
                simp only [loadVar, Sem.run_bind, ok.run_agg, hag, Bool.false_eq_true, if_false, Result.andThen_ok, run_load, getD_cell g2 (show 0 < c.size by omega)]
              have h6 : (resOne a.tmps (.cell x ty)).run P w = (loadVar ty ⟨b, 0, none⟩).run P w := by
                unfold resOne
                rw [Sem.run_bind, hve]
                rfl
              simp only [List.mapM_cons, Sem.run_bind, h6, hl, Sem.run_pure, Result.andThen_ok, h5]
      · exact hK.elim
    · exact hK.elim

theorem results_run {P : Program} {w : World} {fn : Func} {tmps : Array Value} {vals : List Value} (h : (fn.results.toList.mapM (resOne tmps)).run P w = .ok vals w) :
    (results fn tmps).run P w = .ok (packV vals) w := by
  have e : ∀ f : ResultVar → Sem Value, (∀ r, f r = resOne tmps r) → fn.results.mapM f = List.toArray <$> fn.results.toList.mapM (resOne tmps) := by
    intro f hf
    have : f = resOne tmps := funext hf
    rw [this, Array.mapM_eq_mapM_toList]
  unfold results
  rw [e _ (fun r => by cases r <;> rfl), Sem.run_bind, Sem.run_map, h]
  simp only [Result.andThen_ok]
  match vals with
  | [] => rfl
  | [v] => rfl
  | _ :: _ :: _ => rfl

/-- A contract out of a body. -/
theorem fspec_intro {P : Program} {T : Tab} (hT : TabOk P T) {k : FuncId} {fn : Func} {c : Code} {args : List AV} {hb : Bool} {bx : List AV} {Q : AV → List AV → Prop}
    (hcall : ∀ (vs : Array Value) (w : World), (callFunc k vs).run P w = .ok (.enter k vs) w) (hf : P.funcs[k]? = some fn) (hbody : fn.body = some c) (nt : Nat) (hnt : fn.ntmps = nt) (hlen : args.length ≤ nt)
    (hsem : ∀ B : Base, SemC P B c (fun e s => (e = .normal ∨ e = .ret) ∧ exitK T s fn.results.toList hb Q) (startSt nt args hb bx)) : FSpec P k args hb bx Q := by
  refine ⟨hcall, fun w S vs b BF h1 h2 h3 h4 => ?_⟩
  subst hnt
  obtain ⟨X, hX, hR⟩ := R.start h1 h2 h3 h4 hlen
  refine calls_of_wp hf hbody ?_
  refine wp_mono (hsem _ X _ w rfl hR) ?_
  rintro e a' w' ⟨X', s', hXb, hR', he, hK⟩
  rw [hX] at hXb
  have key : bodyPost P fn (fun e w' => ∃ v r bx' F BF', e = .returned v ∧ Q r bx' ∧ WFrame w w' (BoxM hb b bx BF) ∧
      BRes w' (fun x => ¬ F x ∧ ¬ BoxM hb b bx' BF' x ∧ (S x ∨ BoxM hb b bx BF x ∨ w.heap.size ≤ x)) v r F ∧
      (hb = true → BoxAt w' (fun x => ¬ F x ∧ ¬ BoxM hb b bx' BF' x ∧ (S x ∨ BoxM hb b bx BF x ∨ w.heap.size ≤ x)) b bx' BF') ∧
      (∀ x, F x → ¬ BoxM hb b bx' BF' x) ∧ (∀ x, F x ∨ BoxM hb b bx' BF' x → (BoxM hb b bx BF x ∨ w.heap.size ≤ x) ∧ x < w'.heap.size)) .normal a' w' := by
    refine ⟨hR'.df, ?_⟩
    unfold exitK at hK
    obtain ⟨vals, avs, hK, hl1, hl2, hv, hrun⟩ := resK_sound (P := P) hT hR' _ _ hK
    obtain ⟨cs', us, FF, hK, g1, g2, g3, g4, g5⟩ := expPL_sound hR' avs vals _ hl1 hv hK
    have hrun' := results_run (fn := fn) hrun
    have hown : ∀ x id, X'.own x = some id → (BoxM hb b bx BF x ∨ w.heap.size ≤ x) ∧ x < w'.heap.size := by
      intro x id hx
      have := hR'.ow x id hx
      rw [hXb] at this
      exact ⟨this.2, this.1⟩
    have hA : ∀ x, X'.base.A x ↔ (S x ∨ BoxM hb b bx BF x ∨ w.heap.size ≤ x) := by
      intro x; rw [hXb]; exact Iff.rfl
    have hbox : ∃ (bx' : List AV) (us' : List Nat) (BF' : Nat → Nat → Prop), (us ++ us').Nodup ∧ Q (packA cs') bx' ∧ (∀ id, id ∈ us' → ∃ nn sz es, s'.blk id = .row true nn sz es) ∧
        (∀ x, BoxM hb b bx' BF' x → (X'.own x = some 900 ∧ s'.kds 900 = .var) ∨ ∃ id, id ∈ us' ∧ X'.own x = some id) ∧ (hb = true → BoxAt w' (ESet X' s' true) b bx' BF') := by
      unfold boxK at hK
      cases hbt : hb with
      | false =>
        rw [hbt] at hK
        obtain ⟨hK1, hK2⟩ := hK
        exact ⟨[], [], fun _ _ => False, hK1, hK2, (fun _ e => by cases e), (fun x e => by cases e.1), fun e => by cases e⟩
      | true =>
        rw [hbt, if_pos rfl] at hK
        split at hK
        · rename_i bcs hbb
          have hB := hR'.bl 900
          rw [hbb] at hB
          obtain ⟨b', c', ty', e1, e2, e3, e4, e5⟩ := hB
          have e6 : X'.at_ 900 = some b := hR'.bx b (by rw [hXb, hbt]; rfl)
          rw [e1] at e6; cases e6
          obtain ⟨bx', us', BF', hK, f1, f2, f3, f4, f5⟩ := expL_sound (fin := true) hR' bcs (fun i => c'.getD i undef) _ e5 hK
          obtain ⟨hK1, hK2⟩ := hK
          refine ⟨bx', us', BF', hK1, hK2, f3, ?_, fun _ => ⟨⟨c', ty', e2, by omega, f2, f5 (List.nodup_append.1 hK1).2.1⟩, ?_⟩⟩
          · rintro x ⟨_, hx⟩
            rcases hx with rfl | hx
            · exact .inl ⟨(e3 x).2 rfl, by unfold AState.kds; rw [hbb]; rfl⟩
            · exact .inr ((f4 x).1 hx)
          · intro i hi hx
            obtain ⟨id, h5, h6⟩ := (f4 b).1 ⟨i, hi, hx⟩
            have h7 : X'.own b = some 900 := (e3 b).2 rfl
            have he' : id = 900 := Option.some.inj (h6.symm.trans h7)
            obtain ⟨_, _, _, h8⟩ := f3 id h5
            rw [he', hbb] at h8; cases h8
        · exact hK.elim
    obtain ⟨bx', us', BF', hnd, hQ, f1, f2, f3⟩ := hbox
    obtain ⟨hnd1, hnd2, hnd3⟩ := List.nodup_append.1 hnd
    have hFu : ∀ x, (∃ i, i < cs'.length ∧ FF i x) → ¬ BoxM hb b bx' BF' x := by
      intro x hx hbm
      obtain ⟨id, h5, h6⟩ := (g4 x).1 hx
      rcases f2 x hbm with ⟨h7, h8⟩ | ⟨id', h7, h8⟩
      · rw [h6] at h7; cases h7
        obtain ⟨_, _, _, h9⟩ := g3 900 h5
        unfold AState.kds at h8; rw [h9] at h8; cases h8
      · rw [h6] at h8; cases h8
        exact hnd3 id h5 id h7 rfl
    have hE : ∀ x, ESet X' s' true x → ¬ (∃ i, i < cs'.length ∧ FF i x) ∧ ¬ BoxM hb b bx' BF' x ∧ (S x ∨ BoxM hb b bx BF x ∨ w.heap.size ≤ x) := by
      rintro x ⟨hx1, hx2⟩
      refine ⟨?_, ?_, (hA x).1 hx1⟩
      · intro hx
        obtain ⟨id, h5, h6⟩ := (g4 x).1 hx
        obtain ⟨_, _, _, _, h7⟩ := hx2 id h6
        obtain ⟨_, _, _, h8⟩ := g3 id h5
        rw [h7] at h8; cases h8
      · intro hbm
        rcases f2 x hbm with ⟨h7, h8⟩ | ⟨id, h7, h8⟩
        · obtain ⟨_, _, _, _, h9⟩ := hx2 900 h7
          unfold AState.kds at h8; rw [h9] at h8; cases h8
        · obtain ⟨_, _, _, _, h9⟩ := hx2 id h8
          obtain ⟨_, _, _, h10⟩ := f1 id h7
          rw [h9] at h10; cases h10
    have hW : WFrame w w' (BoxM hb b bx BF) := by
      have h5 := hR'.os; have h6 := hR'.tape; have h7 := hR'.output; have h8 := hR'.size; have h9 := hR'.old
      rw [hXb] at h5 h6 h7 h8 h9
      exact ⟨h5, h6, h7, h8, h9⟩
    have hO : ∀ x, (∃ i, i < cs'.length ∧ FF i x) ∨ BoxM hb b bx' BF' x → (BoxM hb b bx BF x ∨ w.heap.size ≤ x) ∧ x < w'.heap.size := by
      rintro x (hx | hx)
      · obtain ⟨id, _, h6⟩ := (g4 x).1 hx; exact hown x id h6
      · rcases f2 x hx with ⟨h7, _⟩ | ⟨id, _, h8⟩
        · exact hown x 900 h7
        · exact hown x id h8
    refine ⟨packV vals, hrun', packV vals, packA cs', bx', fun x => ∃ i, i < cs'.length ∧ FF i x, BF', rfl, hQ, hW, ?_, fun e => (f3 e).mono hE, hFu, hO⟩
    have hg2 := fun i hi => (g2 hnd1 i hi).mono hE
    have hlen : vals.length = cs'.length := by omega
    match vals, cs', hlen with
    | [], [], _ =>
      exact .tup #[] [] FF _ rfl hg2 (g5 hnd1) (fun x => Iff.rfl)
    | [v], [c'], _ =>
      have h0 := hg2 0 (by simp)
      have hFe : (fun x => ∃ i, i < [c'].length ∧ FF i x) = FF 0 := by
        funext x
        refine propext ⟨fun ⟨i, hi, hx⟩ => ?_, fun hx => ⟨0, by simp, hx⟩⟩
        have : i = 0 := by simp at hi; exact hi
        rw [← this]; exact hx
      exact .part _ _ _ (h0.congrF hFe)
    | v1 :: v2 :: vr, c1 :: c2 :: cr, hlen =>
      refine .tup (v1 :: v2 :: vr).toArray (c1 :: c2 :: cr) FF _ (by simpa using hlen) (fun i hi => ?_) (g5 hnd1) (fun x => Iff.rfl)
      have := hg2 i hi
      have e : (v1 :: v2 :: vr).toArray.getD i undef = (v1 :: v2 :: vr).getD i undef := by
        simp [Array.getD_eq_getD_getElem?, List.getD_eq_getElem?_getD]
      rw [e]; exact this
  rcases he with rfl | rfl
  · exact key
  · exact key

end Go.Proofs.Ytdaemhaecjldaaa
