/- Regions that keep the order of their text, and code: one abstract run. -/
import Derived.Test.YtdaemhaecjldaaaAi20
import Derived.Deep.LoopGhost
namespace Go.Proofs.Ytdaemhaecjldaaa
open Go Go.RowKit

def dstOk (s : AState) : Option Nat → Prop
  | some d => d < s.nt
  | none => True

/-- Where the operation that guards another one leaves its answer. -/
def guardAt (ops : List Oper) (j : Nat) : Option Nat := match ops[j]? with
  | some o => o.dst
  | none => none

/-- An operation of a region, guarded or not. -/
def stepK (P : Program) (T : Tab) (ops : List Oper) (o : Oper) (s : AState) (Φ : AState → Prop) : Prop :=
  match o.guard with
  | none => opK P T s o Φ
  | some (j, want) => match guardAt ops j with
    | some dj => match s.get dj with
      | .bool g => (g = want → opK P T (s.put (some dj) (.bool want)) o Φ) ∧ (g = !want → Φ ((s.put (some dj) (.bool !want)).put o.dst (.tup [])))
      | .tup [] => Φ (s.put o.dst (.tup []))
      | _ => False
    | none => False

def regK (P : Program) (T : Tab) (ops : List Oper) (Φ : AState → Prop) : List Oper → AState → Prop
  | [], s => Φ s
  | o :: rest, s => dstOk s o.dst ∧ stepK P T ops o s fun s => regK P T ops Φ rest s

theorem tup_nil_rel (X : Ctx) (kd : Nat → Kd) (w : World) : VRel X kd w undef (.tup []) := .pure (.tup #[] [] rfl (fun i hi => absurd hi (by simp)))

theorem yielded_of {ops : List Oper} {a : Act} {j dj : Nat} (hj : guardAt ops j = some dj) :
    yielded ops.toArray a.tmps j = match a.tmps.getD dj undef with | .bool b => some b | _ => none := by
  unfold guardAt at hj
  cases ho : ops[j]? with
  | none => simp [ho] at hj
  | some o =>
    simp only [ho] at hj
    unfold yielded
    simp only [List.getElem?_toArray, ho, Option.bind_some, hj]
    rw [Array.getD_eq_getD_getElem?]
    cases a.tmps[dj]? with
    | none => rfl
    | some v => cases v <;> rfl

/-- A slot's value written anew. -/
theorem R.reput {X : Ctx} {s : AState} {a : Act} {w : World} (h : R X s a w) {d : Nat} {v : AV} (hv : s.get d = v) : R X (s.put (some d) v) a w := by
  refine ⟨h.nt, h.df, fun i => ?_, h.bl, h.ow, h.os, h.tape, h.output, h.size, h.old, h.bx⟩
  have : (s.put (some d) v).get i = s.get i := by
    show getL .top ((d, v) :: s.fr) i = _
    rw [getL_cons]
    split
    · rename_i e; rw [e]; exact hv.symm
    · rfl
  rw [this]
  exact h.fr i

theorem regK_sound {P : Program} {T : Tab} (hT : TabOk P T) {ops : List Oper} {B : Base} {Kx : Exit → AState → Prop} : ∀ (l : List Oper) (X : Ctx) (s : AState) (a : Act) (w : World), X.base = B → R X s a w →
    regK P T ops (Kx .normal) l s → wpList P ops.toArray (fun e a w => Post B (Kx e) a w) l a w
  | [], X, s, a, w, hB, h, hK => .of hB h hK
  | o :: rest, X, s, a, w, hB, h, hK => by
    obtain ⟨hd, hK⟩ := hK
    have hd' : ∀ d, o.dst = some d → d < s.nt := by
      intro d e; rw [e] at hd; exact hd
    have hnext : ∀ a' w', Post X.base (fun s => regK P T ops (Kx .normal) rest s) a' w' → wpList P ops.toArray (fun e a w => Post B (Kx e) a w) rest a' w' := by
      rintro a' w' ⟨X', s', h1, h2, h3⟩
      exact regK_sound hT rest X' s' a' w' (h1.trans hB) h2 h3
    have hrun : ∀ s, R X s a w → (∀ d, o.dst = some d → d < s.nt) → opK P T s o (fun s => regK P T ops (Kx .normal) rest s) → o.wp P a w (wpList P ops.toArray (fun e a w => Post B (Kx e) a w) rest) (fun e a w => Post B (Kx e) a w) :=
      fun s h hd' hk => Oper.wp_mono hnext (opK_sound hT h hd' hk)
    have hskip : ∀ s, R X s a w → (∀ d, o.dst = some d → d < s.nt) → regK P T ops (Kx .normal) rest (s.put o.dst (.tup [])) → wpList P ops.toArray (fun e a w => Post B (Kx e) a w) rest (a.put o.dst undef) w :=
      fun s h hd' hk => hnext _ _ (.of rfl (h.put (tup_nil_rel _ _ _) hd') hk)
    unfold stepK at hK
    unfold wpList
    split at hK
    · rename_i hg
      rw [if_pos (by simp [Region.wanted, hg])]
      exact .inl (hrun s h hd' hK)
    · rename_i j want hg
      split at hK
      · rename_i dj hj
        have hy := yielded_of (a := a) hj
        have hv := h.fr dj
        split at hK
        · rename_i g hs
          rw [hs] at hv
          rw [hv.bool_inv] at hy
          by_cases e : g = want
          · rw [if_pos (by simp [Region.wanted, hg, hy, e])]
            exact .inl (hrun _ (h.reput (by rw [hs, e])) hd' (hK.1 e))
          · rw [if_neg (by simp [Region.wanted, hg, hy, e])]
            have e' : g = !want := by cases g <;> cases want <;> simp_all
            exact hskip _ (h.reput (by rw [hs, e'])) hd' (hK.2 e')
        · rename_i hs
          rw [hs] at hv
          obtain ⟨vs, e, hl, _⟩ := hv.tup_inv
          rw [e] at hy
          rw [if_neg (by simp [Region.wanted, hg, hy])]
          exact hskip s h hd' hK
        · exact hK.elim
      · exact hK.elim

def thenK (K : AState → Prop) (Kx : Exit → AState → Prop) : Exit → AState → Prop
  | .normal, s => K s
  | e, s => Kx e s

def inBlockK (id : Nat) (Kx : Exit → AState → Prop) : Exit → AState → Prop
  | .exit id', s => if id' = id then Kx .normal s else Kx (.exit id') s
  | e, s => Kx e s

/-- A part of the code that is left open. -/
def SemL (P : Program) (B : Base) (c : Code) (s : AState) [K : Kont (Exit → AState → Prop)] : Prop := SemC P B c K.k s

/-- The abstract run of code; loops, and regions that draw their order, are left open. -/
def codeK (P : Program) (T : Tab) (B : Base) : Code → (Exit → AState → Prop) → AState → Prop
  | .skip, Kx, s => Kx .normal s
  | .region id ops draw, Kx, s => (match draw with
    | true => @SemL P B (.region id ops true) s ⟨Kx⟩
    | false => regK P T ops.toList (Kx .normal) ops.toList s)
  | .seq x y, Kx, s => codeK P T B x (thenK (codeK P T B y Kx) Kx) s
  | .cond c x y, Kx, s => (match s.ev c with
    | .bool b => (b = true → codeK P T B x Kx s) ∧ (b = false → codeK P T B y Kx s)
    | _ => False)
  | .block id c, Kx, s => codeK P T B c (inBlockK id Kx) s
  | .exit id, Kx, s => Kx (.exit id) s
  | .ret, Kx, s => Kx .ret s
  | c, Kx, s => @SemL P B c s ⟨Kx⟩

theorem codeK_sound {P : Program} {T : Tab} (hT : TabOk P T) {B : Base} : ∀ (c : Code) (Kx : Exit → AState → Prop) (s : AState), codeK P T B c Kx s → SemC P B c Kx s
  | .skip, Kx, s, hK => fun X a w hB h => wp_skip (.of hB h hK)
  | .region id ops draw, Kx, s, hK => by
    cases draw with
    | true => exact hK
    | false =>
      intro X a w hB h
      refine wp_region_list ?_
      have := regK_sound hT (ops := ops.toList) ops.toList X s a w hB h hK
      rwa [Array.toArray_toList] at this
  | .seq x y, Kx, s, hK => by
    intro X a w hB h
    refine wp_seq (wp_mono (codeK_sound hT x _ s hK X a w hB h) ?_)
    rintro e a' w' ⟨X', s', h1, h2, h3⟩
    cases e with
    | normal => exact codeK_sound hT y Kx s' h3 X' a' w' h1 h2
    | _ => exact ⟨X', s', h1, h2, h3⟩
  | .cond c x y, Kx, s, hK => by
    intro X a w hB h
    unfold codeK at hK
    split at hK
    · rename_i b hb
      have hv := h.ev c
      rw [hb] at hv
      exact wp_cond_split hv.bool_inv (fun e => codeK_sound hT x Kx s (hK.1 e) X a w hB h) (fun e => codeK_sound hT y Kx s (hK.2 e) X a w hB h)
    · exact hK.elim
  | .block id c, Kx, s, hK => by
    intro X a w hB h
    refine wp_block (wp_mono (codeK_sound hT c _ s hK X a w hB h) ?_)
    rintro e a' w' ⟨X', s', h1, h2, h3⟩
    cases e with
    | exit id' =>
      show if id' = id then _ else _
      have h3 : if id' = id then Kx .normal s' else Kx (.exit id') s' := h3
      split
      · rename_i e; rw [if_pos e] at h3; exact ⟨X', s', h1, h2, h3⟩
      · rename_i e; rw [if_neg e] at h3; exact ⟨X', s', h1, h2, h3⟩
    | _ => exact ⟨X', s', h1, h2, h3⟩
  | .exit id, Kx, s, hK => fun X a w hB h => wp_exit (.of hB h hK)
  | .ret, Kx, s, hK => fun X a w hB h => wp_ret (.of hB h hK)
  | .loop c, Kx, s, hK => hK
  | .rangeFunc f p x y, Kx, s, hK => hK
  | .scope c, Kx, s, hK => hK
  | .label l, Kx, s, hK => hK
  | .goto l, Kx, s, hK => hK
  | .refuse y, Kx, s, hK => hK

/-- A loop: a family of states that every round leads back into, with a lesser number. -/
theorem semC_loop {P : Program} {B : Base} {c : Code} {Kx : Exit → AState → Prop} {s : AState} (J : Nat → AState → Prop) (n : Nat) (h0 : J n s)
    (hr : ∀ n s, J n s → SemC P B c (thenK (fun s => ∃ m, m < n ∧ J m s) Kx) s) : SemC P B (.loop c) Kx s := by
  intro X a w hB h
  refine wp_loop_ghost (fun n a w => Post B (J n) a w) n ⟨X, s, hB, h, h0⟩ ?_
  rintro n a w ⟨X, s, hB, h, hJ⟩
  refine wp_mono (hr n s hJ X a w hB h) ?_
  rintro e a' w' ⟨X', s', h1, h2, h3⟩
  cases e with
  | normal =>
    obtain ⟨m, hm, hJ⟩ := h3
    exact ⟨m, hm, X', s', h1, h2, hJ⟩
  | _ => exact ⟨X', s', h1, h2, h3⟩

theorem SemC.mono {P : Program} {B : Base} {c : Code} {K K' : Exit → AState → Prop} {s : AState} (h : SemC P B c K s) (hk : ∀ e s, K e s → K' e s) : SemC P B c K' s := by
  intro X a w hB hR
  refine wp_mono (h X a w hB hR) ?_
  rintro e a' w' ⟨X', s', h1, h2, h3⟩
  exact ⟨X', s', h1, h2, hk _ _ h3⟩

end Go.Proofs.Ytdaemhaecjldaaa
