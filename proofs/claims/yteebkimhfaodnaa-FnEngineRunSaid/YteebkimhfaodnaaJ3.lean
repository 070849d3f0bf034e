/- Shared texts J (part 3): Ai21, Ai22, Ai23, Ai24, Ai25, Ai26, Ai37, Ai39, Ai40, Ai41, Ai42, Ai43, Ai44, Ai46, Ai47, Ai48, Ai49, Ai50 -/
import Derived.Deep.LoopGhost
import Derived.ProofKit
import Derived.Below
import Derived.ChangeSame
import Derived.Still
import Derived.StillTail
import Derived.Test.YteebkimhfaodnaaJ2

set_option linter.unusedSimpArgs false
set_option linter.unusedVariables false

/- Regions that keep the order of their text, and code: one abstract run. -/
namespace Go.Proofs.Yteebkimhfaodnaa
open Go Go.RowKit

def dstOk (s : AState) : Option Nat → Prop
  | some d => d < s.nt
  | none => True

/-- Where the operation that guards another one leaves its answer. -/
def guardAt (ops : List Oper) (j : Nat) : Option Nat := match ops[j]? with
  | some o => o.dst
  | none => none

/-- An operation of a region, guarded or not. -/
def stepK (P : Program) (T : Tab) (ops : List Oper) (o : Oper) (s : AState) (Φ : AState → Prop) : Prop :=
  match o.guard with
  | none => opK P T s o Φ
  | some (j, want) => match guardAt ops j with
    | some dj => match s.get dj with
      | .bool g => bothK g want (opK P T (s.put (some dj) (.bool want)) o Φ) (Φ ((s.put (some dj) (.bool !want)).put o.dst (.tup [])))
      | .tup [] => Φ (s.put o.dst (.tup []))
      | _ => False
    | none => False

/-- A slice that lies in an element of an own row is read and lent to a call: three operations that belong together. -/
def lendB (s : AState) (o1 o3 : Oper) : Bool :=
  match o1.op with
  | .load _ a => (match o3.op with
    | .call c => (match c.callee with
      | .value (.func k) => mutB k && (match s.ev a with | .elt _ _ _ => true | _ => false)
      | _ => false)
    | _ => false)
  | _ => false

def argsN (s : AState) (d1 n : Nat) : List Operand → (List AV → Prop) → Prop
  | [], K => K []
  | .tmp t :: xs, K => (if t = d1 then argsN s d1 n xs fun as => K (.row 800 n :: as) else (match s.get t with
    | .int k m => argsN s d1 n xs fun as => K (.int k m :: as)
    | .bool b => argsN s d1 n xs fun as => K (.bool b :: as)
    | _ => False))
  | _ :: _, _ => False

def lendK (P : Program) (T : Tab) (s : AState) (o1 o2 o3 : Oper) (Φ : AState → Prop) : Prop :=
  match o1.op, o2.op, o3.op with
  | .load t a, .move y, .call c => (match o1.dst, s.ev a, c.callee with
    | some d1, .elt id e off, .value (.func k) => (o1.guard = none ∧ o2.guard = none ∧ o3.guard = none) ∧ (dstOk s o1.dst ∧ dstOk s o2.dst ∧ dstOk s o3.dst) ∧ o2.dst ≠ some d1 ∧
      (match tyShape T t, s.blk id with
      | some (false, 1, _), .row true nn sz es => (e < es.length ∧ off + 1 ≤ sz) ∧ (match (es.getD e []).getD off .top with
        | .sl nn0 es2 => argsN ((s.put (some d1) .top).put o2.dst ((s.put (some d1) .top).ev y)) d1 es2.length c.args.toList fun as =>
          ∀ sz2, 0 < sz2 → (∀ r ∈ es2, r.length = sz2) → @CallMTo P k as [.osl false sz2 es2] ⟨fun r ls' => ∀ es2', ls' = [.osl false sz2 es2'] →
            Φ ({ (s.put (some d1) .top).put o2.dst ((s.put (some d1) .top).ev y) with hp := (id, .row true nn sz (es.set e ((es.getD e []).set off (.sl nn0 es2')))) :: s.hp }.put o3.dst r)⟩
        | _ => False)
      | _, _ => False)
    | _, _, _ => False)
  | _, _, _ => False

def regK (P : Program) (T : Tab) (ops : List Oper) (Φ : AState → Prop) : List Oper → AState → Prop
  | [], s => Φ s
  | o :: o2 :: o3 :: rest, s => (match lendB s o o3 with
    | true => lendK P T s o o2 o3 fun s => regK P T ops Φ rest s
    | false => dstOk s o.dst ∧ stepK P T ops o s fun s => regK P T ops Φ (o2 :: o3 :: rest) s)
  | [o, o2], s => dstOk s o.dst ∧ stepK P T ops o s fun s => regK P T ops Φ [o2] s
  | [o], s => dstOk s o.dst ∧ stepK P T ops o s fun s => Φ s

theorem tup_nil_rel (X : Ctx) (kd : Nat → Kd) (w : World) : VRel X kd w undef (.tup []) := .pure (.tup #[] [] rfl (fun i hi => absurd hi (by simp)))

theorem yielded_of {ops : List Oper} {a : Act} {j dj : Nat} (hj : guardAt ops j = some dj) :
    yielded ops.toArray a.tmps j = match a.tmps.getD dj undef with | .bool b => some b | _ => none := by
  unfold guardAt at hj
  cases ho : ops[j]? with
  | none => simp [ho] at hj
  | some o =>
    simp only [ho] at hj
    unfold yielded
    simp only [List.getElem?_toArray, ho, Option.bind_some, hj]
    rw [Array.getD_eq_getD_getElem?]
    cases a.tmps[dj]? with
    | none => rfl
    | some v => cases v <;> rfl

/-- A slot's value written anew. -/
theorem R.reput {X : Ctx} {s : AState} {a : Act} {w : World} (h : R X s a w) {d : Nat} {v : AV} (hv : s.get d = v) : R X (s.put (some d) v) a w := by
  refine ⟨h.nt, h.df, fun i => ?_, h.bl, h.ow, h.os, h.tape, h.output, h.size, h.old, h.bx⟩
  have : (s.put (some d) v).get i = s.get i := by
    show getL .top ((d, v) :: s.fr) i = _
    rw [getL_cons]
    split
    · rename_i e; rw [e]; exact hv.symm
    · rfl
  rw [this]
  exact h.fr i

/-- The operands of the call: numbers, and the slice that is lent. -/
theorem argsN_sound {X : Ctx} {s : AState} {a : Act} {w : World} (h : R X s a w) {d1 n : Nat} {hv : Value} {nn : Bool} {sz : Nat} {es : List (List AV)} (hn : n = es.length) (ht : a.tmps.getD d1 undef = hv) : ∀ (xs : List Operand) (K : List AV → Prop), argsN s d1 n xs K →
    ∃ as, K as ∧ as.length = xs.length ∧ ∀ (S : Nat → Prop) (i : Nat) (_ : i < as.length), LArg w S (fun _ => hv) [.osl nn sz es] ((xs.map a.eval).getD i undef) (as.getD i .top)
  | [], K, hK => ⟨[], hK, rfl, fun _ i hi => absurd hi (by simp)⟩
  | x :: xs, K, hK => by
    have fin : ∀ v : AV, (∀ S, LArg w S (fun _ => hv) [.osl nn sz es] (a.eval x) v) → (argsN s d1 n xs fun as => K (v :: as)) →
        ∃ as, K as ∧ as.length = (x :: xs).length ∧ ∀ (S : Nat → Prop) (i : Nat) (_ : i < as.length), LArg w S (fun _ => hv) [.osl nn sz es] (((x :: xs).map a.eval).getD i undef) (as.getD i .top) := by
      intro v hv' hK
      obtain ⟨as, g1, g2, g3⟩ := argsN_sound h hn ht xs _ hK
      refine ⟨v :: as, g1, by simp [g2], fun S i hi => ?_⟩
      cases i with
      | zero => exact hv' S
      | succ i => exact g3 S i (by simpa using hi)
    cases x with
    | tmp t =>
      unfold argsN at hK
      split at hK
      · rename_i e
        subst e
        refine fin _ (fun S => ?_) hK
        have e : a.eval (.tmp t) = hv := ht
        rw [e, hn]
        exact .row 0 nn sz es rfl
      · have hg := h.fr t
        split at hK
        · rename_i k m hs
          rw [hs] at hg
          refine fin _ (fun S => ?_) hK
          have e : a.eval (.tmp t) = .int k m := hg.int_inv
          rw [e]; exact .pure _ _ (.int _ _)
        · rename_i b hs
          rw [hs] at hg
          refine fin _ (fun S => ?_) hK
          have e : a.eval (.tmp t) = .bool b := hg.bool_inv
          rw [e]; exact .pure _ _ (.bool _)
        · exact hK.elim
    | const v => exact hK.elim
    | global g => exact hK.elim
    | func f => exact hK.elim

theorem OwnV.lent {w : World} {v : Value} {nn : Option Bool} {es : List (List AV)} {F : Nat → Prop} (h : OwnV w v (.sl nn es) F) : ∃ sz, 0 < sz ∧ (∀ r ∈ es, r.length = sz) ∧ OwnS w v false sz es F := by
  cases h with
  | nil nn hn F hF => exact ⟨1, by omega, by simp, by omega, by simp, .inl ⟨rfl, rfl, rfl, hF⟩⟩
  | slice b cap sz nn es c ty FF F hn hsz hz hcap ht hb hc h hd hnb hF =>
    exact ⟨sz, hz, hsz, hz, hsz, .inr ⟨b, cap, c, ty, FF, rfl, hb, hc, ⟨hcap, ht⟩, h, hd, hnb, hF⟩⟩

theorem OwnS.back {w w' : World} {v : Value} {nn : Option Bool} {es es' : List (List AV)} {F F' : Nat → Prop} {sz : Nat} (h0 : OwnV w v (.sl nn es) F) (h : OwnS w' v false sz es' F') : OwnV w' v (.sl nn es') F' := by
  obtain ⟨hz, hl, h⟩ := h
  rcases h with ⟨rfl, rfl, _, h4⟩ | ⟨b, cap, c, ty, FF, rfl, h2, h3, h4, h5, h6, h7, h8⟩
  · cases h0 with
    | nil nn hn F hF => exact .nil nn hn F' h4
  · refine .slice b cap sz nn es' c ty FF F' ?_ hl hz h4.1 h4.2 h2 h3 h5 h6 h7 h8
    generalize hv : Value.slice (some ⟨b, 0, none⟩) es'.length cap = v at h0
    cases h0 with
    | nil nn hn F hF => cases hv
    | slice b2 cap2 sz2 nn es c2 ty2 FF2 F hn _ _ _ _ _ _ _ _ _ _ => exact hn

theorem lendK_sound {P : Program} {T : Tab} (hT : TabOk P T) {ops : List Oper} {X : Ctx} {s : AState} {a : Act} {w : World} {o1 o2 o3 : Oper} {rest : List Oper} {Φ : AState → Prop} {Q : Exit → Act → World → Prop} (h : R X s a w)
    (hK : lendK P T s o1 o2 o3 Φ) (hnext : ∀ a' w', Post X.base Φ a' w' → wpList P ops.toArray Q rest a' w') : wpList P ops.toArray Q (o1 :: o2 :: o3 :: rest) a w := by
  unfold lendK at hK
  split at hK
  · rename_i t x y c ho1 ho2 ho3
    split at hK
    · rename_i d1 id e off k hd1 hev hcl
      obtain ⟨⟨hg1, hg2, hg3⟩, ⟨hk1, hk2, hk3⟩, hne, hK⟩ := hK
      split at hK
      · rename_i fl nn sz es hts hb
        obtain ⟨⟨hes, hoff⟩, hK⟩ := hK
        split at hK
        · rename_i nn0 es2 hcell
          have hkd : s.kds id = .row sz := by unfold AState.kds; rw [hb]; rfl
          have hp := h.ev x
          rw [hev] at hp
          obtain ⟨b, hpe, hat⟩ := hp.elt_inv hkd
          have hB := h.bl id
          rw [hb] at hB
          obtain ⟨hz, hls, hB⟩ := hB
          rcases hB with ⟨e1, _, e3, _⟩ | ⟨b', cc, ty, e1, e2, e3, e4, e6⟩
          · rw [hat] at e1; cases e1
          rw [hat] at e1; cases e1
          rcases e6.2 with ⟨_, FF, f1, f2, f3, f4⟩ | ⟨e7, _⟩
          case inr => cases e7
          -- the header
          obtain ⟨hv, hhv⟩ : ∃ hv, hv = cc.getD (e * sz + off) undef := ⟨_, rfl⟩
          have hlt : e * sz + off < cc.size := by rw [e3]; exact mul_lt_of hes (by omega) e4
          have hO := f1 e off hes (by omega)
          rw [hcell, ← hhv] at hO
          have hrun1 : (execOp a.eval o1).run P w = .ok (.value hv) w := by
            cases hti : T t with
            | none => simp [tyShape, hti] at hts
            | some i =>
              obtain ⟨nf, d, z, ok⟩ := hT.get hti
              simp only [tyShape, hti, Option.some.injEq, Prod.mk.injEq] at hts
              have hl : (Instr.loadAt t (a.eval x)).run P w = .ok hv w := by
                rw [hpe]
                simp only [Instr.loadAt, Instr.sureAddr, Sem.run_bind, Sem.run_pure, Result.andThen_ok, loadVar, ok.run_agg, hts.1, Bool.false_eq_true, if_false, run_load, getD_cell e2 hlt, ← hhv]
              simp only [execOp, ho1, Sem.run_bind, hl]
              rfl
          obtain ⟨s1, hs1⟩ : ∃ s1, s1 = s.put (some d1) .top := ⟨_, rfl⟩
          obtain ⟨s2, hs2⟩ : ∃ s2, s2 = s1.put o2.dst (s1.ev y) := ⟨_, rfl⟩
          obtain ⟨a1, ha1⟩ : ∃ a1, a1 = a.put (some d1) hv := ⟨_, rfl⟩
          obtain ⟨a2, ha2⟩ : ∃ a2, a2 = a1.put o2.dst (a1.eval y) := ⟨_, rfl⟩
          have hd1lt : d1 < s.nt := by rw [hd1] at hk1; exact hk1
          have hR1 : R X s1 a1 w := by rw [hs1, ha1]; exact h.put (.top _) (fun d e => by cases e; exact hd1lt)
          have hR2 : R X s2 a2 w := by
            rw [hs2, ha2]
            refine hR1.put (hR1.ev y) (fun d e => ?_)
            rw [e] at hk2
            rw [hs1]; exact hk2
          have hget : a2.tmps.getD d1 undef = hv := by
            have hlt1 : d1 < a.tmps.size := by rw [h.nt]; exact hd1lt
            have g1 : a1.tmps.getD d1 undef = hv := by
              rw [ha1]
              show (a.tmps.setIfInBounds d1 hv).getD d1 undef = hv
              simp [Array.getD, hlt1]
            rw [ha2, ← g1]
            cases hd2 : o2.dst with
            | none => rfl
            | some d2 =>
              show (a1.tmps.setIfInBounds d2 (a1.eval y)).getD d1 undef = _
              have : d2 ≠ d1 := fun e => hne (by rw [hd2, e])
              simp only [Array.getD_eq_getD_getElem?]
              rw [Array.getElem?_setIfInBounds_ne this]
          rw [← hs1, ← hs2] at hK
          obtain ⟨sz2, hz2, hl2, hOS⟩ := hO.lent
          obtain ⟨as, hK, hal, hargs⟩ := argsN_sound (nn := false) (sz := sz2) (es := es2) hR2 rfl hget c.args.toList _ hK
          obtain ⟨Qc, ⟨hcall, hspec⟩, hQ⟩ := hK sz2 hz2 hl2
          have hown : ∀ x, FF e off x → X.own x = some id := fun x hx => (f4 x).2 (.inr ⟨e, off, hes, by omega, hx⟩)
          have hbown : X.own b = some id := (f4 b).2 (.inl rfl)
          have hLMx : ∀ x, LM [AV.osl false sz2 es2] (fun _ => FF e off) x ↔ FF e off x := fun x => ⟨fun ⟨_, _, g⟩ => g, fun g => ⟨0, by simp, g⟩⟩
          unfold wpList
          rw [if_pos (by simp [Region.wanted, hg1])]
          refine .inl (wp_of_run hrun1 ?_)
          rw [hd1, ← ha1]
          unfold wpList
          rw [if_pos (by simp [Region.wanted, hg2])]
          refine .inl (wp_of_run (v := a1.eval y) (w' := w) (by simp only [execOp, ho2]; rfl) ?_)
          rw [← ha2]
          unfold wpList
          rw [if_pos (by simp [Region.wanted, hg3])]
          refine .inl ?_
          have hrun3 : (execOp a2.eval o3).run P w = .ok (.enter k (c.args.map a2.eval)) w := by
            simp only [execOp, ho3, resolve, hcl, Act.eval, Deferred.ofValue, Sem.run_bind, Sem.run_pure, Result.andThen_ok, invoke, Array.empty_append, Array.append_empty]
            exact hcall _ _
          unfold Oper.wp
          rw [hrun3]
          refine (hspec w X.Sh (c.args.map a2.eval) (fun _ => hv) (fun _ => FF e off) (by rw [Array.size_map, hal, Array.length_toList]) (fun i hi => ?_) ⟨?_, ?_⟩ ?_).mono ?_
          · have := hargs X.Sh i hi
            have e1 : (c.args.map a2.eval).getD i undef = (c.args.toList.map a2.eval).getD i undef := by rw [← arr_getD, Array.toList_map]
            rw [e1]; exact this
          · intro i q hi
            have h0 : i = 0 := by have := (List.getElem?_eq_some_iff.1 hi).1; simp at this; exact this
            subst h0
            cases hi
            exact ⟨_, _, _, rfl, hOS⟩
          · intro i j x hi hj _ _
            simp at hi hj; omega
          · intro x hx hS
            have := hown x ((hLMx x).1 hx)
            rw [hS.1] at this; cases this
          rintro ex w' ⟨v, r, ls', LF', rfl, hQr, hW, hr, hlk, hL', hO'⟩
          obtain ⟨hlen, hlk2⟩ := lkL_get hlk
          obtain ⟨es2', hes2'⟩ := hlk2 0 false sz2 es2 rfl
          have hls' : ls' = [.osl false sz2 es2'] := by
            cases ls' with
            | nil => simp at hlen
            | cons q r => cases r with
              | nil => simp at hes2'; rw [hes2']
              | cons q' r => simp at hlen
          obtain ⟨nn', sz', es', g1, g2⟩ := hL'.own 0 _ hes2'
          cases g1
          have hΦ := hQ r ls' hQr es2' hls'
          have hF' : ∀ x, LF' 0 x → FF e off x ∨ w.heap.size ≤ x := by
            intro x hx
            rcases hO' x ⟨0, by rw [hls']; simp, hx⟩ with g | g
            · exact .inl ((hLMx x).1 g)
            · exact .inr g
          have hheap : ∀ x, x < w.heap.size → ¬ FF e off x → w'.heap[x]? = w.heap[x]? := fun x hx hn => hW.heap x hx (fun g => hn ((hLMx x).1 g))
          have hblt : b < w.heap.size := (Array.getElem?_eq_some_iff.1 e2).1
          have hrowl : (es.getD e []).length = sz := hls _ (getD_mem _ _ _ hes)
          obtain ⟨es', hes'⟩ : ∃ es', es' = es.set e ((es.getD e []).set off (.sl nn0 es2')) := ⟨_, rfl⟩
          have hlen' : es'.length = es.length := by rw [hes', List.length_set]
          have hcase : ∀ i j, i < es.length → j < sz → (i = e ∧ j = off ∧ (es'.getD i []).getD j .top = .sl nn0 es2') ∨ (¬ (i = e ∧ j = off) ∧ (es'.getD i []).getD j .top = (es.getD i []).getD j .top) := by
            intro i j hi hj
            rw [hes', set_getD _ _ _ _ _ hes]
            by_cases hie : i = e
            · subst hie
              rw [if_pos rfl, set_getD _ _ _ _ _ (by omega)]
              by_cases hjo : j = off
              · subst hjo
                exact .inl ⟨rfl, rfl, by rw [if_pos rfl]⟩
              · exact .inr ⟨fun g => hjo g.2, by rw [if_neg hjo]⟩
            · exact .inr ⟨fun g => hie g.1, by rw [if_neg hie]⟩
          have hs2b : s2.blk id = s.blk id := by rw [hs2, put_blk, hs1, put_blk]
          have hs2h : s2.hp = s.hp := by
            rw [hs2, hs1]
            cases o2.dst <;> rfl
          let HH : Nat → Nat → Nat → Prop := fun i j => if i = e ∧ j = off then LF' 0 else FF i j
          have hHH : ∀ i j, HH i j = if i = e ∧ j = off then LF' 0 else FF i j := fun _ _ => rfl
          have hFlt : ∀ i j x, i < es.length → j < sz → FF i j x → x < w.heap.size := fun i j x hi hj hx => (f1 i j hi hj).lt x hx
          have hOwn : (∀ (i j : Nat) (_ : i < es'.length) (_ : j < sz), OwnV w' (cc.getD (i * sz + j) undef) ((es'.getD i []).getD j .top) (HH i j)) ∧
              (∀ (i j i' j' x : Nat) (_ : i < es'.length) (_ : j < sz) (_ : i' < es'.length) (_ : j' < sz), HH i j x → HH i' j' x → i = i' ∧ j = j') ∧
              (∀ (i j : Nat) (_ : i < es'.length) (_ : j < sz), ¬ HH i j b) ∧ ∀ (i j x : Nat) (_ : i < es'.length) (_ : j < sz), HH i j x → (∃ t, t = id ∧ X.own x = some t) ∨ w.heap.size ≤ x := by
            refine ⟨?_, ?_, ?_, ?_⟩
            · intro i j hi hj
              rw [hlen'] at hi
              rcases hcase i j hi hj with ⟨rfl, rfl, q⟩ | ⟨q1, q2⟩
              · rw [q, hHH, if_pos ⟨rfl, rfl⟩, ← hhv]
                exact g2.back hO
              · rw [q2, hHH, if_neg q1]
                refine (f1 i j hi hj).step fun x hx => hheap x (hFlt i j x hi hj hx) (fun g => q1 (f2 i j e off x hi hj hes (by omega) hx g))
            · intro i j i' j' x h1 h2 h3 h4 hx hy
              rw [hlen'] at h1 h3
              by_cases c1 : i = e ∧ j = off
              · rw [hHH, if_pos c1] at hx
                by_cases c2 : i' = e ∧ j' = off
                · exact ⟨c1.1.trans c2.1.symm, c1.2.trans c2.2.symm⟩
                · rw [hHH, if_neg c2] at hy
                  rcases hF' x hx with q | q
                  · have := f2 i' j' e off x h3 h4 hes (by omega) hy q
                    exact absurd this c2
                  · have := hFlt i' j' x h3 h4 hy; omega
              · rw [hHH, if_neg c1] at hx
                by_cases c2 : i' = e ∧ j' = off
                · rw [hHH, if_pos c2] at hy
                  rcases hF' x hy with q | q
                  · have := f2 i j e off x h1 h2 hes (by omega) hx q
                    exact absurd this c1
                  · have := hFlt i j x h1 h2 hx; omega
                · rw [hHH, if_neg c2] at hy
                  exact f2 i j i' j' x h1 h2 h3 h4 hx hy
            · intro i j h1 h2 hx
              rw [hlen'] at h1
              by_cases c1 : i = e ∧ j = off
              · rw [hHH, if_pos c1] at hx
                rcases hF' b hx with q | q
                · exact f3 e off hes (by omega) q
                · omega
              · rw [hHH, if_neg c1] at hx
                exact f3 i j h1 h2 hx
            · intro i j x h1 h2 hx
              rw [hlen'] at h1
              by_cases c1 : i = e ∧ j = off
              · rw [hHH, if_pos c1] at hx
                rcases hF' x hx with q | q
                · exact .inl ⟨id, rfl, hown x q⟩
                · exact .inr q
              · rw [hHH, if_neg c1] at hx
                exact .inl ⟨id, rfl, (f4 x).2 (.inr ⟨i, j, h1, h2, hx⟩)⟩
          obtain ⟨X', x1, x2, _, _, _⟩ := hR2.setRowG (s' := { s2 with hp := (id, .row true nn sz es') :: s.hp }) (w' := w') (T := fun i => i = id) (id := id) (b := b) (cap := X.cap id) (sz := sz) (own := true) (nn := nn) (es := es') (c := cc) (ty := ty)
            (.inr ⟨hat, rfl⟩) rfl (by show getL ABlk.none ((id, _) :: s.hp) id = _; rw [getL_cons, if_pos rfl]) (fun i hi => .inl hi)
            (fun i hi => by show getL ABlk.none ((id, _) :: s.hp) i = getL ABlk.none s2.hp i; rw [getL_cons, if_neg hi, hs2h]) rfl rfl
            (.inr ⟨by unfold AState.kds; rw [hs2b, hb]; rfl, hat, rfl⟩) hW.os hW.tape hW.output hW.size
            (fun x hx _ hxT => hheap x hx (fun g => hxT rfl id rfl (hown x g))) ((hheap b hblt (f3 e off hes (by omega))).trans e2) (.inr ⟨id, rfl, hbown⟩)
            e3 (by rw [hlen']; exact e4) (fun q => e6.1 (List.eq_nil_of_length_eq_zero (by rw [← hlen', q]; rfl))) hz (fun q hq => by
              rw [hes'] at hq
              rcases List.mem_or_eq_of_mem_set hq with hq | rfl
              · exact hls q hq
              · rw [List.length_set]; exact hrowl) HH (fun _ => hOwn) (fun g => by cases g)
          refine hnext _ _ ⟨X', _, x1, x2.put (.pure (hr.mono fun _ g => g.elim)) (fun d g => ?_), ?_⟩
          · rw [g] at hk3
            show d < s2.nt
            have : s2.nt = s.nt := by rw [hs2, hs1, put_nt, put_nt]
            rw [this]; exact hk3
          · rw [hes']; exact hΦ
        · exact hK.elim
      · exact hK.elim
    · exact hK.elim
  · exact hK.elim

/-- One operation of a region, and what follows. -/
theorem stepK_sound {P : Program} {T : Tab} (hT : TabOk P T) {ops : List Oper} {B : Base} {Q : Exit → Act → World → Prop} {Φ : AState → Prop} {o : Oper} {rest : List Oper} {X : Ctx} {s : AState} {a : Act} {w : World} (hB : X.base = B) (h : R X s a w)
    (hd : dstOk s o.dst) (hK : stepK P T ops o s Φ) (hnext : ∀ a' w', Post B Φ a' w' → wpList P ops.toArray Q rest a' w') : wpList P ops.toArray Q (o :: rest) a w := by
  have hd' : ∀ d, o.dst = some d → d < s.nt := by
    intro d e; rw [e] at hd; exact hd
  have hnext' : ∀ a' w', Post X.base Φ a' w' → wpList P ops.toArray Q rest a' w' := fun a' w' hp => hnext a' w' (by rw [← hB]; exact hp)
  have hrun : ∀ s, R X s a w → (∀ d, o.dst = some d → d < s.nt) → opK P T s o Φ → o.wp P a w (wpList P ops.toArray Q rest) Q :=
    fun s h hd' hk => Oper.wp_mono hnext' (opK_sound hT h hd' hk)
  have hskip : ∀ s, R X s a w → (∀ d, o.dst = some d → d < s.nt) → Φ (s.put o.dst (.tup [])) → wpList P ops.toArray Q rest (a.put o.dst undef) w :=
    fun s h hd' hk => hnext' _ _ (.of rfl (h.put (tup_nil_rel _ _ _) hd') hk)
  unfold stepK at hK
  unfold wpList
  split at hK
  · rename_i hg
    rw [if_pos (by simp [Region.wanted, hg])]
    exact .inl (hrun s h hd' hK)
  · rename_i j want hg
    split at hK
    · rename_i dj hj
      have hy := yielded_of (a := a) hj
      have hv := h.fr dj
      split at hK
      · rename_i g hs
        rw [hs] at hv
        rw [hv.bool_inv] at hy
        by_cases e : g = want
        · rw [if_pos (by simp [Region.wanted, hg, hy, e])]
          exact .inl (hrun _ (h.reput (by rw [hs, e])) hd' (hK.1 e))
        · rw [if_neg (by simp [Region.wanted, hg, hy, e])]
          have e' : g = !want := by cases g <;> cases want <;> simp_all
          exact hskip _ (h.reput (by rw [hs, e'])) hd' (hK.2 e')
      · rename_i hs
        rw [hs] at hv
        obtain ⟨vs, e, hl, _⟩ := hv.tup_inv
        rw [e] at hy
        rw [if_neg (by simp [Region.wanted, hg, hy])]
        exact hskip s h hd' hK
      · exact hK.elim
    · exact hK.elim

theorem regK_sound {P : Program} {T : Tab} (hT : TabOk P T) {ops : List Oper} {B : Base} {Kx : Exit → AState → Prop} : ∀ (l : List Oper) (X : Ctx) (s : AState) (a : Act) (w : World), X.base = B → R X s a w →
    regK P T ops (Kx .normal) l s → wpList P ops.toArray (fun e a w => Post B (Kx e) a w) l a w
  | [], X, s, a, w, hB, h, hK => by unfold regK at hK; exact .of hB h hK
  | [o], X, s, a, w, hB, h, hK => by
    unfold regK at hK
    exact stepK_sound hT hB h hK.1 hK.2 (by rintro a' w' ⟨X', s', h1, h2, h3⟩; exact ⟨X', s', h1, h2, h3⟩)
  | [o, o2], X, s, a, w, hB, h, hK => by
    unfold regK at hK
    exact stepK_sound hT hB h hK.1 hK.2 (by rintro a' w' ⟨X', s', h1, h2, h3⟩; exact regK_sound hT [o2] X' s' a' w' h1 h2 h3)
  | o :: o2 :: o3 :: rest, X, s, a, w, hB, h, hK => by
    unfold regK at hK
    cases hl : lendB s o o3 with
    | true =>
      simp only [hl] at hK
      exact lendK_sound hT h hK (by rintro a' w' ⟨X', s', h1, h2, h3⟩; exact regK_sound hT rest X' s' a' w' (h1.trans hB) h2 h3)
    | false =>
      simp only [hl] at hK
      exact stepK_sound hT hB h hK.1 hK.2 (by rintro a' w' ⟨X', s', h1, h2, h3⟩; exact regK_sound hT (o2 :: o3 :: rest) X' s' a' w' h1 h2 h3)

def thenK (K : AState → Prop) (Kx : Exit → AState → Prop) : Exit → AState → Prop
  | .normal, s => K s
  | e, s => Kx e s

def inBlockK (id : Nat) (Kx : Exit → AState → Prop) : Exit → AState → Prop
  | .exit id', s => if id' = id then Kx .normal s else Kx (.exit id') s
  | e, s => Kx e s

/-- A part of the code that is left open. -/
def SemL (P : Program) (B : Base) (c : Code) (s : AState) [K : Kont (Exit → AState → Prop)] : Prop := SemC P B c K.k s

/-- The abstract run of code; loops, and regions that draw their order, are left open. -/
def codeK (P : Program) (T : Tab) (B : Base) : Code → (Exit → AState → Prop) → AState → Prop
  | .skip, Kx, s => Kx .normal s
  | .region id ops draw, Kx, s => (match draw with
    | true => @SemL P B (.region id ops true) s ⟨Kx⟩
    | false => regK P T ops.toList (Kx .normal) ops.toList s)
  | .seq x y, Kx, s => codeK P T B x (thenK (codeK P T B y Kx) Kx) s
  | .cond c x y, Kx, s => (match s.ev c with
    | .bool b => bothK b true (codeK P T B x Kx s) (codeK P T B y Kx s)
    | _ => False)
  | .block id c, Kx, s => codeK P T B c (inBlockK id Kx) s
  | .exit id, Kx, s => Kx (.exit id) s
  | .ret, Kx, s => Kx .ret s
  | c, Kx, s => @SemL P B c s ⟨Kx⟩

theorem codeK_sound {P : Program} {T : Tab} (hT : TabOk P T) {B : Base} : ∀ (c : Code) (Kx : Exit → AState → Prop) (s : AState), codeK P T B c Kx s → SemC P B c Kx s
  | .skip, Kx, s, hK => fun X a w hB h => wp_skip (.of hB h hK)
  | .region id ops draw, Kx, s, hK => by
    cases draw with
    | true => exact hK
    | false =>
      intro X a w hB h
      refine wp_region_list ?_
      have := regK_sound hT (ops := ops.toList) ops.toList X s a w hB h hK
      rwa [Array.toArray_toList] at this
  | .seq x y, Kx, s, hK => by
    intro X a w hB h
    refine wp_seq (wp_mono (codeK_sound hT x _ s hK X a w hB h) ?_)
    rintro e a' w' ⟨X', s', h1, h2, h3⟩
    cases e with
    | normal => exact codeK_sound hT y Kx s' h3 X' a' w' h1 h2
    | _ => exact ⟨X', s', h1, h2, h3⟩
  | .cond c x y, Kx, s, hK => by
    intro X a w hB h
    unfold codeK at hK
    split at hK
    · rename_i b hb
      have hv := h.ev c
      rw [hb] at hv
      exact wp_cond_split hv.bool_inv (fun e => codeK_sound hT x Kx s (hK.1 e) X a w hB h) (fun e => codeK_sound hT y Kx s (hK.2 e) X a w hB h)
    · exact hK.elim
  | .block id c, Kx, s, hK => by
    intro X a w hB h
    refine wp_block (wp_mono (codeK_sound hT c _ s hK X a w hB h) ?_)
    rintro e a' w' ⟨X', s', h1, h2, h3⟩
    cases e with
    | exit id' =>
      show if id' = id then _ else _
      have h3 : if id' = id then Kx .normal s' else Kx (.exit id') s' := h3
      split
      · rename_i e; rw [if_pos e] at h3; exact ⟨X', s', h1, h2, h3⟩
      · rename_i e; rw [if_neg e] at h3; exact ⟨X', s', h1, h2, h3⟩
    | _ => exact ⟨X', s', h1, h2, h3⟩
  | .exit id, Kx, s, hK => fun X a w hB h => wp_exit (.of hB h hK)
  | .ret, Kx, s, hK => fun X a w hB h => wp_ret (.of hB h hK)
  | .loop c, Kx, s, hK => hK
  | .rangeFunc f p x y, Kx, s, hK => hK
  | .scope c, Kx, s, hK => hK
  | .label l, Kx, s, hK => hK
  | .goto l, Kx, s, hK => hK
  | .refuse y, Kx, s, hK => hK

/-- A loop: a family of states that every round leads back into, with a lesser number. -/
theorem semC_loop {P : Program} {B : Base} {c : Code} {Kx : Exit → AState → Prop} {s : AState} (J : Nat → AState → Prop) (n : Nat) (h0 : J n s)
    (hr : ∀ n s, J n s → SemC P B c (thenK (fun s => ∃ m, m < n ∧ J m s) Kx) s) : SemC P B (.loop c) Kx s := by
  intro X a w hB h
  refine wp_loop_ghost (fun n a w => Post B (J n) a w) n ⟨X, s, hB, h, h0⟩ ?_
  rintro n a w ⟨X, s, hB, h, hJ⟩
  refine wp_mono (hr n s hJ X a w hB h) ?_
  rintro e a' w' ⟨X', s', h1, h2, h3⟩
  cases e with
  | normal =>
    obtain ⟨m, hm, hJ⟩ := h3
    exact ⟨m, hm, X', s', h1, h2, hJ⟩
  | _ => exact ⟨X', s', h1, h2, h3⟩

theorem SemC.mono {P : Program} {B : Base} {c : Code} {K K' : Exit → AState → Prop} {s : AState} (h : SemC P B c K s) (hk : ∀ e s, K e s → K' e s) : SemC P B c K' s := by
  intro X a w hB hR
  refine wp_mono (h X a w hB hR) ?_
  rintro e a' w' ⟨X', s', h1, h2, h3⟩
  exact ⟨X', s', h1, h2, hk _ _ h3⟩

end Go.Proofs.Yteebkimhfaodnaa

/- Arguments: from the row's reading of them to abstract values. -/
namespace Go.Proofs.Yteebkimhfaodnaa
open Go Go.RowKit Go.ChangeShapes Go.WideShapes

/-- What a reading of a type looks like. -/
inductive Ty (T : Tab) : TypeId → List AV → Prop where
  | int {t : TypeId} {i : TI} {k : IntKind} (n : Int) (ht : T t = some i) (hk : i.k = .int k) (hw : k.has n) : Ty T t [.int k n]
  | bool {t : TypeId} {i : TI} (b : Bool) (ht : T t = some i) (hk : i.k = .bool) : Ty T t [.bool b]
  | slice {t e : TypeId} {i : TI} (nn : Bool) (es : List (List AV)) (ht : T t = some i) (hk : i.k = .slice e) (hnn : es ≠ [] → nn = true) (hb : es.length ≤ 9223372036854775807) (hes : ∀ (j : Nat) (_ : j < es.length), Ty T e (es.getD j [])) : Ty T t [.sl (some nn) es]
  | struct {t : TypeId} {i : TI} {fs : List (Nat × TypeId)} (ps : List (List AV)) (ht : T t = some i) (hk : i.k = .struct fs) (hl : ps.length = fs.length)
      (h : ∀ (j : Nat) (_ : j < fs.length), Ty T (fs.getD j (0, 0)).2 (ps.getD j [])) : Ty T t ps.flatten

def contig (T : Tab) : Nat → List (Nat × TypeId) → Nat → Bool
  | o, [], size => o == size
  | o, (o', ft) :: r, size => o' == o && (match T ft with | some i => contig T (o + i.size) r size | none => false)

def rdT (T : Tab) : Nat → TypeId → Bool
  | 0, _ => false
  | n + 1, t => match T t with
    | some i => (match i.k with
      | .int _ => i.size == 1
      | .bool => i.size == 1
      | .slice e => i.size == 1 && rdT T n e && (match T e with | some ei => decide (0 < ei.size) | none => false)
      | .struct fs => contig T 0 fs i.size && fs.all fun f => rdT T n f.2
      | _ => false)
    | none => false

theorem list_ex {α : Type} (d : α) (Q : Nat → α → Prop) : ∀ (n : Nat), (∀ i, i < n → ∃ y, Q i y) → ∃ l : List α, l.length = n ∧ ∀ i, i < n → Q i (l.getD i d)
  | 0, _ => ⟨[], rfl, by simp⟩
  | n + 1, h => by
    obtain ⟨l, hl, hq⟩ := list_ex d Q n (fun i hi => h i (by omega))
    obtain ⟨y, hy⟩ := h n (by omega)
    refine ⟨l ++ [y], by simp [hl], fun i hi => ?_⟩
    by_cases e : i = n
    · subst e
      rw [getD_append_right _ _ _ _ (by omega), hl, Nat.sub_self]
      exact hy
    · rw [getD_append_left _ _ _ _ (by omega)]
      exact hq i (by omega)

theorem cells_get {w : World} {b n : Nat} {a : Addr} {cs : List Value} (h : w.cells? b a n = some cs) : cs.length = n ∧ ∀ j, j < n → w.cell? (a.add j) = some (cs.getD j undef) := by
  unfold World.cells? at h
  split at h
  · have hl := mapM_some_length h
    have hl' : cs.length = n := by simpa using hl
    refine ⟨hl', fun j hj => ?_⟩
    have := mapM_some_get h j j (by simp [hj])
    rw [this, List.getD_eq_getElem?_getD, List.getElem?_eq_getElem (by omega)]
    rfl
  · cases h

section
variable {H : Type} {enc : TypeId × Value → H} {P : Program} {T : Tab} {w : World} {held : Bool}

theorem cellsOf_ti (hT : TabOk P T) {t : TypeId} {i : TI} (ht : T t = some i) : P.cellsOf t = i.size := by
  obtain ⟨nf, d, z, ok⟩ := hT.get ht
  simp [Program.cellsOf, ok.info, ok.size]

/-- The cells of a struct, piece by piece. -/
theorem fields_glue {S : Nat → Prop} (cs : List Value) (size : Nat) : ∀ (fs : List (Nat × TypeId)) (o : Nat), contig T o fs size = true → cs.length = size →
    (∀ f, f ∈ fs → ∃ zs i, T f.2 = some i ∧ zs.length = i.size ∧ Ty T f.2 zs ∧ ∀ j, j < zs.length → Reads w S (((cs.drop f.1).take i.size).getD j undef) (zs.getD j .top)) →
    ∃ ps : List (List AV), ps.length = fs.length ∧ (∀ (j : Nat) (_ : j < fs.length), Ty T (fs.getD j (0, 0)).2 (ps.getD j [])) ∧ o + ps.flatten.length = size ∧
      ∀ j, j < ps.flatten.length → Reads w S (cs.getD (o + j) undef) (ps.flatten.getD j .top)
  | [], o, hc, hl, _ => by
    simp only [contig, beq_iff_eq] at hc
    exact ⟨[], rfl, by simp, by simpa using hc, by simp⟩
  | f :: fs, o, hc, hl, h => by
    obtain ⟨o', ft⟩ := f
    obtain ⟨zs, i, hi, hal, hty, hr⟩ := h (o', ft) (by simp)
    simp only [contig, hi, Bool.and_eq_true, beq_iff_eq] at hc
    obtain ⟨rfl, hc⟩ := hc
    obtain ⟨ps, h1, h2, h3, h4⟩ := fields_glue cs size fs _ hc hl (fun f hf => h f (by simp [hf]))
    refine ⟨zs :: ps, by simp [h1], ?_, by simp only [List.flatten_cons, List.length_append]; omega, ?_⟩
    · intro j hj
      cases j with
      | zero => exact hty
      | succ j => exact h2 j (by simpa using hj)
    · intro j hj
      rw [List.flatten_cons] at hj ⊢
      by_cases hja : j < zs.length
      · rw [getD_append_left _ _ _ _ hja]
        have := hr j hja
        have e : ((cs.drop o').take i.size).getD j undef = cs.getD (o' + j) undef := take_drop_getD cs o' i.size j undef (by omega)
        rw [e] at this
        exact this
      · rw [getD_append_right _ _ _ _ (by omega)]
        rw [List.length_append] at hj
        have := h4 (j - zs.length) (by omega)
        rw [show o' + i.size + (j - zs.length) = o' + j by omega] at this
        exact this

theorem trod_reads (hT : TabOk P T) : ∀ (n : Nat) (t : TypeId), rdT T n t = true → ∀ (fuel : Nat) (cs : List Value) (x : DataW H × List MemPlace), DataW.trod enc P w 0 (fun _ => true) held fuel t cs = some x →
    ∃ zs i, T t = some i ∧ zs.length = i.size ∧ cs.length = i.size ∧ Ty T t zs ∧ ∀ j, j < zs.length → Reads w (fun b => b < w.heap.size) (cs.getD j undef) (zs.getD j .top)
  | 0, t, hrd, _, _, _, _ => by simp [rdT] at hrd
  | n + 1, t, hrd, fuel, cs, x, h => by
    unfold rdT at hrd
    cases hi : T t with
    | none => simp [hi] at hrd
    | some i =>
      simp only [hi] at hrd
      obtain ⟨nf, d, z, ok⟩ := hT.get hi
      have htk := ok.tk
      have hu := ok.und
      split at hrd
      · rename_i k hk
        simp only [beq_iff_eq] at hrd
        have hd : d = .int k := by rw [hk] at htk; cases d <;> simp_all [tkOk]
        rw [hd] at hu
        obtain ⟨m, rfl, _, hw⟩ := DataW.trod_int hu h
        simp only [Lit.wf, Bool.and_eq_true, decide_eq_true_eq] at hw
        refine ⟨[.int k m], i, rfl, by simp [hrd], by simp [hrd], .int m hi hk hw, fun j hj => ?_⟩
        have : j = 0 := by simp at hj; exact hj
        subst this; exact .int k m
      · rename_i hk
        simp only [beq_iff_eq] at hrd
        have hd : d = .bool := by rw [hk] at htk; cases d <;> simp_all [tkOk]
        rw [hd] at hu
        obtain ⟨b, rfl, _⟩ := DataW.trod_bool hu h
        refine ⟨[.bool b], i, rfl, by simp [hrd], by simp [hrd], .bool b hi hk, fun j hj => ?_⟩
        have : j = 0 := by simp at hj; exact hj
        subst this; exact .bool b
      · rename_i e hk
        simp only [Bool.and_eq_true, beq_iff_eq] at hrd
        obtain ⟨⟨hsz, hrde⟩, hpos⟩ := hrd
        have hd : d = .slice e := by rw [hk] at htk; cases d <;> simp_all [tkOk]
        rw [hd] at hu
        rcases DataW.trod_slice hu h with ⟨rfl, _⟩ | ⟨a, len, cap, elems, rest, m, _, rfl, _, _, hlc, hmx, hel, helm, _, _⟩
        · refine ⟨[.sl (some false) []], i, rfl, by simp [hsz], by simp [hsz], .slice false [] hi hk (by simp) (by simp) (by simp), fun j hj => ?_⟩
          have : j = 0 := by simp at hj; exact hj
          subst this; exact .nil _ (by simp)
        · cases hei : T e with
          | none => simp [hei] at hpos
          | some ei =>
            simp only [hei, decide_eq_true_eq] at hpos
            have hsze := cellsOf_ti hT hei
            have hex : ∀ r, r < len → ∃ es : List AV, Ty T e es ∧ es.length = ei.size ∧ ∃ f : Nat → Value, ∀ j, j < ei.size → w.cell? ((a.add (r * ei.size)).add j) = some (f j) ∧ Reads w (fun b => b < w.heap.size) (f j) (es.getD j .top) := by
              intro r hr
              have h1 := helm r hr
              rw [hsze] at h1
              have h2 : elems[r]? = some (elems[r]'(by omega)) := List.getElem?_eq_getElem _
              rw [h2] at h1
              cases hc : w.cells? 0 (a.add (r * ei.size)) ei.size with
              | none => rw [hc] at h1; simp at h1
              | some cs' =>
                rw [hc, Option.bind_some] at h1
                obtain ⟨hcl, hcg⟩ := cells_get hc
                obtain ⟨zs, i', hi', hal, hcl', hty, hr'⟩ := trod_reads hT n e hrde m cs' _ h1
                rw [hei] at hi'; cases hi'
                exact ⟨zs, hty, hal, fun j => cs'.getD j undef, fun j hj => ⟨hcg j hj, hr' j (by omega)⟩⟩
            obtain ⟨es, hesl, hes⟩ := list_ex [] _ len hex
            refine ⟨[.sl (some true) es], i, rfl, by simp [hsz], by simp [hsz], .slice true es hi hk (fun _ => rfl) (by have h63 := hmx; simp [maxLen] at h63; omega) (fun j hj => (hes j (by omega)).1), fun j hj => ?_⟩
            have : j = 0 := by simp at hj; exact hj
            subst this
            show Reads w _ (.slice (some a) len cap) (.sl (some true) es)
            by_cases hl0 : len = 0
            · subst hl0
              have : es = [] := List.length_eq_zero_iff.1 hesl
              subst this
              exact .empty a cap _ (by simp)
            · obtain ⟨_, _, f0, hf0⟩ := hes 0 (by omega)
              have hc0 := (hf0 0 hpos).1
              rw [show a.add (0 * ei.size) = a by simp [Addr.add]] at hc0
              have hc0' : w.cell? a = some (f0 0) := by simpa [Addr.add] using hc0
              obtain ⟨b, o, sp⟩ := a
              have hsp : sp = none := by
                unfold World.cell? at hc0'
                split at hc0'
                · split at hc0'
                  · cases hc0'
                  · rename_i hs; simpa using hs
                · cases hc0'
              subst hsp
              have hbl : b < w.heap.size := World.block_lt_of_cell? w _ hc0'
              have hall : ∀ r, ∃ f : Nat → Value, r < len → ∀ j, j < ei.size → w.cell? ⟨b, o + r * ei.size + j, none⟩ = some (f j) ∧ Reads w (fun b => b < w.heap.size) (f j) ((es.getD r []).getD j .top) := by
                intro r
                by_cases hr : r < len
                · obtain ⟨_, _, f, hf⟩ := hes r hr
                  exact ⟨f, fun _ j hj => ⟨by have := (hf j hj).1; rwa [addr_add, addr_add] at this, (hf j hj).2⟩⟩
                · exact ⟨fun _ => undef, fun h => absurd h hr⟩
              rw [← hesl]
              refine .slice b o cap ei.size (some true) es (fun r j => Classical.choose (hall r) j) (by simp) ?_ hpos (fun _ => hbl) (by omega) ?_ ?_
              · intro r hr
                obtain ⟨k, hk1, hk2⟩ := List.getElem_of_mem hr
                have := (hes k (by omega)).2.1
                rw [List.getD_eq_getElem?_getD, List.getElem?_eq_getElem hk1, hk2] at this
                exact this
              · intro r j hr hj
                exact (Classical.choose_spec (hall r) (by omega) j hj).1
              · intro r j hr hj
                exact (Classical.choose_spec (hall r) (by omega) j hj).2
      · rename_i fs hk
        simp only [Bool.and_eq_true] at hrd
        obtain ⟨hct, hall⟩ := hrd
        obtain ⟨gs, hgs⟩ : ∃ gs, d = .struct gs := by rw [hk] at htk; cases d <;> simp_all [tkOk]
        rw [hgs] at hu htk
        rw [hk] at htk
        simp only [tkOk, beq_iff_eq] at htk
        obtain ⟨xs, m, _, _, hcl, hxl, hxs⟩ := DataW.trod_struct hu h
        have hsz := cellsOf_ti hT hi
        obtain ⟨ps, h1, h2, h3, h4⟩ := fields_glue (T := T) (w := w) (S := fun b => b < w.heap.size) cs i.size fs 0 hct (by omega) (by
          intro f hf
          have hrf := List.all_eq_true.1 hall f hf
          obtain ⟨g, hg0, hfk⟩ := List.mem_map.1 (by rw [htk]; exact hf : f ∈ gs.toList.map fun f => (f.offset, f.type))
          replace hfk := hfk.symm
          obtain ⟨k, hk1, hk2⟩ := List.getElem_of_mem hg0
          rw [Array.length_toList] at hk1
          have hg : gs[k]? = some g := by rw [Array.getElem?_eq_getElem hk1, ← hk2]; simp
          have h5 := hxs k _ hg
          have h6 : xs[k]? = some (xs[k]'(by omega)) := List.getElem?_eq_getElem _
          rw [h6] at h5
          obtain ⟨zs, fi, hfi, hal, hcl', hty, hr⟩ := trod_reads hT n f.2 hrf m _ _ (by rw [hfk]; exact h5)
          have hszf := cellsOf_ti hT hfi
          rw [hfk] at hfi hty hszf ⊢
          exact ⟨zs, fi, hfi, hal, hty, fun j hj => by have := hr j hj; rwa [hszf] at this⟩)
        refine ⟨ps.flatten, i, rfl, by omega, by omega, .struct ps hi hk h1 h2, fun j hj => ?_⟩
        have := h4 j hj
        rwa [Nat.zero_add] at this
      · cases hrd

end

end Go.Proofs.Yteebkimhfaodnaa

/- A law's row out of its contract. -/
namespace Go.Proofs.Yteebkimhfaodnaa
open Go Go.RowKit Go.ChangeShapes Go.WideShapes Go.ChangeAt

/-- An argument of a type. -/
def TyArg (T : Tab) (t : TypeId) (a : AV) : Prop := ∃ zs i, T t = some i ∧ zs.length = i.size ∧ Ty T t zs ∧ ((i.agg = true ∧ a = .agg zs) ∨ (i.agg = false ∧ zs = [a]))

def TyArgs (T : Tab) : List TypeId → List AV → Prop
  | [], [] => True
  | t :: ts, a :: zs => TyArg T t a ∧ TyArgs T ts zs
  | _, _ => False

section
variable {T : Tab} {t : TypeId} {i : TI} {zs : List AV}

theorem Ty.int_inv {k : IntKind} (h : Ty T t zs) (ht : T t = some i) (hk : i.k = .int k) : ∃ n, zs = [.int k n] ∧ k.has n := by
  cases h with
  | int n ht' hk' hw => rw [ht] at ht'; cases ht'; rw [hk] at hk'; cases hk'; exact ⟨n, rfl, hw⟩
  | bool b ht' hk' => rw [ht] at ht'; cases ht'; rw [hk] at hk'; cases hk'
  | slice nn es ht' hk' => rw [ht] at ht'; cases ht'; rw [hk] at hk'; cases hk'
  | struct ps ht' hk' => rw [ht] at ht'; cases ht'; rw [hk] at hk'; cases hk'

theorem Ty.bool_inv (h : Ty T t zs) (ht : T t = some i) (hk : i.k = .bool) : ∃ b, zs = [.bool b] := by
  cases h with
  | int n ht' hk' hw => rw [ht] at ht'; cases ht'; rw [hk] at hk'; cases hk'
  | bool b ht' hk' => exact ⟨b, rfl⟩
  | slice nn es ht' hk' => rw [ht] at ht'; cases ht'; rw [hk] at hk'; cases hk'
  | struct ps ht' hk' => rw [ht] at ht'; cases ht'; rw [hk] at hk'; cases hk'

theorem Ty.slice_inv {e : TypeId} (h : Ty T t zs) (ht : T t = some i) (hk : i.k = .slice e) : ∃ nn es, zs = [.sl (some nn) es] ∧ (es ≠ [] → nn = true) ∧ es.length ≤ 9223372036854775807 ∧ ∀ (j : Nat) (_ : j < es.length), Ty T e (es.getD j []) := by
  cases h with
  | int n ht' hk' hw => rw [ht] at ht'; cases ht'; rw [hk] at hk'; cases hk'
  | bool b ht' hk' => rw [ht] at ht'; cases ht'; rw [hk] at hk'; cases hk'
  | slice nn es ht' hk' hnn hb hes => rw [ht] at ht'; cases ht'; rw [hk] at hk'; cases hk'; exact ⟨nn, es, rfl, hnn, hb, hes⟩
  | struct ps ht' hk' => rw [ht] at ht'; cases ht'; rw [hk] at hk'; cases hk'

theorem TyArg.agg_inv {a : AV} (h : TyArg T t a) (ht : T t = some i) (hg : i.agg = true) : ∃ zs, a = .agg zs ∧ Ty T t zs := by
  obtain ⟨zs, i', h1, h2, h3, h4⟩ := h
  rw [ht] at h1; cases h1
  rcases h4 with ⟨_, e⟩ | ⟨e, _⟩
  · exact ⟨zs, e, h3⟩
  · rw [hg] at e; cases e

theorem TyArg.one_inv {a : AV} (h : TyArg T t a) (ht : T t = some i) (hg : i.agg = false) : Ty T t [a] := by
  obtain ⟨zs, i', h1, h2, h3, h4⟩ := h
  rw [ht] at h1; cases h1
  rcases h4 with ⟨e, _⟩ | ⟨_, e⟩
  · rw [hg] at e; cases e
  · rw [← e]; exact h3

end

section
variable {H : Type} {enc : TypeId × Value → H} {P : Program} {T : Tab}

theorem trod_arg (hT : TabOk P T) {n : Nat} {t : TypeId} (hrd : rdT T n t = true) {W : World} {base : Nat} {v : Value} {d : DataW H} {ps : List MemPlace} (hok : Value.okWide P W .any base t v)
    (h : DataW.Trod enc P W 0 (fun _ => true) true t v d ps) : ∃ a, Reads W (fun b => b < W.heap.size) v a ∧ TyArg T t a := by
  obtain ⟨fuel, h⟩ := h
  obtain ⟨zs, i, hi, hal, hcl, hty, hr⟩ := trod_reads hT n t hrd fuel _ _ h
  obtain ⟨nf, d', z, ok⟩ := hT.get hi
  have htk := ok.tk
  have hu := ok.und
  have hone : ∀ u : Value, v = u → u.cells = #[u] → i.agg = false → i.size = 1 → ∃ a, Reads W (fun b => b < W.heap.size) v a ∧ TyArg T t a := by
    intro u e1 e2 hag hs1
    subst e1
    match zs, hal, hty, hr with
    | [a], hal, hty, hr =>
      refine ⟨a, ?_, [a], i, hi, hal, hty, .inr ⟨hag, rfl⟩⟩
      have := hr 0 (by simp)
      rw [e2] at this
      exact this
    | [], hal, _, _ => rw [hs1] at hal; simp at hal
    | _ :: _ :: _, hal, _, _ => rw [hs1] at hal; simp at hal
  have hsz : v.cells.toList.length = i.size := hcl
  unfold rdT at hrd
  cases n with
  | zero => simp at hrd
  | succ n =>
    simp only [hi] at hrd
    split at hrd
    · rename_i k hk
      have hd : d' = .int k := by rw [hk] at htk; cases d' <;> simp_all [tkOk]
      rw [hd] at hu
      obtain ⟨m, e⟩ := okWide_int hu hok
      exact hone _ e rfl (by unfold TI.agg; rw [hk]) (by simpa using hrd)
    · rename_i hk
      have hd : d' = .bool := by rw [hk] at htk; cases d' <;> simp_all [tkOk]
      rw [hd] at hu
      obtain ⟨m, e⟩ := okWide_bool hu hok
      exact hone _ e rfl (by unfold TI.agg; rw [hk]) (by simpa using hrd)
    · rename_i e hk
      have hd : d' = .slice e := by rw [hk] at htk; cases d' <;> simp_all [tkOk]
      rw [hd] at hu
      obtain ⟨a, len, cap, e⟩ := okWide_slice hu hok
      simp only [Bool.and_eq_true, beq_iff_eq] at hrd
      exact hone _ e rfl (by unfold TI.agg; rw [hk]) hrd.1.1
    · rename_i fs hk
      obtain ⟨gs, hgs⟩ : ∃ gs, d' = .struct gs := by rw [hk] at htk; cases d' <;> simp_all [tkOk]
      rw [hgs] at hu
      obtain ⟨cs, e, hcs⟩ := okWide_struct hu hok
      subst e
      have hcs' : cs.size = zs.length := by rw [hal]; rw [← hsz]; rfl
      refine ⟨.agg zs, .agg cs zs hcs' (fun j hj => ?_), zs, i, hi, hal, hty, .inl ⟨by unfold TI.agg; rw [hk], rfl⟩⟩
      have := hr j hj
      rwa [show (Value.agg cs).cells = cs from rfl, arr_getD] at this
    · cases hrd

theorem trod_args (hT : TabOk P T) {n : Nat} {W : World} {base : Nat} : ∀ (ts : List TypeId) (vs : List Value) (ds : List (DataW H)) (ps : List MemPlace), ts.all (rdT T n) = true →
    (∀ (j : Nat) t v, ts[j]? = some t → vs[j]? = some v → Value.okWide P W .any base t v) → DataW.TrodAll enc P W 0 (fun _ => true) true ts vs ds ps →
    ∃ zs : List AV, zs.length = vs.length ∧ ds.length = ts.length ∧ TyArgs T ts zs ∧ ∀ (j : Nat) (_ : j < zs.length), Reads W (fun b => b < W.heap.size) (vs.getD j undef) (zs.getD j .top)
  | [], vs, ds, ps, _, _, h => by
    cases vs <;> cases ds <;> simp [DataW.TrodAll] at h
    exact ⟨[], rfl, rfl, trivial, by simp⟩
  | t :: ts, vs, ds, ps, hrd, hok, h => by
    obtain ⟨v, vs', d, ds', p, q, rfl, rfl, rfl, h1, h2⟩ := trodAll_cons h
    rw [List.all_cons, Bool.and_eq_true] at hrd
    obtain ⟨a, ha, hta⟩ := trod_arg hT hrd.1 (hok 0 t v rfl rfl) h1
    obtain ⟨zs, g1, g2, g3, g4⟩ := trod_args hT ts vs' ds' q hrd.2 (fun j t v h1 h2 => hok (j + 1) t v (by simpa using h1) (by simpa using h2)) h2
    refine ⟨a :: zs, by simp [g1], by simp [g2], ⟨hta, g3⟩, fun j hj => ?_⟩
    cases j with
    | zero => exact ha
    | succ j => exact g4 j (by simpa using hj)

theorem trodAll_stays (hl : laidOutB P = true) {W W' : World} {sp : Nat → Bool} (hb : Below W.heap.size W W') : ∀ (ts : List TypeId) (vs : List Value) (ds : List (DataW H)) (ps : List MemPlace),
    (ts.all fun t => P.readableRec t && decide (t < P.types.size)) = true → DataW.TrodAll enc P W 0 (fun _ => true) true ts vs ds ps → (∀ p ∈ ps, p.block < W.heap.size) → (∀ p ∈ ps, sp p.block = true) →
    DataW.TrodAll enc P W' 0 sp true ts vs ds ps
  | [], vs, ds, ps, _, h, _, _ => by
    cases vs <;> cases ds <;> simp [DataW.TrodAll] at h ⊢
    exact h
  | t :: ts, vs, ds, ps, hr, h, hlt, hsp => by
    obtain ⟨v, vs', d, ds', p, q, rfl, rfl, rfl, h1, h2⟩ := trodAll_cons h
    simp only [List.all_cons, Bool.and_eq_true, decide_eq_true_eq] at hr
    refine ⟨p, q, ?_, trodAll_stays hl hb ts vs' ds' q hr.2 h2 (fun x hx => hlt x (List.mem_append.2 (.inr hx))) (fun x hx => hsp x (List.mem_append.2 (.inr hx))), rfl⟩
    exact WideElems.Trod_stays hl hr.1.1 hr.1.2 h1 (fun x hx => hb.same (hlt x (List.mem_append.2 (.inl hx)))) (fun x hx => hsp x (List.mem_append.2 (.inl hx)))

/-- 'post' where below the heap's old size nothing has turned. -/
theorem post_of_below {f : Func} {s : ChangeSpec} {apart fresh handsOn again : Bool} {W W' : World} {args : Array Value} {v : Value} {ds gs : List (DataW H)} {before pa pv : List MemPlace}
    (hW : DataW.Whole enc P f.params.toList s.vars apart W args.toList ds gs before)
    (hres : ∀ (b : Nat) (sp : Nat → Bool) (hd : Bool), DataW.TrodAll enc P W' b sp hd f.resultTypes.toList (v.resultList f.resultTypes.size) (s.fn H (ds ++ gs)).results [])
    (hargs : ∀ sp : Nat → Bool, (∀ p ∈ before, sp p.block = true) → DataW.TrodAll enc P W' 0 sp true f.params.toList args.toList (s.fn H (ds ++ gs)).args pa)
    (hvars : ∀ sp : Nat → Bool, (∀ p ∈ before, sp p.block = true) → DataW.TrodVars enc P W' sp s.vars (s.fn H (ds ++ gs)).vars pv)
    (hps : before = pa ++ pv) (hb : Below W.heap.size W W')
    (hok : ∀ (j : Nat) (t : TypeId) (r : Value), f.resultTypes[j]? = some t → (v.resultList f.resultTypes.size)[j]? = some r → Value.okWide P W' .any 0 t r) :
    s.post enc P f apart fresh handsOn again W args v W' := by
  have hlt : ∀ p ∈ before, p.block < W.heap.size := fun p hp => hW.lt p hp
  have hold : ∀ p ∈ before, (fun b => decide (b < W.heap.size)) p.block = true := fun p hp => by simpa using hlt p hp
  refine ⟨ds, gs, before, [], pa, pv, hW, hres _ _ _, hargs _ hold, hvars _ hold, World.keptBut_mono (fun p hp => ⟨hp, ?_⟩) (hb.frame (· ∈ before)), fun _ => ?_⟩
  · rw [hps, List.mem_append] at hp
    exact Or.inr hp
  · obtain ⟨_, _, _, _, _, hz, hn⟩ := hW
    refine ⟨hok, _, _, ([] ++ pa) ++ pv, ⟨[] ++ pa, pv, trodAll_append (hargs _ (fun _ _ => rfl)) (hres _ _ _), hvars _ (fun _ _ => rfl), rfl, ?_, ?_⟩, ?_⟩
    · intro b off hp
      have hin : MemPlace.cell b off ∈ before := by rw [hps]; simpa using hp
      rw [hb.frozen (hlt _ hin)]
      exact hz b off hin
    · intro ha
      have := hn ha
      rw [hps] at this
      simpa using this
    · intro p hp _
      rw [hps]
      simpa using hp

/-- A law: whatever the arguments, it returns true, and what was there reads as it did. -/
theorem law_calls (hT : TabOk P T) (hl : laidOutB P = true) (n : Nat) {k : FuncId} {f : Func} {s : ChangeSpec} {tb : TypeId} {apart fresh handsOn again : Bool} {W : World} {base : Nat} {args : Array Value} {ds gs : List (DataW H)} {before : List MemPlace}
    (hval : ∀ (j : Nat) t v, f.params[j]? = some t → args[j]? = some v → Value.okWide P W .any base t v)
    (hW : DataW.Whole enc P f.params.toList s.vars apart W args.toList ds gs before)
    (hvars : s.vars = []) (hrd : f.params.toList.all (rdT T n) = true) (hrr : (f.params.toList.all fun t => P.readableRec t && decide (t < P.types.size)) = true)
    (hres : f.resultTypes = #[tb]) (hbool : P.underlying tb = some .bool)
    (hfn : ∀ ds' : List (DataW H), ds'.length = f.params.toList.length → s.fn H ds' = { results := [.lit (.bool true)], args := ds' })
    (hlaw : ∀ zs, TyArgs T f.params.toList zs → Det P k zs (.bool true)) :
    Calls P k args W fun e W' => ∃ v, e = .returned v ∧ s.post enc P f apart fresh handsOn again W args v W' := by
  have hW' := hW
  obtain ⟨p, q, hA, hV, rfl, hfz, hnd⟩ := hW
  rw [hvars] at hV
  obtain ⟨rfl, rfl⟩ := trodVars_none hV
  obtain ⟨zs, g1, g2, g3, g4⟩ := trod_args hT (n := n) _ _ _ _ hrd (fun j t v h1 h2 => hval j t v (by simpa using h1) (by simpa using h2)) hA
  obtain ⟨_, hspec⟩ := hlaw zs g3
  refine (hspec W (fun b => b < W.heap.size) args 0 (fun _ _ => False) (by rw [g1, Array.length_toList]) (fun i hi => .inl (by have := g4 i hi; rwa [arr_getD] at this)) (fun e => by cases e) (fun x hx => by cases hx.1)).mono ?_
  rintro e W' ⟨v, r, bx', F, BF', rfl, rfl, hF, hR, -, -, -⟩
  have hv : v = .bool true := by
    cases hR with
    | part v a F h => cases h with
      | cell v a F h => cases h with
        | pure a F h hF => cases h; rfl
  subst hv
  have hb : Below W.heap.size W W' := ⟨hF.os, hF.tape, hF.output, hF.size, fun x hx => hF.heap x hx (fun e => by cases e.1)⟩
  have hfn' := hfn (ds ++ []) (by rw [List.append_nil]; exact g2)
  refine ⟨_, rfl, post_of_below (pa := p) (pv := []) hW' ?_ ?_ ?_ rfl hb ?_⟩
  · intro b sp hd
    rw [hfn', hres]
    exact trodAll_mk1 (shut_bool hbool true)
  · intro sp hsp
    rw [hfn']
    show DataW.TrodAll enc P W' 0 sp true f.params.toList args.toList (ds ++ []) p
    rw [List.append_nil]
    rw [List.append_nil] at hsp
    exact trodAll_stays hl hb _ _ _ _ hrr hA (fun x hx => hW'.lt x (by simpa using hx)) hsp
  · intro sp _
    rw [hvars, hfn']
    rfl
  · exact ok_one hres rfl (okWide_bool_mk hbool true)

end

end Go.Proofs.Yteebkimhfaodnaa

/- A state may be weakened: slots and blocks dropped, names changed, rows frozen. -/
namespace Go.Proofs.Yteebkimhfaodnaa
open Go Go.RowKit

def wk1 (ρ : List (Nat × Nat)) (a a' : AV) : Prop :=
  match a' with
  | .top => True
  | .int k n => a = .int k n
  | .bool b => a = .bool b
  | .fn f c => a = .fn f c
  | .sl nn es => a = .sl nn es ∨ ∃ b, nn = none ∧ a = .sl b es
  | .loc id' off => ∃ id, a = .loc id off ∧ (id, id') ∈ ρ
  | .elt id' i off => ∃ id, a = .elt id i off ∧ (id, id') ∈ ρ
  | .row id' n => ∃ id, a = .row id n ∧ (id, id') ∈ ρ
  | .pel cs => a = .pel cs
  | .mp P k e n D => a = .mp P k e n D
  | _ => False

def wkL (ρ : List (Nat × Nat)) : List AV → List AV → Prop
  | [], [] => True
  | a :: r, a' :: r' => wk1 ρ a a' ∧ wkL ρ r r'
  | _, _ => False

def wk2 (ρ : List (Nat × Nat)) (a a' : AV) : Prop :=
  match a, a' with
  | .agg cs, .agg cs' => wkL ρ cs cs'
  | .tup cs, .tup cs' => wkL ρ cs cs'
  | a, a' => wk1 ρ a a'

def wkB (ρ : List (Nat × Nat)) (B B' : ABlk) : Prop :=
  match B, B' with
  | .var cs, .var cs' => wkL ρ cs cs'
  | .row own nn sz es, .row own' nn' sz' es' => own' = own ∧ (nn' = nn ∨ nn' = false) ∧ sz' = sz ∧ es' = es
  | .fro sz es, .fro sz' es' => sz' = sz ∧ es' = es
  | .row _ _ sz es, .fro sz' es' => sz' = sz ∧ es' = es
  | _, _ => False

structure Weak (ρ : List (Nat × Nat)) (s t : AState) : Prop where
  bij : ∀ p q, p ∈ ρ → q ∈ ρ → (p.1 = q.1 ↔ p.2 = q.2)
  blk : ∀ p, p ∈ ρ → wkB ρ (s.blk p.1) (t.blk p.2)
  only : ∀ id, t.blk id ≠ .none → ∃ p, p ∈ ρ ∧ p.2 = id
  nine : ∀ p, p ∈ ρ → Fx p.2 → p.1 = p.2
  fr : ∀ i, wk2 ρ (s.get i) (t.get i)
  nt : t.nt = s.nt

theorem wkL_spec {ρ : List (Nat × Nat)} : ∀ {cs cs' : List AV}, wkL ρ cs cs' → cs.length = cs'.length ∧ ∀ (i : Nat) (_ : i < cs'.length), wk1 ρ (cs.getD i .top) (cs'.getD i .top)
  | [], [], _ => ⟨rfl, by simp⟩
  | a :: r, a' :: r', h => by
    obtain ⟨h1, h2⟩ := h
    obtain ⟨g1, g2⟩ := wkL_spec h2
    refine ⟨by simp [g1], fun i hi => ?_⟩
    cases i with
    | zero => exact h1
    | succ i => exact g2 i (by simpa using hi)
  | [], _ :: _, h => h.elim
  | _ :: _, [], h => h.elim

def fwd (ρ : List (Nat × Nat)) (t : AState) (id : Nat) : Option Nat :=
  match ρ.find? (fun p => p.1 == id) with
  | some p => (match t.blk p.2 with | .fro _ _ => none | _ => some p.2)
  | none => none

def bwd (ρ : List (Nat × Nat)) (id : Nat) : Nat := match ρ.find? (fun p => p.2 == id) with
  | some p => p.1
  | none => id

theorem fwd_of {ρ : List (Nat × Nat)} {s t : AState} (h : Weak ρ s t) {p : Nat × Nat} (hp : p ∈ ρ) (hf : ∀ sz es, t.blk p.2 ≠ .fro sz es) : fwd ρ t p.1 = some p.2 := by
  unfold fwd
  cases hq : ρ.find? (fun q => q.1 == p.1) with
  | none =>
    have := List.find?_eq_none.1 hq p hp
    simp at this
  | some q =>
    have h1 := List.find?_some hq
    have h2 := List.mem_of_find?_eq_some hq
    simp only [beq_iff_eq] at h1
    have e : q.2 = p.2 := (h.bij q p h2 hp).1 h1
    simp only
    split
    · rename_i sz es he
      rw [e] at he; exact absurd he (hf sz es)
    · rw [e]

theorem fwd_some {ρ : List (Nat × Nat)} {t : AState} {id id' : Nat} (h : fwd ρ t id = some id') : (id, id') ∈ ρ ∧ ∀ sz es, t.blk id' ≠ .fro sz es := by
  unfold fwd at h
  cases hq : ρ.find? (fun q => q.1 == id) with
  | none => simp [hq] at h
  | some q =>
    have h1 := List.find?_some hq
    have h2 := List.mem_of_find?_eq_some hq
    simp only [beq_iff_eq] at h1
    simp only [hq] at h
    split at h
    · cases h
    · rename_i hn
      cases h
      refine ⟨by rw [← h1]; exact h2, fun sz es e => hn sz es e⟩

theorem bwd_of {ρ : List (Nat × Nat)} {s t : AState} (h : Weak ρ s t) {p : Nat × Nat} (hp : p ∈ ρ) : bwd ρ p.2 = p.1 := by
  unfold bwd
  cases hq : ρ.find? (fun q => q.2 == p.2) with
  | none =>
    have := List.find?_eq_none.1 hq p hp
    simp at this
  | some q =>
    have h1 := List.find?_some hq
    have h2 := List.mem_of_find?_eq_some hq
    simp only [beq_iff_eq] at h1
    exact (h.bij q p h2 hp).2 h1

/-- Weakening keeps the relation. -/
theorem R.weak {X : Ctx} {s t : AState} {a : Act} {w : World} {ρ : List (Nat × Nat)} (h : R X s a w) (hw : Weak ρ s t) : ∃ X' : Ctx, X'.base = X.base ∧ R X' t a w := by
  let X' : Ctx := { base := X.base, at_ := fun id => X.at_ (bwd ρ id), cap := fun id => X.cap (bwd ρ id), own := fun x => (X.own x).bind (fwd ρ t) }
  have hSh : ∀ b, X.Sh b → X'.Sh b := by
    intro b hb
    refine ⟨?_, hb.2⟩
    show (X.own b).bind _ = none
    rw [hb.1]; rfl
  have hat : ∀ p, p ∈ ρ → X'.at_ p.2 = X.at_ p.1 ∧ X'.cap p.2 = X.cap p.1 := by
    intro p hp
    constructor
    · show X.at_ (bwd ρ p.2) = _
      rw [bwd_of hw hp]
    · show X.cap (bwd ρ p.2) = _
      rw [bwd_of hw hp]
  have hown : ∀ p, p ∈ ρ → (∀ sz es, t.blk p.2 ≠ .fro sz es) → ∀ x, X'.own x = some p.2 ↔ X.own x = some p.1 := by
    intro p hp hf x
    show (X.own x).bind (fwd ρ t) = some p.2 ↔ _
    cases hx : X.own x with
    | none => simp
    | some id =>
      rw [Option.bind_some]
      constructor
      · intro e
        have h1 := (fwd_some e).1
        have : id = p.1 := (hw.bij (id, p.2) p h1 hp).2 rfl
        rw [this]
      · intro e
        cases e
        exact fwd_of hw hp hf
  have hkd : ∀ p, p ∈ ρ → (s.kds p.1 = t.kds p.2 ∧ s.kds p.1 ≠ .dead) := by
    intro p hp
    have hb := hw.blk p hp
    unfold AState.kds
    generalize s.blk p.1 = B at hb ⊢
    generalize t.blk p.2 = B' at hb ⊢
    cases B <;> cases B' <;> simp only [wkB] at hb <;> try exact hb.elim
    · exact ⟨rfl, by simp [ABlk.kd]⟩
    · exact ⟨by simp [ABlk.kd, hb.2.2.1], by simp [ABlk.kd]⟩
    · exact ⟨by simp [ABlk.kd, hb.1], by simp [ABlk.kd]⟩
    · exact ⟨by simp [ABlk.kd, hb.1], by simp [ABlk.kd]⟩
  have hV1 : ∀ v b b', VRel X s.kds w v b → wk1 ρ b b' → VRel X' t.kds w v b' := by
    intro v b b' hv hk
    cases b' <;> simp only [wk1] at hk <;> try exact hk.elim
    case top => exact .top v
    case int k n => subst hk; rw [hv.int_inv]; exact .pure (.int _ _)
    case bool c => subst hk; rw [hv.bool_inv]; exact .pure (.bool _)
    case fn f c => subst hk; exact .pure (hv.fn_inv.mono hSh)
    case sl nn es =>
      rcases hk with e | ⟨c, rfl, e⟩
      · subst e; exact .pure (hv.sl_inv.mono hSh)
      · subst e
        have hr := hv.sl_inv.mono hSh
        generalize hb : AV.sl c es = bb at hr
        cases hr with
        | nil nn hn => cases hb; exact .pure (.nil _ (by simp))
        | empty a cap nn hn => cases hb; exact .pure (.empty _ _ _ (by simp))
        | slice b o cap sz nn es f hn hsz hz hS hcap hc hh => cases hb; exact .pure (.slice b o cap sz none es f (by simp) hsz hz hS hcap hc hh)
        | _ => cases hb
    case mp P k e n D =>
      subst hk
      obtain ⟨b, rfl, h1, h2⟩ := hv.mp_inv
      exact .pure (.mp _ _ _ _ _ b (hSh b h1) h2)
    case loc id' off =>
      obtain ⟨id, rfl, hp⟩ := hk
      obtain ⟨k1, k2⟩ := hkd (id, id') hp
      generalize hb : AV.loc id off = bb at hv
      cases hv with
      | loc i o b hk hi => cases hb; exact .loc id' off b (k1.symm.trans hk) ((hat (id, id') hp).1.trans hi)
      | locD v i o h1 hk => cases hb; exact absurd hk k2
      | pure hr => cases hb; cases hr
      | _ => cases hb
    case elt id' i off =>
      obtain ⟨id, rfl, hp⟩ := hk
      obtain ⟨k1, k2⟩ := hkd (id, id') hp
      generalize hb : AV.elt id i off = bb at hv
      cases hv with
      | elt i' j o sz b hk hi => cases hb; exact .elt id' i off sz b (k1.symm.trans hk) ((hat (id, id') hp).1.trans hi)
      | eltD v i' j o h1 hk => cases hb; exact absurd hk k2
      | pure hr => cases hb; cases hr
      | _ => cases hb
    case row id' n =>
      obtain ⟨id, rfl, hp⟩ := hk
      obtain ⟨k1, k2⟩ := hkd (id, id') hp
      generalize hb : AV.row id n = bb at hv
      cases hv with
      | row i m sz b hk hi =>
        cases hb
        rw [show X.cap id = X'.cap id' from (hat (id, id') hp).2.symm]
        exact .row id' n sz b (k1.symm.trans hk) ((hat (id, id') hp).1.trans hi)
      | rowN i sz hk hi => cases hb; exact .rowN id' sz (k1.symm.trans hk) ((hat (id, id') hp).1.trans hi)
      | rowD v i m h1 hk => cases hb; exact absurd hk k2
      | pure hr => cases hb; cases hr
      | _ => cases hb
    case pel cs =>
      subst hk
      obtain ⟨b, o, f, rfl, h1, h2, h3, h4⟩ := hv.pel_inv
      exact .pel cs b o f h1 (hSh b h2) h3 (fun j hj => (h4 j hj).mono hSh)
  have hV2 : ∀ v b b', VRel X s.kds w v b → wk2 ρ b b' → VRel X' t.kds w v b' := by
    intro v b b' hv hk
    unfold wk2 at hk
    split at hk
    · rename_i cs cs'
      obtain ⟨g1, g2⟩ := wkL_spec hk
      obtain ⟨vs, rfl, h1, h2⟩ := hv.agg_inv
      exact .agg vs cs' (h1.trans g1) (fun i hi => hV1 _ _ _ (h2 i (by omega)) (g2 i hi))
    · rename_i cs cs'
      obtain ⟨g1, g2⟩ := wkL_spec hk
      obtain ⟨vs, rfl, h1, h2⟩ := hv.tup_inv
      exact .tup vs cs' (h1.trans g1) (fun i hi => hV1 _ _ _ (h2 i (by omega)) (g2 i hi))
    · exact hV1 v b b' hv hk
  refine ⟨X', rfl, h.nt.trans hw.nt.symm, h.df, fun i => hV2 _ _ _ (h.fr i) (hw.fr i), ?_, ?_, h.os, h.tape, h.output, h.size, h.old, ?_⟩
  · intro id'
    by_cases hne : t.blk id' = .none
    · rw [hne]
      intro x hx
      have hx' : (X.own x).bind (fwd ρ t) = some id' := hx
      cases ho : X.own x with
      | none => rw [ho] at hx'; cases hx'
      | some id =>
        rw [ho, Option.bind_some] at hx'
        have hb := hw.blk _ (fwd_some hx').1
        simp only [hne] at hb
        cases hs : s.blk id <;> simp [hs, wkB] at hb
    · obtain ⟨p, hp, rfl⟩ := hw.only id' hne
      have hB := h.bl p.1
      have hb := hw.blk p hp
      obtain ⟨e1, e2⟩ := hat p hp
      have hno : ∀ sz es, t.blk p.2 = .fro sz es → ∀ x, X'.own x ≠ some p.2 := by
        intro sz es he x hx
        have hx' : (X.own x).bind (fwd ρ t) = some p.2 := hx
        cases ho : X.own x with
        | none => rw [ho] at hx'; cases hx'
        | some id =>
          rw [ho, Option.bind_some] at hx'
          exact (fwd_some hx').2 sz es he
      have hown' := hown p hp
      generalize hs : s.blk p.1 = B at hB hb
      generalize ht : t.blk p.2 = B' at hb hown' hno
      cases B <;> cases B' <;> simp only [wkB] at hb <;> try exact hb.elim
      · -- variables
        rename_i cs cs'
        obtain ⟨g1, g2⟩ := wkL_spec hb
        obtain ⟨b, c, ty, h1, h2, h3, h4, h5⟩ := hB
        exact ⟨b, c, ty, e1.trans h1, h2, fun x => (hown' (by simp) x).trans (h3 x), h4.trans g1, fun j hj => hV1 _ _ _ (h5 j (by omega)) (g2 j hj)⟩
      · -- rows
        rename_i own nn sz es own' nn' sz' es'
        obtain ⟨rfl, hnn, rfl, rfl⟩ := hb
        obtain ⟨hz, hl, hB⟩ := hB
        refine ⟨hz, hl, ?_⟩
        rcases hB with ⟨h1, h2, h3, h4⟩ | ⟨b, c, ty, h1, h2, h3, h4, h6⟩
        · refine .inl ⟨e1.trans h1, ?_, h3, fun x hx => h4 x ((hown' (by simp) x).1 hx)⟩
          rcases hnn with e | e
          · rw [e]; exact h2
          · exact e
        · refine .inr ⟨b, c, ty, e1.trans h1, h2, by rw [e2]; exact h3, by rw [e2]; exact h4, fun e => by rw [e2]; exact h6.1 e, ?_⟩
          rcases h6.2 with ⟨h7, FF, h8, h9, h10, h11⟩ | ⟨h7, h8, h9⟩
          · exact .inl ⟨h7, FF, h8, h9, h10, fun x => (hown' (by simp) x).trans (h11 x)⟩
          · exact .inr ⟨h7, fun x => (hown' (by simp) x).trans (h8 x), fun i j hi hj => (h9 i j hi hj).mono hSh⟩
      · -- a row that is frozen
        rename_i own nn sz es sz' es'
        obtain ⟨rfl, rfl⟩ := hb
        obtain ⟨hz, hl, hB⟩ := hB
        refine ⟨hz, hl, hno _ _ rfl, ?_⟩
        have hfree : ∀ x, X.own x = some p.1 → X'.Sh x := by
          intro x hx
          refine ⟨?_, ?_⟩
          · show (X.own x).bind (fwd ρ t) = none
            rw [hx, Option.bind_some]
            cases hf : fwd ρ t p.1 with
            | none => rfl
            | some id' =>
              obtain ⟨k1, k2⟩ := fwd_some hf
              have : id' = p.2 := (hw.bij (p.1, id') p k1 hp).1 rfl
              rw [this] at k2
              exact absurd ht (k2 _ _)
          · rcases (h.ow x p.1 hx).2 with e | e
            · exact .inr (.inl e)
            · exact .inr (.inr e)
        rcases hB with ⟨h1, h2, h3, h4⟩ | ⟨b, c, ty, h1, h2, h3, h4, h6⟩
        · exact .inl ⟨e1.trans h1, h3⟩
        · refine .inr ⟨b, c, ty, e1.trans h1, h2, by rw [e2]; exact h3, by rw [e2]; exact h4, ?_⟩
          rcases h6.2 with ⟨h7, FF, h8, h9, h10, h11⟩ | ⟨h7, h8, h9⟩
          · exact ⟨hfree b ((h11 b).2 (.inl rfl)), fun i j hi hj => (h8 i j hi hj).reads.mono fun x hx => hfree x ((h11 x).2 (.inr ⟨i, j, hi, hj, hx⟩))⟩
          · exact ⟨hfree b ((h8 b).2 rfl), fun i j hi hj => (h9 i j hi hj).mono hSh⟩
      · -- frozen rows
        rename_i sz es sz' es'
        obtain ⟨rfl, rfl⟩ := hb
        obtain ⟨hz, hl, ho, hB⟩ := hB
        refine ⟨hz, hl, hno _ _ rfl, ?_⟩
        rcases hB with ⟨h1, h2⟩ | ⟨b, c, ty, h1, h2, h3, h4, h6, h7⟩
        · exact .inl ⟨e1.trans h1, h2⟩
        · exact .inr ⟨b, c, ty, e1.trans h1, h2, by rw [e2]; exact h3, by rw [e2]; exact h4, hSh b h6, fun i j hi hj => (h7 i j hi hj).mono hSh⟩
  · intro x id' hx
    have hx' : (X.own x).bind (fwd ρ t) = some id' := hx
    cases ho : X.own x with
    | none => rw [ho] at hx'; cases hx'
    | some id => exact h.ow x id ho
  · intro i p hi hb
    have : bwd ρ i = i := by
      unfold bwd
      cases hq : ρ.find? (fun q => q.2 == i) with
      | none => rfl
      | some q =>
        have h1 := List.find?_some hq
        have h2 := List.mem_of_find?_eq_some hq
        simp only [beq_iff_eq] at h1
        exact (hw.nine q h2 (by rw [h1]; exact hi)).trans h1
    show X.at_ (bwd ρ i) = p.1 ∧ X.cap (bwd ρ i) = p.2
    rw [this]
    exact h.bx i p hi hb

theorem SemC.weak {P : Program} {B : Base} {c : Code} {Kx : Exit → AState → Prop} {s t : AState} (ρ : List (Nat × Nat)) (hw : Weak ρ s t) (h : SemC P B c Kx t) : SemC P B c Kx s := by
  intro X a w hB hR
  obtain ⟨X', hX, hR'⟩ := hR.weak hw
  exact h X' a w (hX.trans hB) hR'

end Go.Proofs.Yteebkimhfaodnaa

/- Loops: a family of states, to which every round comes back by weakening. -/
namespace Go.Proofs.Yteebkimhfaodnaa
open Go Go.RowKit

def frW (ρ : List (Nat × Nat)) (s : AState) : List (Nat × AV) → Prop
  | [] => True
  | p :: r => wk2 ρ (s.get p.1) p.2 ∧ frW ρ s r

def hpW (ρ : List (Nat × Nat)) (s t : AState) : List (Nat × Nat) → Prop
  | [] => True
  | p :: r => wkB ρ (s.blk p.1) (t.blk p.2) ∧ hpW ρ s t r

def rhoOk (ρ : List (Nat × Nat)) (keys : List Nat) : Bool :=
  (ρ.all fun p => ρ.all fun q => (p.1 == q.1) == (p.2 == q.2)) && (ρ.all fun p => decide (p.2 < 800) || decide (900 < p.2) || p.1 == p.2) && keys.all fun k => ρ.any fun p => p.2 == k

theorem wk2_top (ρ : List (Nat × Nat)) (a : AV) : wk2 ρ a .top := by
  cases a <;> exact trivial

theorem frW_spec {ρ : List (Nat × Nat)} {s : AState} : ∀ {l : List (Nat × AV)}, frW ρ s l → ∀ i, wk2 ρ (s.get i) (getL .top l i)
  | [], _, i => wk2_top _ _
  | p :: r, h, i => by
    rw [show (p :: r) = (p.1, p.2) :: r from rfl, getL_cons]
    split
    · rename_i e; rw [e]; exact h.1
    · exact frW_spec h.2 i

theorem hpW_spec {ρ : List (Nat × Nat)} {s t : AState} : ∀ {l : List (Nat × Nat)}, hpW ρ s t l → ∀ p, p ∈ l → wkB ρ (s.blk p.1) (t.blk p.2)
  | [], _, p, hp => by cases hp
  | q :: r, h, p, hp => by
    rcases List.mem_cons.1 hp with e | e
    · rw [e]; exact h.1
    · exact hpW_spec h.2 p e

theorem getL_none {l : List (Nat × ABlk)} {i : Nat} (h : getL .none l i ≠ .none) : i ∈ l.map Prod.fst := by
  induction l with
  | nil => exact absurd rfl h
  | cons p l ih =>
    rw [show (p :: l) = (p.1, p.2) :: l from rfl, getL_cons] at h
    split at h
    · rename_i e; rw [e]; simp
    · exact List.mem_cons_of_mem _ (ih h)

theorem Weak.of {ρ : List (Nat × Nat)} {s t : AState} (h1 : rhoOk ρ (t.hp.map Prod.fst) = true) (h2 : hpW ρ s t ρ) (h3 : frW ρ s t.fr) (h4 : t.nt = s.nt) : Weak ρ s t := by
  simp only [rhoOk, Bool.and_eq_true, List.all_eq_true, List.any_eq_true, beq_iff_eq] at h1
  obtain ⟨⟨g1, g2⟩, g3⟩ := h1
  refine ⟨fun p q hp hq => ?_, hpW_spec h2, fun id hne => ?_, fun p hp => ?_, frW_spec h3, h4⟩
  · have := g1 p hp q hq
    rw [Bool.eq_iff_iff] at this
    simpa using this
  · have := g3 id (getL_none hne)
    obtain ⟨p, hp, e⟩ := this
    exact ⟨p, hp, e⟩
  · have := g2 p hp
    simp only [Bool.or_eq_true, decide_eq_true_eq, beq_iff_eq] at this
    intro hF
    unfold Fx at hF
    rcases this with (h | h) | h
    · omega
    · omega
    · exact h

/-- A loop. 'J n t': the states at its head, at most n rounds before its end. -/
theorem semL_loop {P : Program} {T : Tab} (hT : TabOk P T) {B : Base} {c : Code} {Kx : Exit → AState → Prop} {s : AState} (J : Nat → AState → Prop) (n : Nat) (ρ : List (Nat × Nat)) (t : AState) (hw : Weak ρ s t) (h0 : J n t)
    (hr : ∀ n t, J n t → codeK P T B c (thenK (fun s' => ∃ m ρ' t', m < n ∧ Weak ρ' s' t' ∧ J m t') Kx) t) : @SemL P B (.loop c) s ⟨Kx⟩ := by
  refine semC_loop (fun n s => ∃ ρ t, Weak ρ s t ∧ J n t) n ⟨ρ, t, hw, h0⟩ ?_
  rintro n s ⟨ρ, t, hw, hJ⟩
  refine SemC.weak ρ hw ((codeK_sound hT _ _ _ (hr n t hJ)).mono ?_)
  intro e s' hK
  cases e with
  | normal =>
    obtain ⟨m, ρ', t', h1, h2, h3⟩ := hK
    exact ⟨m, h1, ρ', t', h2, h3⟩
  | _ => exact hK

end Go.Proofs.Yteebkimhfaodnaa

/- Regions that draw their order and leave the world as it is. -/
namespace Go.Proofs.Yteebkimhfaodnaa
open Go Go.RowKit

/-- What an operation gives that turns no block. -/
def stillV (T : Tab) (s : AState) (o : Oper) (K : AV → Prop) : Prop :=
  match o.op with
  | .move x => K (s.ev x)
  | .assign x => K (s.ev x)
  | .pick c a b => pick2K (s.ev c) (s.ev a) (s.ev b) K
  | .build t ps => buildK T s t ps.toList K
  | .load t a => loadK T s t (s.ev a) fun v ups => ups = [] ∧ K v
  | .binOp op t x y _ => binK T op t (s.ev x) (s.ev y) K
  | .unOp op _ x => unK op (s.ev x) K
  | .convert a b x => convertK T a b (s.ev x) K
  | .fieldAddr t x f => fieldAddrK T s t (s.ev x) f K
  | .field t x f => fieldK T t (s.ev x) f K
  | .indexAddr t x i => indexAddrK T s t (s.ev x) (s.ev i) K
  | .index t x i => indexK T t (s.ev x) (s.ev i) K
  | .extract x i => extractK (s.ev x) i K
  | .nilCheck x => nilCheckK s (s.ev x) K
  | .slice t x lo hi mx => (match mx with
    | none => sliceK T s t (s.ev x) (lo.map s.ev) (hi.map s.ev) K
    | some _ => False)
  | .call c => (match c.callee with
    | .builtin b => builtinK T s b c.argTypes (vals s c.args.toList) K
    | _ => False)
  | _ => False

def stillK (T : Tab) (s : AState) (o : Oper) (Φ : AState → Prop) : Prop := stillV T s o fun v => Φ (s.put o.dst v)

def stillStep (T : Tab) (ops : List Oper) (o : Oper) (s : AState) (Φ : AState → Prop) : Prop :=
  match o.guard with
  | none => stillK T s o Φ
  | some (j, want) => match guardAt ops j with
    | some dj => match s.get dj with
      | .bool g => bothK g want (stillK T (s.put (some dj) (.bool want)) o Φ) (Φ ((s.put (some dj) (.bool !want)).put o.dst (.tup [])))
      | .tup [] => Φ (s.put o.dst (.tup []))
      | _ => False
    | none => False

def regS (T : Tab) (ops : List Oper) (Φ : AState → Prop) : List Oper → AState → Prop
  | [], s => Φ s
  | o :: rest, s => dstOk s o.dst ∧ stillStep T ops o s fun s => regS T ops Φ rest s

/-- Some state stands in the relation, at this world. -/
def PostS (B : Base) (w : World) (K : AState → Prop) (a : Act) : Prop := Post B K a w

theorem stillK_sound {P : Program} {T : Tab} (hT : TabOk P T) {X : Ctx} {s : AState} {a : Act} {w : World} {o : Oper} {Φ : AState → Prop} (h : R X s a w) (hd : ∀ d, o.dst = some d → d < s.nt) (hK : stillK T s o Φ) :
    o.still P a w (PostS X.base w (fun t => Φ t ∧ ∃ v, t = s.put o.dst v)) := by
  unfold stillK stillV at hK
  have fin : ∀ (sem : Sem Next) (v : Value) (av : AV) (X' : Ctx), execOp a.eval o = sem → sem.run P w = .ok (.value v) w → X'.base = X.base → R X' s a w → VRel X' s.kds w v av → Φ (s.put o.dst av) → o.still P a w (PostS X.base w (fun t => Φ t ∧ ∃ v, t = s.put o.dst v)) := by
    intro sem v av X' e h1 h2 h3 h4 h5
    unfold Oper.still
    rw [e, h1]
    exact ⟨rfl, .of h2 (h3.put h4 hd) ⟨h5, _, rfl⟩⟩
  have vput : ∀ (sem : Sem Next) (K : AV → Prop), execOp a.eval o = sem → (∃ r ar, sem.run P w = .ok (.value r) w ∧ VRel X s.kds w r ar ∧ K ar) → (∀ ar, K ar → Φ (s.put o.dst ar)) → o.still P a w (PostS X.base w (fun t => Φ t ∧ ∃ v, t = s.put o.dst v)) := by
    rintro sem K e ⟨r, ar, h1, h2, h3⟩ h4
    exact fin sem r ar X e h1 rfl h h2 (h4 _ h3)
  have vrun : ∀ (sem : Sem Value) (K : AV → Prop), execOp a.eval o = (do pure (.value (← sem))) → (∃ r ar, sem.run P w = .ok r w ∧ VRel X s.kds w r ar ∧ K ar) → (∀ ar, K ar → Φ (s.put o.dst ar)) → o.still P a w (PostS X.base w (fun t => Φ t ∧ ∃ v, t = s.put o.dst v)) := by
    rintro sem K e ⟨r, ar, h1, h2, h3⟩ h4
    refine vput _ K e ⟨r, ar, ?_, h2, h3⟩ h4
    rw [Sem.run_bind, h1]; rfl
  cases ho : o.op <;> simp only [ho] at hK <;> try exact hK.elim
  case move x => exact vput (pure (.value (a.eval x))) (fun v => v = s.ev x) (by simp [execOp, ho]) ⟨_, _, rfl, h.ev x, rfl⟩ (fun _ e => e ▸ hK)
  case assign x => exact vput (pure (.value (a.eval x))) (fun v => v = s.ev x) (by simp [execOp, ho]) ⟨_, _, rfl, h.ev x, rfl⟩ (fun _ e => e ▸ hK)
  case pick c x y => exact vput (do pure (.value (if ← asBool (a.eval c) then a.eval x else a.eval y))) _ (by simp only [execOp, ho]) (pick2K_sound (h.ev c) (h.ev x) (h.ev y) hK) (fun _ e => e)
  case build t ps => exact vrun (Instr.build t (ps.map fun (i, x) => (i, a.eval x))) _ (by simp only [execOp, ho]) (buildK_sound hT h hK) (fun _ e => e)
  case load t x =>
    obtain ⟨r, ar, ups, X', h1, h2, h3, h4, rfl, h5⟩ := loadK_sound hT h (h.ev x) hK
    refine fin (do pure (.value (← Instr.loadAt t (a.eval x)))) r ar X' (by simp only [execOp, ho]) ?_ h2 h3 h4 h5
    rw [Sem.run_bind, h1]; rfl
  case nilCheck x =>
    obtain ⟨e, hK⟩ := nilCheckK_sound (h.ev x) hK
    refine fin _ (a.eval x) (s.ev x) X rfl ?_ rfl h (h.ev x) hK
    rcases e with ⟨p, e⟩ | ⟨f, c, e⟩ <;> simp only [execOp, ho, e] <;> rfl
  case binOp op t x y ty => exact vrun (do eqGuard op t x y (a.eval x) (a.eval y); binOp op t (a.eval x) (a.eval y)) _ (by simp only [execOp, ho]) (binK_sound hT (h.ev x) (h.ev y) hK) (fun _ e => e)
  case unOp op t x => exact vrun (Op.unary op (a.eval x)) _ (by simp only [execOp, ho]) (unK_sound (h.ev x) hK) (fun _ e => e)
  case convert t t' x => exact vrun (convert t t' (a.eval x)) _ (by simp only [execOp, ho]) (convertK_sound hT (h.ev x) hK) (fun _ e => e)
  case fieldAddr t x f => exact vrun (Instr.fieldAt t (a.eval x) f) _ (by simp only [execOp, ho]) (fieldAddrK_sound hT (h.ev x) hK) (fun _ e => e)
  case field t x f => exact vrun (Instr.field t (a.eval x) f) _ (by simp only [execOp, ho]) (fieldK_sound hT (h.ev x) hK) (fun _ e => e)
  case indexAddr t x i => exact vrun (Instr.indexAt t (a.eval x) (a.eval i)) _ (by simp only [execOp, ho]) (indexAddrK_sound hT (h.ev x) (h.ev i) hK) (fun _ e => e)
  case index t x i => exact vrun (Instr.index t (a.eval x) (a.eval i)) _ (by simp only [execOp, ho]) (indexK_sound hT (h.ev x) (h.ev i) hK) (fun _ e => e)
  case extract x i => exact vrun (Instr.extract (a.eval x) i) _ (by simp only [execOp, ho]) (extractK_sound (h.ev x) hK) (fun _ e => e)
  case slice t x lo hi mx =>
    cases mx with
    | some m => exact hK.elim
    | none =>
      have hK' : sliceK T s t (s.ev x) (lo.map s.ev) (hi.map s.ev) (fun v => Φ (s.put o.dst v)) := hK
      have h1 : ∀ (l : Option Operand) (v : Value), l.map a.eval = some v → ∃ b, l.map s.ev = some b ∧ VRel X s.kds w v b := by
        intro l v e
        cases l with
        | none => cases e
        | some y => cases e; exact ⟨_, rfl, h.ev y⟩
      have h2 : ∀ l : Option Operand, l.map a.eval = none → l.map s.ev = none := by
        intro l e
        cases l with
        | none => rfl
        | some y => cases e
      have hs := sliceK_sound hT h (h.ev x) (h1 lo) (h2 lo) (h1 hi) (h2 hi) hK'
      refine vrun (Instr.sliceAt t (a.eval x) (lo.map a.eval) (hi.map a.eval) none) _ ?_ hs (fun _ e => e)
      simp only [execOp, ho, Option.map_none]
  case call c =>
    cases hc : c.callee with
    | value f => simp [hc] at hK
    | invoke r n => simp [hc] at hK
    | builtin b =>
      simp only [hc] at hK
      obtain ⟨hvl, hvr⟩ := vals_rel h c.args
      refine vput (builtin b c.argTypes o.type (c.args.map fun | .const _ => true | _ => false) (c.args.map a.eval)) _ ?_ (builtinK_sound hT hvl hvr hK) (fun _ e => e)
      simp [execOp, ho, resolve, hc, invoke]
      rfl

theorem still_mono {P : Program} {o : Oper} {a : Act} {w : World} {K K' : Act → Prop} (hk : ∀ a, K a → K' a) (h : o.still P a w K) : o.still P a w K' := by
  unfold Oper.still at *
  generalize (execOp a.eval o).run P w = r at *
  cases r with
  | ok n w' =>
    cases n <;> simp only [Oper.stillUpon] at h ⊢ <;> try exact h
    · exact ⟨h.1, hk _ h.2⟩
    · exact ⟨h.1, hk _ h.2⟩
    · obtain ⟨h1, v, h2, h3⟩ := h
      exact ⟨h1, v, h2, hk _ h3⟩
  | halt x w' => simp only [Oper.stillUpon] at h

theorem regS_sound {P : Program} {T : Tab} (hT : TabOk P T) {ops : List Oper} {B : Base} {Φ : AState → Prop} {w : World} : ∀ (l : List Oper) (X : Ctx) (s : AState) (a : Act), X.base = B → R X s a w →
    regS T ops Φ l s → wpStill P ops.toArray w (PostS B w Φ) l a
  | [], X, s, a, hB, h, hK => .of hB h hK
  | o :: rest, X, s, a, hB, h, hK => by
    obtain ⟨hd, hK⟩ := hK
    have hd' : ∀ d, o.dst = some d → d < s.nt := by
      intro d e; rw [e] at hd; exact hd
    have hnext : ∀ a', PostS X.base w (fun s => regS T ops Φ rest s) a' → wpStill P ops.toArray w (PostS B w Φ) rest a' := by
      rintro a' ⟨X', s', h1, h2, h3⟩
      exact regS_sound hT rest X' s' a' (h1.trans hB) h2 h3
    have hrun : ∀ s, R X s a w → (∀ d, o.dst = some d → d < s.nt) → stillK T s o (fun s => regS T ops Φ rest s) → o.still P a w (wpStill P ops.toArray w (PostS B w Φ) rest) :=
      fun s h hd' hk => still_mono (fun a' ⟨X', s', h1, h2, h3⟩ => hnext a' ⟨X', s', h1, h2, h3.1⟩) (stillK_sound hT h hd' hk)
    have hskip : ∀ s, R X s a w → (∀ d, o.dst = some d → d < s.nt) → regS T ops Φ rest (s.put o.dst (.tup [])) → wpStill P ops.toArray w (PostS B w Φ) rest (a.put o.dst undef) :=
      fun s h hd' hk => hnext _ (.of rfl (h.put (tup_nil_rel _ _ _) hd') hk)
    unfold stillStep at hK
    unfold wpStill
    split at hK
    · rename_i hg
      rw [if_pos (by simp [Region.wanted, hg])]
      exact hrun s h hd' hK
    · rename_i j want hg
      split at hK
      · rename_i dj hj
        have hy := yielded_of (a := a) hj
        have hv := h.fr dj
        split at hK
        · rename_i g hs
          rw [hs] at hv
          rw [hv.bool_inv] at hy
          by_cases e : g = want
          · rw [if_pos (by simp [Region.wanted, hg, hy, e])]
            exact hrun _ (h.reput (by rw [hs, e])) hd' (hK.1 e)
          · rw [if_neg (by simp [Region.wanted, hg, hy, e])]
            have e' : g = !want := by cases g <;> cases want <;> simp_all
            exact hskip _ (h.reput (by rw [hs, e'])) hd' (hK.2 e')
        · rename_i hs
          rw [hs] at hv
          obtain ⟨vs, e, hl, _⟩ := hv.tup_inv
          rw [e] at hy
          rw [if_neg (by simp [Region.wanted, hg, hy])]
          exact hskip s h hd' hK
        · exact hK.elim
      · exact hK.elim

theorem R.drawn {X : Ctx} {s : AState} {a : Act} {w : World} (h : R X s a w) : R X s a { w with drawn := w.drawn + 1 } := by
  have hn : ∀ id, NameOk X X s.kds s.kds id := by
    intro id
    by_cases e : s.kds id = .dead
    · exact .inr (.inl e)
    · exact .inr (.inr ⟨e, rfl, rfl, rfl⟩)
  refine ⟨h.nt, h.df, fun i => VRel.step (w := w) (w' := { w with drawn := w.drawn + 1 }) hn (fun b hb _ => ⟨rfl, hb⟩) (h.fr i), fun id => BRel.step (w := w) (w' := { w with drawn := w.drawn + 1 }) hn (fun b hb _ => ⟨rfl, hb⟩) rfl rfl (fun _ => Iff.rfl) (fun _ _ => rfl) (h.bl id), h.ow, h.os, h.tape, h.output, h.size, h.old, h.bx⟩

/-- A region that draws its order, none of whose operations turns a block. -/
theorem semL_still {P : Program} {T : Tab} (hT : TabOk P T) {B : Base} {Kx : Exit → AState → Prop} {s : AState} {id : Nat} {ops : Array Oper} (hm : P.follows .mixedOrders = true) (hB : Region.lexB .any ops = true)
    (h : regS T ops.toList (Kx .normal) ops.toList s) : @SemL P B (.region id ops true) s ⟨Kx⟩ := by
  intro X a w hXB hR
  refine wp_region_still hm hB ?_
  have := regS_sound (P := P) hT (ops := ops.toList) ops.toList X s a hXB hR.drawn h
  rw [Array.toArray_toList] at this
  exact this

end Go.Proofs.Yteebkimhfaodnaa

/- Operations that turn no block: each gives one value, and it hangs on its operands and the blocks alone. -/
namespace Go.Proofs.Yteebkimhfaodnaa
open Go Go.RowKit

def stillB (o : Oper) : Bool :=
  match o.op with
  | .move _ => true
  | .assign _ => true
  | .pick _ _ _ => true
  | .build _ _ => true
  | .load _ _ => true
  | .binOp _ _ _ _ _ => true
  | .unOp _ _ _ => true
  | .convert _ _ _ => true
  | .fieldAddr _ _ _ => true
  | .field _ _ _ => true
  | .indexAddr _ _ _ => true
  | .index _ _ _ => true
  | .extract _ _ => true
  | .nilCheck _ => true
  | .slice _ _ _ _ _ => true
  | .call c => (match c.callee with
    | .builtin .append => false
    | .builtin _ => true
    | _ => false)
  | _ => false

section fn
variable {T : Tab} {s : AState} {K : AV → Prop}

theorem intK_fun {op : BinOp} {k k' : IntKind} {a b : Int} (h : intK op k k' a b K) : ∃ v, K v ∧ intK op k k' a b (fun u => u = v) := by
  unfold intK at *
  cases op <;> simp only at h ⊢ <;> first | exact ⟨_, h.2.2, h.1, h.2.1, rfl⟩ | exact ⟨_, h.2, h.1, rfl⟩

theorem eqCellsK_fun : ∀ (xs ys : List AV) (acc : Bool) (K : Bool → Prop), eqCellsK xs ys acc K → ∃ v, K v ∧ eqCellsK xs ys acc (fun u => u = v)
  | [], [], acc, K, h => ⟨acc, h, rfl⟩
  | .int k a :: xs, .int k' b :: ys, acc, K, h => by
    obtain ⟨h1, h2⟩ := h
    obtain ⟨v, h3, h4⟩ := eqCellsK_fun xs ys _ K h2
    exact ⟨v, h3, h1, h4⟩
  | [], _ :: _, _, _, h => by simp [eqCellsK] at h
  | _ :: _, [], _, _, h => by simp [eqCellsK] at h
  | x :: xs, y :: ys, acc, K, h => by
    cases x <;> cases y <;> simp only [eqCellsK] at h ⊢ <;> try exact h.elim
    obtain ⟨h1, h2⟩ := h
    obtain ⟨v, h3, h4⟩ := eqCellsK_fun xs ys _ K h2
    exact ⟨v, h3, h1, h4⟩

theorem eqCellsK_mono : ∀ (xs ys : List AV) (acc : Bool) (K K' : Bool → Prop), (∀ b, K b → K' b) → eqCellsK xs ys acc K → eqCellsK xs ys acc K'
  | [], [], _, _, _, hk, h => hk _ h
  | [], _ :: _, _, _, _, _, h => by simp [eqCellsK] at h
  | _ :: _, [], _, _, _, _, h => by simp [eqCellsK] at h
  | x :: xs, y :: ys, acc, K, K', hk, h => by
    cases x <;> cases y <;> simp only [eqCellsK] at h ⊢ <;> try exact h.elim
    exact ⟨h.1, eqCellsK_mono xs ys _ K K' hk h.2⟩

theorem binK_fun {op : BinOp} {t : TypeId} {x y : AV} (h : binK T op t x y K) : ∃ v, K v ∧ binK T op t x y (fun u => u = v) := by
  unfold binK at *
  split at h
  · exact intK_fun h
  · obtain ⟨h1, h2⟩ := h
    cases op <;> simp only at h2 ⊢ <;> first | exact h2.elim | exact ⟨_, h2, h1, rfl⟩
  · obtain ⟨h1, h2⟩ := h
    cases op <;> simp only at h2 ⊢ <;> first | exact h2.elim | exact ⟨_, h2, h1, rfl⟩
  · obtain ⟨h1, h3, h2⟩ := h
    cases op <;> simp only at h2 ⊢ <;> first | exact h2.elim | skip
    · obtain ⟨v, h4, h5⟩ := eqCellsK_fun _ _ _ _ h2
      exact ⟨_, h4, h1, h3, eqCellsK_mono _ _ _ _ _ (fun b e => by rw [e]) h5⟩
    · obtain ⟨v, h4, h5⟩ := eqCellsK_fun _ _ _ _ h2
      exact ⟨_, h4, h1, h3, eqCellsK_mono _ _ _ _ _ (fun b e => by rw [e]) h5⟩
  · exact h.elim

theorem unK_fun {op : UnOp} {x : AV} (h : unK op x K) : ∃ v, K v ∧ unK op x (fun u => u = v) := by
  unfold unK at *
  split at h
  · exact ⟨_, h, rfl⟩
  · exact ⟨_, h, rfl⟩
  · exact h.elim

theorem unMay_fun {c : Bool} {x : AV} (h : unMay c x K) : ∃ v, K v ∧ ∀ K' : AV → Prop, K' v → unMay c x K' := by
  cases x <;> first | exact ⟨_, h.2, fun K' h' => ⟨h.1, h'⟩⟩ | exact ⟨_, h, fun K' h' => h'⟩

theorem pickK_fun {c x y : AV} (h : pickK c x y K) : ∃ v, K v ∧ pickK c x y (fun u => u = v) := by
  unfold pickK at *
  split at h
  · obtain ⟨u, h1, h2⟩ := unMay_fun h
    obtain ⟨u', h3, h4⟩ := unMay_fun h1
    unfold pickW at h3
    split at h3
    · exact ⟨_, h3, h2 _ (h4 _ rfl)⟩
    · exact ⟨_, h3.2, h2 _ (h4 _ ⟨h3.1, rfl⟩)⟩
    · exact h3.elim
  · exact h.elim

theorem pick2K_fun {c x y : AV} (h : pick2K c x y K) : ∃ v, K v ∧ pick2K c x y (fun u => u = v) := by
  unfold pick2K at *
  split at h
  · exact pickK_fun h
  · split at h
    · rename_i c
      cases c with
      | true => exact ⟨x, h.1 rfl, fun _ => rfl, fun e => by cases e⟩
      | false => exact ⟨y, h.2 rfl, (fun e => by cases e), fun _ => rfl⟩
    · exact h.elim

theorem buildL_fun {t : TypeId} : ∀ (ps : List (Nat × Operand)) (cs : List AV) (K : List AV → Prop), buildL T s t cs ps K → ∃ v, K v ∧ ∀ K' : List AV → Prop, K' v → buildL T s t cs ps K'
  | [], cs, K, h => ⟨cs, h, fun _ h' => h'⟩
  | (f, x) :: r, cs, K, h => by
    unfold buildL at h
    split at h
    · rename_i o sz vs e1 e2
      obtain ⟨h1, h2, h3⟩ := h
      obtain ⟨v, h4, h5⟩ := buildL_fun r _ K h3
      refine ⟨v, h4, fun K' h' => ?_⟩
      unfold buildL
      simp only [e1, e2]
      exact ⟨h1, h2, h5 _ h'⟩
    · exact h.elim

theorem buildK_fun {t : TypeId} {ps : List (Nat × Operand)} (h : buildK T s t ps K) : ∃ v, K v ∧ buildK T s t ps (fun u => u = v) := by
  unfold buildK at *
  split at h
  · split at h
    · obtain ⟨v, h1, h2⟩ := buildL_fun _ _ _ h
      exact ⟨_, h1, h2 _ rfl⟩
    · exact h.elim
  · exact h.elim

theorem cellsK_fun {flat : Bool} {size : Nat} {x : AV} {K : List AV → List (Nat × ABlk) → Prop} (h : cellsK s flat size x K) : ∃ v u, K v u ∧ ∀ K' : List AV → List (Nat × ABlk) → Prop, K' v u → cellsK s flat size x K' := by
  unfold cellsK at h
  split at h
  · split at h
    · rename_i cs hb
      exact ⟨_, _, h.2, fun K' h' => by unfold cellsK; simp only [hb]; exact ⟨h.1, h'⟩⟩
    · exact h.elim
  · split at h
    · rename_i nn sz es hb
      obtain ⟨h1, h2, h3⟩ := h
      split at h3
      · rename_i hf
        exact ⟨_, _, h3.2, fun K' h' => by unfold cellsK; simp only [hb]; rw [if_pos hf]; exact ⟨h1, h2, h3.1, h'⟩⟩
      · rename_i hf
        exact ⟨_, _, h3, fun K' h' => by unfold cellsK; simp only [hb]; rw [if_neg hf]; exact ⟨h1, h2, h'⟩⟩
    · rename_i nn sz es hb
      exact ⟨_, _, h.2.2, fun K' h' => by unfold cellsK; simp only [hb]; exact ⟨h.1, h.2.1, h'⟩⟩
    · rename_i sz es hb
      exact ⟨_, _, h.2.2, fun K' h' => by unfold cellsK; simp only [hb]; exact ⟨h.1, h.2.1, h'⟩⟩
    · rename_i hb
      exact ⟨_, _, h.2, fun K' h' => by unfold cellsK; simp only [hb]; exact ⟨h.1, h'⟩⟩
    · exact h.elim
  · exact ⟨_, _, h.2, fun K' h' => by unfold cellsK; exact ⟨h.1, h'⟩⟩
  · exact h.elim

theorem loadK_fun {t : TypeId} {x : AV} {K : AV → List (Nat × ABlk) → Prop} (h : loadK T s t x K) : ∃ v u, K v u ∧ ∀ K' : AV → List (Nat × ABlk) → Prop, K' v u → loadK T s t x K' := by
  unfold loadK at h
  split at h
  · rename_i size flat hs
    obtain ⟨v, u, h1, h2⟩ := cellsK_fun h
    exact ⟨_, _, h1, fun K' h' => by unfold loadK; simp only [hs]; exact h2 _ h'⟩
  · rename_i size flat hs
    obtain ⟨v, u, h1, h2⟩ := cellsK_fun h.2
    exact ⟨_, _, h1, fun K' h' => by unfold loadK; simp only [hs]; exact ⟨h.1, h2 _ h'⟩⟩
  · exact h.elim

theorem convertK_fun {t t' : TypeId} {x : AV} (h : convertK T t t' x K) : ∃ v, K v ∧ convertK T t t' x (fun u => u = v) := by
  unfold convertK at *
  split at h
  · exact ⟨_, h, rfl⟩
  · exact h.elim

theorem fieldAddrK_fun {t : TypeId} {x : AV} {f : Nat} (h : fieldAddrK T s t x f K) : ∃ v, K v ∧ fieldAddrK T s t x f (fun u => u = v) := by
  unfold fieldAddrK at *
  split at h
  · obtain ⟨h0, h⟩ := h
    split at h
    · exact ⟨_, h.2, h0, h.1, rfl⟩
    · exact ⟨_, h.2, h0, h.1, rfl⟩
    · exact ⟨_, h.2, h0, h.1, rfl⟩
    · exact h.elim
  · exact h.elim

theorem indexAddrK_fun {t : TypeId} {x y : AV} (h : indexAddrK T s t x y K) : ∃ v, K v ∧ indexAddrK T s t x y (fun u => u = v) := by
  unfold indexAddrK at *
  split at h
  · split at h
    · exact ⟨_, h.2.2, h.1, h.2.1, rfl⟩
    · exact ⟨_, h.2.2, h.1, h.2.1, rfl⟩
    · obtain ⟨h1, h⟩ := h
      split at h
      · exact ⟨_, h.2, h1, h.1, rfl⟩
      · exact h.elim
    · exact h.elim
  · exact h.elim

theorem fieldK_fun {t : TypeId} {x : AV} {f : Nat} (h : fieldK T t x f K) : ∃ v, K v ∧ fieldK T t x f (fun u => u = v) := by
  unfold fieldK at *
  split at h
  · split at h
    · split at h
      · split at h
        · split at h
          · exact ⟨_, h.2, h.1, rfl⟩
          · exact ⟨_, h.2, h.1, rfl⟩
          · exact h.elim
        · exact h.elim
      · exact h.elim
    · exact h.elim
  · exact h.elim

theorem indexK_fun {t : TypeId} {x y : AV} (h : indexK T t x y K) : ∃ v, K v ∧ indexK T t x y (fun u => u = v) := by
  unfold indexK at *
  split at h
  · split at h
    · exact ⟨_, h.2.2, h.1, h.2.1, rfl⟩
    · exact ⟨_, h.2.2, h.1, h.2.1, rfl⟩
    · exact h.elim
  · exact h.elim

theorem extractK_fun {x : AV} {i : Nat} (h : extractK x i K) : ∃ v, K v ∧ extractK x i (fun u => u = v) := by
  unfold extractK at *
  split at h
  · exact ⟨_, h.2, h.1, rfl⟩
  · exact h.elim

theorem nilCheckK_fun {x : AV} (h : nilCheckK s x K) : ∃ v, K v ∧ nilCheckK s x (fun u => u = v) := by
  unfold nilCheckK at *
  split at h
  · exact ⟨_, h.2, h.1, rfl⟩
  · exact ⟨_, h.2, h.1, rfl⟩
  · exact ⟨_, h, rfl⟩
  · exact ⟨_, h, rfl⟩
  · exact h.elim

theorem lenK_fun {t : TypeId} {x : AV} (h : lenK T s t x K) : ∃ v, K v ∧ lenK T s t x (fun u => u = v) := by
  unfold lenK at *
  split at h
  · exact ⟨_, h.2, h.1, rfl⟩
  · exact ⟨_, h.2.2, h.1, h.2.1, rfl⟩
  · split at h
    · exact ⟨_, h, rfl⟩
    · exact h.elim

theorem maxK_fun : ∀ (xs : List AV) (x : AV) (K : AV → Prop), maxK x xs K → ∃ v, K v ∧ maxK x xs (fun u => u = v)
  | [], x, K, h => ⟨x, h, rfl⟩
  | y :: r, x, K, h => by
    cases x <;> cases y <;> simp only [maxK] at h ⊢ <;> try exact h.elim
    obtain ⟨v, h1, h2⟩ := maxK_fun r _ K h.2
    exact ⟨v, h1, h.1, h2⟩

theorem minK_fun : ∀ (xs : List AV) (x : AV) (K : AV → Prop), minK x xs K → ∃ v, K v ∧ minK x xs (fun u => u = v)
  | [], x, K, h => ⟨x, h, rfl⟩
  | y :: r, x, K, h => by
    cases x <;> cases y <;> simp only [minK] at h ⊢ <;> try exact h.elim
    obtain ⟨v, h1, h2⟩ := minK_fun r _ K h.2
    exact ⟨v, h1, h.1, h2⟩

theorem builtinK_fun {b : Builtin} {tys : Array TypeId} {xs : List AV} (h : builtinK T s b tys xs K) : ∃ v, K v ∧ builtinK T s b tys xs (fun u => u = v) := by
  unfold builtinK at *
  split at h
  · exact lenK_fun h
  · exact maxK_fun _ _ _ h
  · exact minK_fun _ _ _ h
  · exact h.elim

theorem sliceK_fun {t : TypeId} {x : AV} {lo hi : Option AV} (h : sliceK T s t x lo hi K) : ∃ v, K v ∧ sliceK T s t x lo hi (fun u => u = v) := by
  unfold sliceK at *
  split at h
  · split at h
    · exact ⟨_, h.2.2, h.1, h.2.1, rfl⟩
    · exact h.elim
  · split at h
    · exact ⟨_, h.2.2, h.1, h.2.1, rfl⟩
    · exact h.elim
  · exact h.elim

theorem stillV_fun {o : Oper} (h : stillV T s o K) : ∃ v, K v ∧ stillV T s o (fun u => u = v) := by
  unfold stillV at *
  split at h
  · exact ⟨_, h, rfl⟩
  · exact ⟨_, h, rfl⟩
  · exact pick2K_fun h
  · exact buildK_fun h
  · obtain ⟨v, u, h1, h2⟩ := loadK_fun h
    exact ⟨v, h1.2, h2 _ ⟨h1.1, rfl⟩⟩
  · exact binK_fun h
  · exact unK_fun h
  · exact convertK_fun h
  · exact fieldAddrK_fun h
  · exact fieldK_fun h
  · exact indexAddrK_fun h
  · exact indexK_fun h
  · exact extractK_fun h
  · exact nilCheckK_fun h
  · split at h
    · exact sliceK_fun h
    · exact h.elim
  · split at h
    · exact builtinK_fun h
    · exact h.elim
  · exact h.elim

end fn

section congr
variable {T : Tab} {s t : AState} {K : AV → Prop}

theorem buildL_congr {ty : TypeId} : ∀ (ps : List (Nat × Operand)) (cs : List AV) (K : List AV → Prop), (∀ p ∈ ps, t.ev p.2 = s.ev p.2) → buildL T t ty cs ps K = buildL T s ty cs ps K
  | [], _, _, _ => rfl
  | (f, x) :: r, cs, K, h => by
    unfold buildL
    have e : t.ev x = s.ev x := h (f, x) (by simp)
    rw [e]
    cases fieldOff T ty f with
    | none => rfl
    | some q =>
      cases partCells (s.ev x) with
      | none => rfl
      | some vs => simp only; rw [buildL_congr (ty := ty) r (setCells cs q.1 vs) K (fun p hp => h p (by simp [hp]))]

theorem stillV_congr {o : Oper} (hp : t.hp = s.hp) (h : ∀ x ∈ o.op.operands, t.ev x = s.ev x) : stillV T t o K = stillV T s o K := by
  have hb : t.blk = s.blk := by funext i; unfold AState.blk; rw [hp]
  obtain ⟨dst, op, type, pos, after, guard⟩ := o
  unfold stillV
  cases op <;> simp only [Op.operands] at h <;> simp only
  case move x => rw [h x (by simp)]
  case assign x => rw [h x (by simp)]
  case pick c a b => rw [h c (by simp), h a (by simp), h b (by simp)]
  case build ty ps =>
    unfold buildK
    split
    · split
      · exact buildL_congr _ _ _ (fun p hp' => h p.2 (by simp; exact ⟨p.1, by simpa using hp'⟩))
      · rfl
    · rfl
  case load ty x => rw [h x (by simp)]; unfold loadK cellsK; rw [hb]
  case binOp op ty x y _ => rw [h x (by simp), h y (by simp)]
  case unOp op ty x => rw [h x (by simp)]
  case convert a b x => rw [h x (by simp)]
  case fieldAddr ty x f => rw [h x (by simp)]; unfold fieldAddrK; rw [hb]
  case field ty x f => rw [h x (by simp)]
  case indexAddr ty x y => rw [h x (by simp), h y (by simp)]; unfold indexAddrK; rw [hb]
  case index ty x y => rw [h x (by simp), h y (by simp)]
  case extract x i => rw [h x (by simp)]
  case nilCheck x => rw [h x (by simp)]; unfold nilCheckK; rw [hb]
  case slice ty x lo hi mx =>
    cases mx with
    | some m => rfl
    | none =>
      have e1 : lo.map t.ev = lo.map s.ev := by
        cases lo with
        | none => rfl
        | some y => simp only [Option.map_some]; rw [h y (by simp)]
      have e2 : hi.map t.ev = hi.map s.ev := by
        cases hi with
        | none => rfl
        | some y => simp only [Option.map_some]; rw [h y (by simp)]
      simp only
      rw [h x (by simp), e1, e2]
      unfold sliceK
      rw [hb]
  case call c =>
    cases hc : c.callee <;> simp only
    have e : vals t c.args.toList = vals s c.args.toList := by
      unfold vals
      exact List.map_congr_left (fun x hx => h x (by simpa [Call.operands, hc] using hx))
    rw [e]
    unfold builtinK lenK
    rw [hb]

end congr

end Go.Proofs.Yteebkimhfaodnaa

/- Operations that make a block and may be done at any time: alloc, an empty slice literal, make. -/
namespace Go.Proofs.Yteebkimhfaodnaa
open Go Go.RowKit

def makeOk (T : Tab) (t : TypeId) (n m : Int) : Prop := match elemInfo T t with
  | some ei => m = n ∧ 0 < ei.size ∧ (0 ≤ n ∧ n ≤ 9223372036854775807) ∧ ei.bytes * n.toNat ≤ 281474976710656
  | none => False

def makeOkB (T : Tab) (t : TypeId) (n m : Int) : Bool := match elemInfo T t with
  | some ei => m == n && decide (0 < ei.size) && decide (0 ≤ n) && decide (n ≤ 9223372036854775807) && decide (ei.bytes * n.toNat ≤ 281474976710656)
  | none => false

def intPair : AV → AV → Option (Int × Int)
  | .int _ n, .int _ m => some (n, m)
  | _, _ => none

/-- What must hold for an operation of this kind to be done now. -/
def floK (T : Tab) (s : AState) (o : Oper) : Prop := match o.op with
  | .makeSlice t x y => (match intPair (s.ev x) (s.ev y) with
    | some (n, m) => makeOk T t n m
    | none => False)
  | _ => True

def constInt : Operand → Option Int
  | .const (.int _ n) => some n
  | _ => none

def isTmp : Operand → Bool
  | .tmp _ => true
  | _ => false

def statB (T : Tab) (o : Oper) : Bool := match o.op with
  | .alloc t => (T t).isSome
  | .buildSlice t len ps => len == 0 && ps.size == 0 && (elemSize T t).isSome
  | .makeSlice t x y => (match constInt x, constInt y with
    | some n, some m => makeOkB T t n m
    | _, _ => false)
  | _ => false

def dynB (o : Oper) : Bool := match o.op with
  | .makeSlice _ x y => isTmp x && isTmp y
  | _ => false

def floatB (T : Tab) (o : Oper) : Bool := o.guard.isNone && (statB T o || dynB o)

inductive FKind where
  | ptr (c : Array Value) (t : TypeId)
  | row (c : Array Value) (t : TypeId) (n : Nat)

def FKind.mk : FKind → Nat → Value
  | .ptr _ _, b => .pointer (some ⟨b, 0, none⟩)
  | .row _ _ n, b => .slice (some ⟨b, 0, none⟩) n n

def FKind.blk : FKind → Obj
  | .ptr c t => .cells c t
  | .row c t _ => .cells c t

def FRun (P : Program) (o : Oper) (k : FKind) (a : Act) : Prop := ∀ w, (execOp a.eval o).run P w = .ok (.value (k.mk w.heap.size)) (w.alloc k.blk)

theorem FRun.same {P : Program} {o : Oper} {k k' : FKind} {a : Act} (w : World) (h : FRun P o k a) (h' : FRun P o k' a) : k = k' := by
  have e := (h w).symm.trans (h' w)
  simp only [Result.ok.injEq, Next.value.injEq] at e
  obtain ⟨e1, e2⟩ := e
  have e3 : k.blk = k'.blk := by
    have h1 : (w.alloc k.blk).heap[w.heap.size]? = (w.alloc k'.blk).heap[w.heap.size]? := by rw [e2]
    rw [heap_alloc_new, heap_alloc_new] at h1
    exact Option.some.inj h1
  cases k <;> cases k' <;> simp_all [FKind.mk, FKind.blk]

section
variable {P : Program} {T : Tab}

theorem alloc_run (hT : TabOk P T) {t : TypeId} {i : TI} (hi : T t = some i) : ∃ z : Value, (∀ w, (Instr.alloc t true (.tuple #[])).run P w = .ok (.pointer (some ⟨w.heap.size, 0, none⟩)) (w.alloc (.cells z.cells t))) ∧ zCells z.cells.toList i.zc = true := by
  obtain ⟨nf, dd, z, ok⟩ := hT.get hi
  refine ⟨z, fun w => ?_, ok.zc⟩
  simp only [Instr.alloc, Sem.run_bind, ok.run_zero, Result.andThen_ok, newVar, newRow, run_newObj, Sem.run_pure]
  rfl

theorem empty_run (hT : TabOk P T) {t : TypeId} {sz : Nat} (he : elemSize T t = some sz) : ∃ e : TypeId, ∀ w, (Instr.buildSlice t 0 #[]).run P w = .ok (.slice (some ⟨w.heap.size, 0, none⟩) 0 0) (w.alloc (.cells #[] e)) := by
  obtain ⟨e, ei, nf, dd, z, hu, hTe, hsz, ok⟩ := elemSize_und hT he
  refine ⟨e, fun w => ?_⟩
  have e0 : (Array.map (fun _ => (default : Value)) (Array.range 0)) = #[] := by apply Array.ext <;> simp
  simp [Instr.buildSlice, run_underlying hu, ok.run_size, Instr.fill, newRow, run_newObj, e0]

theorem made_run (hT : TabOk P T) {t : TypeId} {n m : Int} (h : makeOk T t n m) : ∃ (ei : TI) (z : Value) (e : TypeId) (k1 : Nat), elemInfo T t = some ei ∧ k1 = ei.size ∧ zCells z.cells.toList ei.zc = true ∧ z.cells.size = ei.size ∧ 0 < ei.size ∧
    ∀ (ka kb : IntKind) w, (Instr.makeSlice t (.int ka n) (.int kb m)).run P w = .ok (.slice (some ⟨w.heap.size, 0, none⟩) n.toNat n.toNat) (w.alloc (.cells (madeCells z.cells (n.toNat * ei.size)) e)) := by
  unfold makeOk at h
  split at h
  · rename_i ei he
    obtain ⟨rfl, hz, ⟨h0, h63⟩, hby⟩ := h
    obtain ⟨e, nf, dd, z, hue, ok⟩ := elemInfo_und hT he
    have hbi : (nf.bytes : Int) * m ≤ 281474976710656 := by
      have e1 : ((nf.bytes * m.toNat : Nat) : Int) ≤ 281474976710656 := by rw [ok.bytes]; omega
      rw [Int.natCast_mul, Int.toNat_of_nonneg h0] at e1
      exact e1
    refine ⟨ei, z, e, ei.size, he, rfl, ok.zc, ok.zs, hz, fun ka kb w => ?_⟩
    have hr := run_make (P := P) w t e nf z hue ok.info ok.zero ka kb m m h0 (Int.le_refl _) hbi h63
    rw [ok.size] at hr
    exact hr
  · exact h.elim

theorem stat_run (hT : TabOk P T) {o : Oper} (h : statB T o = true) : ∃ k, ∀ a, FRun P o k a := by
  unfold statB at h
  split at h
  · rename_i t ho
    obtain ⟨i, hi⟩ := Option.isSome_iff_exists.1 h
    obtain ⟨z, hz, _⟩ := alloc_run hT hi
    refine ⟨.ptr z.cells t, fun a w => ?_⟩
    simp only [execOp, ho, Sem.run_bind, hz]
    rfl
  · rename_i t len ps ho
    simp only [Bool.and_eq_true, beq_iff_eq] at h
    obtain ⟨⟨rfl, hps⟩, h⟩ := h
    have hps : ps = #[] := Array.size_eq_zero_iff.1 hps
    subst hps
    obtain ⟨sz, he⟩ := Option.isSome_iff_exists.1 h
    obtain ⟨e, hr⟩ := empty_run hT he
    refine ⟨.row #[] e 0, fun a w => ?_⟩
    have hr' : (Instr.buildSlice t 0 ((#[] : Array (Nat × Operand)).map fun (i, x) => (i, a.eval x))).run P w = .ok (.slice (some ⟨w.heap.size, 0, none⟩) 0 0) (w.alloc (.cells #[] e)) := by
      rw [Array.map_empty]; exact hr w
    have e' : execOp a.eval o = (do pure (.value (← Instr.buildSlice t 0 ((#[] : Array (Nat × Operand)).map fun (i, x) => (i, a.eval x))))) := by simp only [execOp, ho]
    rw [e', Sem.run_bind, hr']
    rfl
  · rename_i t x y ho
    split at h
    · rename_i n m hx hy
      have hx' : ∃ k, x = .const (.int k n) := by
        unfold constInt at hx
        split at hx
        · cases hx; exact ⟨_, rfl⟩
        · cases hx
      have hy' : ∃ k, y = .const (.int k m) := by
        unfold constInt at hy
        split at hy
        · cases hy; exact ⟨_, rfl⟩
        · cases hy
      obtain ⟨ka, rfl⟩ := hx'
      obtain ⟨kb, rfl⟩ := hy'
      have hm : makeOk T t n m := by
        unfold makeOkB at h
        unfold makeOk
        split at h
        · simp only [Bool.and_eq_true, beq_iff_eq, decide_eq_true_eq] at h
          exact ⟨h.1.1.1.1, h.1.1.1.2, ⟨h.1.1.2, h.1.2⟩, h.2⟩
        · cases h
      obtain ⟨ei, z, e, _, _, _, _, _, _, hr⟩ := made_run hT hm
      refine ⟨.row (madeCells z.cells (n.toNat * ei.size)) e n.toNat, fun a w => ?_⟩
      simp only [execOp, ho, Sem.run_bind, Act.eval, hr]
      rfl
    · cases h
  · cases h

theorem dyn_run (hT : TabOk P T) {X : Ctx} {s : AState} {a : Act} {w : World} {o : Oper} (hR : R X s a w) (h : dynB o = true) (hf : floK T s o) : ∃ k, FRun P o k a := by
  unfold dynB at h
  split at h
  · rename_i t x y ho
    unfold floK at hf
    simp only [ho] at hf
    split at hf
    · rename_i n m hnm
      have hx := hR.ev x
      have hy := hR.ev y
      unfold intPair at hnm
      split at hnm
      · rename_i ka n' kb m' ex ey
        cases hnm
        rw [ex] at hx
        rw [ey] at hy
        obtain ⟨ei, z, e, _, _, _, _, _, _, hr⟩ := made_run hT hf
        refine ⟨.row (madeCells z.cells (n.toNat * ei.size)) e n.toNat, fun w => ?_⟩
        simp only [execOp, ho, Sem.run_bind, hx.int_inv, hy.int_inv, hr]
        rfl
      · cases hnm
    · exact hf.elim
  · cases h

theorem made_brel {X : Ctx} {kd : Nat → Kd} {w : World} {ei : TI} {z : Value} {e : TypeId} {n b d : Nat} (hzc : zCells z.cells.toList ei.zc = true) (hzs : z.cells.size = ei.size) (hz : 0 < ei.size) (hmz : ei.zc.all madeZ = true)
    (hb : w.heap[b]? = some (.cells (madeCells z.cells (n * ei.size)) e (0, 0))) (h1 : X.at_ d = some b) (h2 : X.cap d = n) (h3 : ∀ x, X.own x = some d ↔ x = b) : BRel X kd w d (.row true true ei.size (List.replicate n (ei.zc.map canC))) := by
  obtain ⟨g1, g2⟩ := zCells_get _ _ hzc
  have hlen : ei.zc.length = ei.size := by rw [← g1, Array.length_toList]; exact hzs
  have hcell : ∀ i j, i < n → j < ei.size → (madeCells z.cells (n * ei.size)).getD (i * ei.size + j) undef = z.cells.toList.getD j undef := by
    intro i j hi hj
    have hlt : i * ei.size + j < n * ei.size := mul_lt_of hi hj (Nat.le_refl _)
    have hmod : (i * ei.size + j) % z.cells.size = j := by
      rw [hzs, Nat.add_comm, Nat.add_mul_mod_self_right]
      exact Nat.mod_eq_of_lt hj
    rw [arr_getD]
    simp only [madeCells, Array.getD_eq_getD_getElem?, Array.getElem?_map, Array.getElem?_range, hlt, if_true, Option.map_some, Option.getD_some, hmod]
    rw [getElem!_pos z.cells j (by omega), Array.getElem?_eq_getElem (by omega)]
    rfl
  have hrow : ∀ i, i < n → (List.replicate n (ei.zc.map canC)).getD i [] = ei.zc.map canC := by
    intro i hi
    simp [List.getD_eq_getElem?_getD, List.getElem?_replicate, hi]
  refine ⟨hz, fun r hr => by rw [List.eq_of_mem_replicate hr, List.length_map]; exact hlen, .inr ⟨b, _, _, h1, hb, by rw [h2, size_madeCells], by rw [h2]; simp, fun q => (by rw [h2]; have e1 := congrArg List.length q; simpa using e1), .inl ⟨rfl, fun _ _ _ => False, ?_, fun _ _ _ _ _ _ _ _ _ e => e.elim, fun _ _ _ _ e => e, fun x => ?_⟩⟩⟩
  · intro i j hi hj
    rw [List.length_replicate] at hi
    rw [hcell i j hi hj, hrow i hi, map_canC _ _ (by omega)]
    exact zCell_own (g2 j (by omega)) (List.all_eq_true.1 hmz _ (getD_mem _ _ _ (by omega)))
  · rw [h3 x]
    exact ⟨.inl, fun h => h.elim id (fun ⟨_, _, _, _, e⟩ => e.elim)⟩

/-- Its block lies there already: it is taken up. -/
theorem adopt_float (hT : TabOk P T) {X : Ctx} {s : AState} {a : Act} {w : World} {o : Oper} {Φ : AState → Prop} {k : FKind} {b : Nat} (h : R X s a w) (hd : ∀ d, o.dst = some d → d < s.nt) (hf : floatB T o = true) (hK : opK P T s o Φ)
    (hk : FRun P o k a) (hlt : b < w.heap.size) (hnA : ¬ X.base.A b) (hb : w.heap[b]? = some k.blk) :
    ∃ X' s', X'.base = X.base.grant b ∧ R X' s' (a.put o.dst (k.mk b)) w ∧ Φ s' := by
  have key : ∀ (d cap : Nat) (B : ABlk) (av : AV), o.dst = some d → s.blk d = .none → nF d →
      (∀ (X' : Ctx) (kd : Nat → Kd), X'.at_ d = some b → X'.cap d = cap → (∀ x, X'.own x = some d ↔ x = b) → BRel X' kd w d B) →
      (∀ (X' : Ctx) (kd : Nat → Kd), kd d = B.kd → X'.at_ d = some b → X'.cap d = cap → VRel X' kd w (k.mk b) av) → Φ (s.app o.dst av [(d, B)]) →
      ∃ X' s', X'.base = X.base.grant b ∧ R X' s' (a.put o.dst (k.mk b)) w ∧ Φ s' := by
    intro d cap B av e1 e2 e3 e4 e5 e6
    have hR := h.adopt (cap := cap) (B := B) hlt hnA e2 e3 (fun X' kd q1 q2 q3 _ => e4 X' kd q1 q2 q3)
    refine ⟨_, _, rfl, hR.put (av := av) ?_ hd, e6⟩
    exact e5 _ _ (by unfold AState.kds; rw [blk_upd, if_pos rfl]) (upd_same _ _ _) (upd_same _ _ _)
  unfold floatB at hf
  simp only [Bool.and_eq_true, Bool.or_eq_true] at hf
  have hf := hf.2
  unfold opK at hK
  cases ho : o.op <;> simp only [ho, statB, dynB] at hf hK <;> try (exfalso; simp at hf; done)
  case alloc t =>
    simp only [Bool.false_eq_true, or_false] at hf
    unfold allocK at hK
    split at hK
    · rename_i d i hdst hi
      obtain ⟨⟨h1, h9⟩, hK⟩ := hK
      obtain ⟨z, hz, hzc⟩ := alloc_run hT hi
      have hk' : FRun P o (.ptr z.cells t) a := fun w => by
        simp only [execOp, ho, Sem.run_bind, hz]
        rfl
      have := hk.same w hk'
      subst this
      refine key d 0 (.var i.zc) (.loc d 0) hdst h1 h9 (fun X' kd g1 g2 g3 => ?_) (fun X' kd g1 g2 g3 => .loc d 0 b g1 g2) hK
      obtain ⟨q1, q2⟩ := zCells_rel _ _ hzc X' kd w
      exact ⟨b, z.cells, t, g1, hb, g3, by simpa using q1, fun j hj => by have := q2 j hj; rwa [arr_getD] at this⟩
    · exact hK.elim
  case buildSlice t len ps =>
    simp only [Bool.false_eq_true, or_false, Bool.and_eq_true, beq_iff_eq] at hf
    obtain ⟨⟨rfl, hps⟩, hs⟩ := hf
    have hps : ps = #[] := Array.size_eq_zero_iff.1 hps
    subst hps
    unfold buildSliceK at hK
    split at hK
    · rename_i d sz hdst he
      obtain ⟨hz, _, _, ⟨h1, h9⟩, hK⟩ := hK
      simp only [partsL, purLLK] at hK
      obtain ⟨e, hr⟩ := empty_run hT he
      have hk' : FRun P o (.row #[] e 0) a := fun w => by
        have hr' : (Instr.buildSlice t 0 ((#[] : Array (Nat × Operand)).map fun (i, x) => (i, a.eval x))).run P w = .ok (.slice (some ⟨w.heap.size, 0, none⟩) 0 0) (w.alloc (.cells #[] e)) := by
          rw [Array.map_empty]; exact hr w
        have e' : execOp a.eval o = (do pure (.value (← Instr.buildSlice t 0 ((#[] : Array (Nat × Operand)).map fun (i, x) => (i, a.eval x))))) := by simp only [execOp, ho]
        rw [e', Sem.run_bind, hr']
        rfl
      have := hk.same w hk'
      subst this
      refine key d 0 (.row true true sz []) (.row d 0) hdst h1 h9 (fun X' kd g1 g2 g3 => ?_) (fun X' kd g1 g2 g3 => ?_) hK.2
      · refine ⟨hz, by simp, .inr ⟨b, #[], e, g1, hb, by simp [g2], by simp, fun _ => g2, .inl ⟨rfl, fun _ _ _ => False, by simp, by simp, by simp, fun x => ?_⟩⟩⟩
        rw [g3 x]; simp
      · have := VRel.row (X := X') (w := w) (kd := kd) d 0 sz b g1 g2
        rw [g3] at this
        exact this
    · exact hK.elim
  case makeSlice t x y =>
    unfold makeSliceK at hK
    split at hK
    · rename_i d ei ka n kb m hdst hei hx hy
      obtain ⟨rfl, hz, hn, hby, hmz, ⟨h1, h9⟩, hK⟩ := hK
      have hm : makeOk T t m m := by unfold makeOk; simp only [hei]; exact ⟨trivial, hz, hn, hby⟩
      obtain ⟨ei', z, e, _, q1, _, q3, q4, q5, hr⟩ := made_run hT hm
      rw [hei] at q1; cases q1
      have vx := h.ev x
      have vy := h.ev y
      rw [hx] at vx
      rw [hy] at vy
      have hk' : FRun P o (.row (madeCells z.cells (m.toNat * ei.size)) e m.toNat) a := fun w => by
        simp only [execOp, ho, Sem.run_bind, vx.int_inv, vy.int_inv, hr]
        rfl
      have := hk.same w hk'
      subst this
      refine key d m.toNat _ (.row d m.toNat) hdst h1 h9 (fun X' kd g1 g2 g3 => made_brel q3 q4 q5 hmz hb g1 g2 g3) (fun X' kd g1 g2 g3 => ?_) hK
      have := VRel.row (X := X') (w := w) (kd := kd) d m.toNat ei.size b g1 g2
      rw [g3] at this
      exact this
    · exact hK.elim

end

end Go.Proofs.Yteebkimhfaodnaa

/- Regions that draw their order: the order in which the abstract run goes through them, and what is checked of it. -/
namespace Go.Proofs.Yteebkimhfaodnaa
open Go Go.RowKit

def sameAt (d : Option Nat) (t s : AState) : Prop := match d with
  | some d => t.get d = s.get d
  | none => True

/-- The operations that may still stand out give what they gave. -/
def recheck (T : Tab) (ops : List Oper) (s : AState) : List Nat → Prop
  | [] => True
  | x :: r => (match ops[x]? with
    | some o => (match stillB o with
      | true => stillStep T ops o s fun t => sameAt o.dst t s
      | false => floK T s o)
    | none => False) ∧ recheck T ops s r

def drawK (P : Program) (T : Tab) (ops : List Oper) (Φ : AState → Prop) : List (Nat × List Nat) → AState → Prop
  | [], s => Φ s
  | (i, re) :: rest, s => match ops[i]? with
    | some o => dstOk s o.dst ∧ (match stillB o with
      | true => stillStep T ops o s fun s => recheck T ops s re ∧ drawK P T ops Φ rest s
      | false => stepK P T ops o s fun s => recheck T ops s re ∧ drawK P T ops Φ rest s)
    | none => False

def depsOf (o : Oper) : List Nat := (o.after.toList.filter fun e => Region.binds .any e).map fun e => e.on

def stillAt (ops : Array Oper) (i : Nat) : Bool := match ops[i]? with
  | some o => stillB o
  | none => false

def anOf (tb : List (Nat × List Nat)) (o : Oper) : List Nat := depsOf o ++ (depsOf o).flatMap fun j => getL [] tb j

/-- What is checked of the order, one closed computation. -/
def chk (T : Tab) (ops : Array Oper) : List (Nat × List Nat) → List Nat → List (Nat × List Nat) → Bool
  | _, pre, [] => (List.range ops.size).all fun i => pre.contains i
  | tb, pre, (i, re) :: rest => match ops[i]? with
    | none => false
    | some o => !pre.contains i && (depsOf o).all (fun j => pre.contains j) && (floatB T o || pre.all fun y => stillAt ops y || (anOf tb o).contains y) &&
      (stillB o || pre.all fun x => !stillAt ops x || re.contains x || (anOf tb o).contains x) &&
      ((List.range ops.size).all fun y => match ops[y]? with
        | some oy => !dynB oy || pre.contains y || y == i || !((depsOf oy).all fun j => j == i || pre.contains j) || (stillB o && !(depsOf oy).contains i) || re.contains y
        | none => true) &&
      chk T ops ((i, (anOf tb o).eraseDups) :: tb) (i :: pre) rest

/-- A rank that grows along what waits; one operation may be moved behind another. -/
def rkS (sw : Nat × Nat) (i : Nat) : Nat := if i = sw.1 then 2 * sw.2 + 1 else 2 * i

def stat (sw : Nat → Nat) (T : Tab) (ops : Array Oper) : Bool :=
  Region.noSelect ops && (List.range ops.size).all fun i => match ops[i]? with
    | none => true
    | some o => (depsOf o).all (fun j => decide (sw j < sw i) && decide (j < ops.size)) && (!stillB o || o.dst.isSome) && (!floatB T o || (depsOf o).all fun j => match ops[j]? with | some oj => !floatB T oj | none => false) && (!dynB o || !(depsOf o).isEmpty) &&
      (List.range ops.size).all fun j => match ops[j]? with
        | none => true
        | some oj => match oj.dst with
          | none => true
          | some d => (!(o.looksAt ops).contains d || (depsOf o).contains j) && (i == j || o.dst != some d)

structure Stat (T : Tab) (ops : Array Oper) : Prop where
  sel : ∀ (j : Nat) (o : Oper) cs b, ops[j]? = some o → o.op ≠ .select cs b
  lt : ∃ rk : Nat → Nat, ∀ (i : Nat) (o : Oper), ops[i]? = some o → ∀ j, j ∈ depsOf o → rk j < rk i ∧ j < ops.size
  dst : ∀ (i : Nat) (o : Oper), ops[i]? = some o → stillB o = true → ∃ d, o.dst = some d
  flo : ∀ (i : Nat) (o : Oper), ops[i]? = some o → floatB T o = true → ∀ j, j ∈ depsOf o → ∃ oj, ops[j]? = some oj ∧ floatB T oj = false
  dyn : ∀ (i : Nat) (o : Oper), ops[i]? = some o → dynB o = true → ∃ j, j ∈ depsOf o
  look : ∀ (i j : Nat) (o oj : Oper) (d : Nat), ops[i]? = some o → ops[j]? = some oj → oj.dst = some d → d ∈ o.looksAt ops → j ∈ depsOf o
  ne : ∀ (i j : Nat) (o oj : Oper) (d : Nat), ops[i]? = some o → ops[j]? = some oj → oj.dst = some d → o.dst = some d → i = j

theorem lt_of_get {ops : Array Oper} {i : Nat} {o : Oper} (h : ops[i]? = some o) : i < ops.size := (Array.getElem?_eq_some_iff.1 h).1

theorem stat_spec {sw : Nat → Nat} {T : Tab} {ops : Array Oper} (h : stat sw T ops = true) : Stat T ops := by
  unfold stat at h
  rw [Bool.and_eq_true] at h
  obtain ⟨h1, h2⟩ := h
  have h3 := List.all_eq_true.1 h2
  have key : ∀ (i : Nat) (o : Oper), ops[i]? = some o → _ := fun i o ho => by
    have := h3 i (List.mem_range.2 (lt_of_get ho))
    simp only [ho, Bool.and_eq_true] at this
    exact this
  refine ⟨Region.noSelect_spec h1, ?_, ?_, ?_, ?_, ?_, ?_⟩
  · refine ⟨sw, fun i o ho j hj => ?_⟩
    have := List.all_eq_true.1 (key i o ho).1.1.1.1 j hj
    simpa using this
  · intro i o ho hs
    have := (key i o ho).1.1.1.2
    rw [hs] at this
    exact Option.isSome_iff_exists.1 (by simpa using this)
  · intro i o ho hf j hj
    have := (key i o ho).1.1.2
    rw [hf] at this
    have := List.all_eq_true.1 (by simpa using this) j hj
    split at this
    · rename_i oj hoj
      exact ⟨oj, hoj, by simpa using this⟩
    · cases this
  · intro i o ho hf
    have := (key i o ho).1.2
    rw [hf] at this
    cases hd : depsOf o with
    | nil => rw [hd] at this; cases this
    | cons x r => exact ⟨x, by simp⟩
  · intro i j o oj d ho hoj hd hl
    have := List.all_eq_true.1 (key i o ho).2 j (List.mem_range.2 (lt_of_get hoj))
    simp only [hoj, hd, Bool.and_eq_true, Bool.or_eq_true] at this
    rcases this.1 with h | h
    · simp at h; exact absurd hl h
    · simpa using h
  · intro i j o oj d ho hoj hd hl
    have := List.all_eq_true.1 (key i o ho).2 j (List.mem_range.2 (lt_of_get hoj))
    simp only [hoj, hd, Bool.and_eq_true, Bool.or_eq_true] at this
    rcases this.2 with h | h
    · simpa using h
    · simp [hl] at h

/-- Sets of operations that hold what their members wait for. -/
def Closed (ops : Array Oper) (L : Nat → Prop) : Prop := ∀ j oj, ops[j]? = some oj → L j → ∀ i, i ∈ depsOf oj → L i

def TabGood (ops : Array Oper) (tb : List (Nat × List Nat)) (pre : List Nat) : Prop := ∀ k, k ∈ pre → ∀ L, Closed ops L → L k → ∀ x, x ∈ getL [] tb k → L x

structure Chk (T : Tab) (ops : Array Oper) (tb : List (Nat × List Nat)) (pre : List Nat) (i : Nat) (re : List Nat) (rest : List (Nat × List Nat)) (o : Oper) : Prop where
  get : ops[i]? = some o
  new : i ∉ pre
  deps : ∀ j, j ∈ depsOf o → j ∈ pre
  anc : floatB T o = true ∨ ∀ y, y ∈ pre → stillAt ops y = true ∨ y ∈ anOf tb o
  reck : stillB o = true ∨ ∀ x, x ∈ pre → stillAt ops x = false ∨ x ∈ re ∨ x ∈ anOf tb o
  dyn : ∀ y oy, ops[y]? = some oy → dynB oy = true → y ∉ pre → y ≠ i → (∀ j, j ∈ depsOf oy → j = i ∨ j ∈ pre) → (stillB o = true ∧ i ∉ depsOf oy) ∨ y ∈ re
  next : chk T ops ((i, (anOf tb o).eraseDups) :: tb) (i :: pre) rest = true

theorem chk_cons {T : Tab} {ops : Array Oper} {tb : List (Nat × List Nat)} {pre re : List Nat} {i : Nat} {rest : List (Nat × List Nat)} (h : chk T ops tb pre ((i, re) :: rest) = true) : ∃ o, Chk T ops tb pre i re rest o := by
  unfold chk at h
  split at h
  · cases h
  · rename_i o ho
    simp only [Bool.and_eq_true] at h
    obtain ⟨⟨⟨⟨⟨h1, h2⟩, h3⟩, h4⟩, h5⟩, h6⟩ := h
    refine ⟨o, ho, by simpa using h1, fun j hj => by simpa using List.all_eq_true.1 h2 j hj, ?_, ?_, ?_, h6⟩
    · rcases Bool.or_eq_true_iff.1 h3 with h | h
      · exact .inl h
      · refine .inr fun y hy => ?_
        have := List.all_eq_true.1 h y hy
        rw [Bool.or_eq_true] at this
        exact this.imp id (fun h => by simpa using h)
    · rcases Bool.or_eq_true_iff.1 h4 with h | h
      · exact .inl h
      · refine .inr fun y hy => ?_
        have := List.all_eq_true.1 h y hy
        rw [Bool.or_eq_true, Bool.or_eq_true] at this
        rcases this with (h | h) | h
        · exact .inl (by simpa using h)
        · exact .inr (.inl (by simpa using h))
        · exact .inr (.inr (by simpa using h))
    · intro y oy hoy hd hp hne hall
      have := List.all_eq_true.1 h5 y (List.mem_range.2 (lt_of_get hoy))
      simp only [hoy, Bool.or_eq_true, Bool.and_eq_true] at this
      rcases this with ((((h | h) | h) | h) | h) | h
      · simp [hd] at h
      · exact absurd (by simpa using h) hp
      · exact absurd (by simpa using h) hne
      · exfalso
        have h7 : ((depsOf oy).all fun j => j == i || pre.contains j) = true := List.all_eq_true.2 fun j hj => by
          rcases hall j hj with e | e
          · simp [e]
          · simp [e]
        rw [h7] at h
        cases h
      · exact .inl ⟨h.1, by simpa using h.2⟩
      · exact .inr (by simpa using h)

theorem anOf_in {ops : Array Oper} {tb : List (Nat × List Nat)} {pre : List Nat} {o : Oper} {L : Nat → Prop} (ht : TabGood ops tb pre) (hp : ∀ j, j ∈ depsOf o → j ∈ pre) (hL : Closed ops L) (hd : ∀ j, j ∈ depsOf o → L j) : ∀ x, x ∈ anOf tb o → L x := by
  intro x hx
  unfold anOf at hx
  rcases List.mem_append.1 hx with h | h
  · exact hd x h
  · obtain ⟨j, hj, hx⟩ := List.mem_flatMap.1 h
    exact ht j (hp j hj) L hL (hd j hj) x hx

theorem TabGood.cons {T : Tab} {ops : Array Oper} {tb : List (Nat × List Nat)} {pre re : List Nat} {i : Nat} {rest : List (Nat × List Nat)} {o : Oper} (ht : TabGood ops tb pre) (hc : Chk T ops tb pre i re rest o) : TabGood ops ((i, (anOf tb o).eraseDups) :: tb) (i :: pre) := by
  intro k hk L hL hLk x hx
  rw [getL_cons] at hx
  split at hx
  · rename_i e
    subst e
    exact anOf_in ht hc.deps hL (hL k o hc.get hLk) x (List.mem_eraseDups.1 hx)
  · rename_i e
    rcases List.mem_cons.1 hk with h | h
    · exact absurd h e
    · exact ht k h L hL hLk x hx

/-- What stands ahead of an operation in the order and is not still: it waits for that. -/
theorem chk_anc {T : Tab} {ops : Array Oper} : ∀ (rest : List (Nat × List Nat)) (tb : List (Nat × List Nat)) (pre : List Nat), chk T ops tb pre rest = true → TabGood ops tb pre →
    ∀ (i : Nat) (re : List Nat) (o : Oper), (i, re) ∈ rest → ops[i]? = some o → floatB T o = false → ∀ y, y ∈ pre → stillAt ops y = false → ∀ L, Closed ops L → (∀ j, j ∈ depsOf o → L j) → L y
  | [], _, _, _, _, i, re, o, hi, _, _, _, _, _, _, _, _ => by cases hi
  | (k, re') :: rest, tb, pre, h, ht, i, re, o, hi, ho, hf, y, hy, hs, L, hL, hd => by
    obtain ⟨o', hc⟩ := chk_cons h
    rcases List.mem_cons.1 hi with e | e
    · cases e
      have : o = o' := Option.some.inj (ho.symm.trans hc.get)
      subst this
      rcases hc.anc with h1 | h1
      · rw [hf] at h1; cases h1
      · rcases h1 y hy with h2 | h2
        · rw [hs] at h2; cases h2
        · exact anOf_in ht hc.deps hL hd y h2
    · exact chk_anc rest _ _ hc.next (ht.cons hc) i re o e ho hf y (List.mem_cons_of_mem _ hy) hs L hL hd

theorem chk_mem {T : Tab} {ops : Array Oper} : ∀ (rest : List (Nat × List Nat)) (tb : List (Nat × List Nat)) (pre : List Nat), chk T ops tb pre rest = true → ∀ i, i < ops.size → i ∈ pre ∨ ∃ re, (i, re) ∈ rest
  | [], tb, pre, h, i, hi => by
    unfold chk at h
    exact .inl (by simpa using List.all_eq_true.1 h i (List.mem_range.2 hi))
  | (k, re') :: rest, tb, pre, h, i, hi => by
    obtain ⟨o', hc⟩ := chk_cons h
    rcases chk_mem rest _ _ hc.next i hi with h1 | ⟨re, h1⟩
    · rcases List.mem_cons.1 h1 with e | e
      · subst e; exact .inr ⟨re', by simp⟩
      · exact .inl e
    · exact .inr ⟨re, List.mem_cons_of_mem _ h1⟩

theorem still_float {T : Tab} {o : Oper} (h : stillB o = true) : floatB T o = false := by
  unfold stillB at h
  unfold floatB statB dynB
  split at h <;> simp_all

end Go.Proofs.Yteebkimhfaodnaa

/- Regions that draw their order: what single operations do, said for a frame that agrees with the abstract run's but for what stands out. -/
namespace Go.Proofs.Yteebkimhfaodnaa
open Go Go.RowKit

/-- It gives now what it gave. -/
def RE (T : Tab) (ops : List Oper) (o : Oper) (s : AState) : Prop := stillStep T ops o s fun t => sameAt o.dst t s

theorem R.congr {X : Ctx} {s t : AState} {a : Act} {w : World} (h : R X t a w) (hp : t.hp = s.hp) (hn : t.nt = s.nt) (hg : ∀ k, t.get k = s.get k) : R X s a w := by
  have hb : t.blk = s.blk := by funext i; unfold AState.blk; rw [hp]
  have hk : t.kds = s.kds := by funext i; unfold AState.kds; rw [hb]
  refine ⟨h.nt.trans hn, h.df, fun i => ?_, fun id => ?_, h.ow, h.os, h.tape, h.output, h.size, h.old, h.bx⟩
  · rw [← hk, ← hg]; exact h.fr i
  · rw [← hk, ← hb]; exact h.bl id

theorem get_put (s : AState) (d : Nat) (v : AV) (k : Nat) : (s.put (some d) v).get k = if k = d then v else s.get k := rfl

theorem ev_of_get {s t : AState} {x : Operand} (h : ∀ k, x = .tmp k → t.get k = s.get k) : t.ev x = s.ev x := by
  cases x with
  | tmp k => exact h k rfl
  | const v => rfl
  | global g => rfl
  | func f => rfl

theorem looks_op {ops : Array Oper} {o : Oper} {k : Nat} (h : .tmp k ∈ o.op.operands) : k ∈ o.looksAt ops :=
  List.mem_append_left _ (List.mem_filterMap.2 ⟨.tmp k, by simpa using h, rfl⟩)

theorem looks_guard {ops : Array Oper} {o : Oper} {j dj : Nat} {want : Bool} (hg : o.guard = some (j, want)) (hj : guardAt ops.toList j = some dj) : dj ∈ o.looksAt ops := by
  refine List.mem_append_right _ ?_
  unfold guardAt at hj
  simp only [hg]
  split at hj
  · rename_i oj hoj
    have hoj' : ops[j]? = some oj := by rw [← Array.getElem?_toList]; exact hoj
    simp [hoj', hj]
  · cases hj

theorem stillV_get {T : Tab} {ops : Array Oper} {s t : AState} {o : Oper} {K : AV → Prop} (hp : t.hp = s.hp) (h : ∀ k, k ∈ o.looksAt ops → t.get k = s.get k) : stillV T t o K = stillV T s o K :=
  stillV_congr hp fun x hx => ev_of_get fun k e => h k (looks_op (e ▸ hx))

theorem RE_congr {T : Tab} {ops : Array Oper} {s t : AState} {o : Oper} (h : RE T ops.toList o s) (hp : t.hp = s.hp) (hg : ∀ k, k ∈ o.looksAt ops ∨ o.dst = some k → t.get k = s.get k) : RE T ops.toList o t := by
  have key : ∀ (s' t' : AState), s'.hp = s.hp → t'.hp = s.hp → (∀ k, k ∈ o.looksAt ops → t'.get k = s'.get k) → stillK T s' o (fun u => sameAt o.dst u s) → stillK T t' o (fun u => sameAt o.dst u t) := by
    intro s' t' h1 h2 h3 h4
    unfold stillK at *
    have e : (fun v => sameAt o.dst (s'.put o.dst v) s) = (fun v => sameAt o.dst (t'.put o.dst v) t) := by
      funext v
      cases hd : o.dst with
      | none => rfl
      | some d =>
        have e1 : t.get d = s.get d := hg d (.inr hd)
        simp only [sameAt, get_put, if_true, e1]
    rw [e] at h4
    rw [stillV_get (ops := ops) (h2.trans h1.symm) h3]
    exact h4
  have hk : ∀ (v : AV) (s' t' : AState), sameAt o.dst (s'.put o.dst v) s → sameAt o.dst (t'.put o.dst v) t := by
    intro v s' t' h1
    cases hd : o.dst with
    | none => trivial
    | some d =>
      have e1 : t.get d = s.get d := hg d (.inr hd)
      rw [hd] at h1
      simp only [sameAt, get_put, if_true] at h1 ⊢
      rw [e1]; exact h1
  unfold RE stillStep at *
  split at h
  · rename_i hgd
    exact key s t rfl hp (fun k hk => hg k (.inl hk)) h
  · rename_i j want hgd
    split at h
    · rename_i dj hj
      simp only
      have hdj : t.get dj = s.get dj := hg dj (.inl (looks_guard hgd hj))
      rw [hdj]
      split at h
      · rename_i g hs
        refine ⟨fun e => key (s.put (some dj) (.bool want)) (t.put (some dj) (.bool want)) rfl hp (fun k hk => ?_) (h.1 e), fun e => hk _ _ _ (h.2 e)⟩
        rw [get_put, get_put]
        split
        · rfl
        · exact hg k (.inl hk)
      · rename_i hs
        exact hk _ _ _ h
      · exact h.elim
    · exact h.elim

theorem still_value {P : Program} {o : Oper} {a : Act} {w : World} {K : Act → Prop} (h : o.still P a w K) : ∃ u, K (a.put o.dst u) := by
  unfold Oper.still at h
  generalize (execOp a.eval o).run P w = r at h
  cases r with
  | ok n w' =>
    cases n <;> simp only [Oper.stillUpon] at h <;> try exact h.elim
    · exact ⟨_, h.2⟩
    · exact ⟨_, h.2⟩
    · obtain ⟨_, v, _, h3⟩ := h
      exact ⟨v, h3⟩
  | halt x w' => simp only [Oper.stillUpon] at h

/-- An operation that turns no block: the abstract run goes on, and it will give the same again. -/
theorem still_eval {P : Program} {T : Tab} (hT : TabOk P T) {ops : Array Oper} {X : Ctx} {s : AState} {a : Act} {w : World} {o : Oper} {d : Nat} {Φ : AState → Prop} (h : R X s a w) (hd : o.dst = some d) (hdn : d < s.nt) (hself : d ∉ o.looksAt ops)
    (hK : stillStep T ops.toList o s Φ) :
    ∃ u X' s', X'.base = X.base ∧ R X' s' (a.put o.dst u) w ∧ Φ s' ∧ (∀ k, k ≠ d → s'.get k = s.get k) ∧ s'.hp = s.hp ∧ RE T ops.toList o s' := by
  have hdst : ∀ d', o.dst = some d' → d' < s.nt := fun d' e => by rw [hd] at e; cases e; exact hdn
  have run : ∀ s1, R X s1 a w → s1.nt = s.nt → s1.hp = s.hp → stillK T s1 o Φ → ∃ u X' av, X'.base = X.base ∧ R X' (s1.put o.dst av) (a.put o.dst u) w ∧ Φ (s1.put o.dst av) ∧ stillV T s1 o (fun v => v = av) := by
    intro s1 hR hn hp hk
    obtain ⟨av, h1, h2⟩ := stillV_fun hk
    have hk' : stillK T s1 o (fun t => t.get d = av) := by
      unfold stillK
      have e : (fun v => (s1.put o.dst v).get d = av) = (fun v => v = av) := by
        funext v; rw [hd]; simp only [get_put, if_true]
      rw [e]; exact h2
    obtain ⟨u, X', t, g1, g2, g3, v, rfl⟩ := still_value (stillK_sound (P := P) hT hR (fun d' e => by rw [hn]; exact hdst d' e) hk')
    rw [hd] at g3
    simp only [get_put, if_true] at g3
    subst g3
    exact ⟨u, X', v, g1, g2, h1, h2⟩
  have again : ∀ (s1 : AState) (av : AV), stillV T s1 o (fun v => v = av) → s1.hp = s.hp → ∀ t : AState, t.hp = s.hp → (∀ k, k ≠ d → t.get k = s1.get k) → t.get d = av → ∀ t', t'.hp = s.hp → (∀ k, t'.get k = t.get k) → stillK T t' o (fun u => sameAt o.dst u t) := by
    intro s1 av h1 h2 t h3 h4 h5 t' h6 h7
    unfold stillK
    have e : (fun v => sameAt o.dst (t'.put o.dst v) t) = (fun v => v = av) := by
      funext v; rw [hd]; simp only [sameAt, get_put, if_true, h5]
    rw [e, stillV_get (ops := ops) (s := s1) (h6.trans h2.symm) (fun k hk => by
      have hne : k ≠ d := fun e => hself (e ▸ hk)
      rw [h7, h4 k hne])]
    exact h1
  unfold stillStep at hK
  split at hK
  · rename_i hg
    obtain ⟨u, X', av, g1, g2, g3, g4⟩ := run s h rfl rfl hK
    refine ⟨u, X', s.put o.dst av, g1, g2, g3, fun k hk => by rw [hd, get_put, if_neg hk], by rw [hd]; rfl, ?_⟩
    unfold RE stillStep
    simp only [hg]
    exact again s av g4 rfl _ (by rw [hd]; rfl) (fun k hk => by rw [hd, get_put, if_neg hk]) (by rw [hd, get_put, if_pos rfl]) _ (by rw [hd]; rfl) (fun _ => rfl)
  · rename_i j want hg
    split at hK
    · rename_i dj hj
      have hdj : dj ≠ d := fun e => hself (e ▸ looks_guard hg hj)
      split at hK
      · rename_i g hs
        have hv := h.fr dj
        by_cases e : g = want
        · have hR1 : R X (s.put (some dj) (.bool want)) a w := h.reput (by rw [hs, e])
          obtain ⟨u, X', av, g1, g2, g3, g4⟩ := run _ hR1 rfl rfl (hK.1 e)
          refine ⟨u, X', (s.put (some dj) (.bool want)).put o.dst av, g1, g2, g3, fun k hk => ?_, by rw [hd]; rfl, ?_⟩
          · rw [hd, get_put, if_neg hk, get_put]
            split
            · rename_i e'; rw [e', hs, e]
            · rfl
          · unfold RE stillStep
            simp only [hg, hj]
            have e2 : ((s.put (some dj) (.bool want)).put o.dst av).get dj = .bool want := by rw [hd, get_put, if_neg hdj, get_put, if_pos rfl]
            simp only [e2]
            refine ⟨fun _ => ?_, fun e3 => by cases want <;> cases e3⟩
            exact again _ av g4 rfl _ (by rw [hd]; rfl) (fun k hk => by rw [hd, get_put, if_neg hk]) (by rw [hd, get_put, if_pos rfl]) _ (by rw [hd]; rfl) (fun k => by
              rw [get_put]
              split
              · rename_i e3; rw [e3, e2]
              · rfl)
        · have e' : g = !want := by cases g <;> cases want <;> simp_all
          have hR1 : R X (s.put (some dj) (.bool !want)) a w := h.reput (by rw [hs, e'])
          refine ⟨undef, X, _, rfl, hR1.put (tup_nil_rel _ _ _) hdst, hK.2 e', fun k hk => ?_, by rw [hd]; rfl, ?_⟩
          · rw [hd, get_put, if_neg hk, get_put]
            split
            · rename_i e3; rw [e3, hs, e']
            · rfl
          · unfold RE stillStep
            simp only [hg, hj]
            have e2 : ((s.put (some dj) (.bool !want)).put o.dst (.tup [])).get dj = .bool (!want) := by rw [hd, get_put, if_neg hdj, get_put, if_pos rfl]
            simp only [e2]
            constructor
            · intro e3; revert e3; cases want <;> intro e3 <;> cases e3
            · intros
              rw [hd]
              simp only [sameAt, get_put, if_true]
      · rename_i hs
        refine ⟨undef, X, _, rfl, h.put (tup_nil_rel _ _ _) hdst, hK, fun k hk => by rw [hd, get_put, if_neg hk], by rw [hd]; rfl, ?_⟩
        unfold RE stillStep
        simp only [hg, hj]
        have e2 : (s.put o.dst (.tup [])).get dj = .tup [] := by rw [hd, get_put, if_neg hdj, hs]
        simp only [e2]
        rw [hd]
        simp only [sameAt, get_put, if_true]
      · exact hK.elim
    · exact hK.elim

/-- A frame that agrees with another where an operation looks. -/
def Agree (ops : Array Oper) (o : Oper) (a ap : Act) : Prop := ∀ k, k ∈ o.looksAt ops → a.tmps.getD k undef = ap.tmps.getD k undef

theorem Agree.exec {ops : Array Oper} {o : Oper} {a ap : Act} (h : Agree ops o a ap) (hs : ∀ cs b, o.op ≠ .select cs b) : execOp a.eval o = execOp ap.eval o :=
  execOp_congr o hs fun x hx => by
    cases x with
    | tmp k => exact h k (looks_op hx)
    | _ => rfl

theorem yielded_getD {ops : List Oper} {j dj : Nat} (hj : guardAt ops j = some dj) (a : Act) : yielded ops.toArray a.tmps j = match a.tmps.getD dj undef with | .bool b => some b | _ => none := yielded_of hj

theorem Agree.wanted {ops : Array Oper} {o : Oper} {a ap : Act} (h : Agree ops o a ap) : Region.wanted o (yielded ops a.tmps) = Region.wanted o (yielded ops ap.tmps) := by
  unfold Region.wanted
  cases hg : o.guard with
  | none => rfl
  | some gw =>
    obtain ⟨j, want⟩ := gw
    simp only
    cases hj : guardAt ops.toList j with
    | none =>
      have hy : ∀ tm, yielded ops tm j = none := by
        intro tm
        unfold guardAt at hj
        unfold yielded
        split at hj
        · rename_i oj hoj
          have hoj' : ops[j]? = some oj := by rw [← Array.getElem?_toList]; exact hoj
          simp [hoj', hj]
        · rename_i hoj
          have hoj' : ops[j]? = none := by rw [← Array.getElem?_toList]; exact hoj
          simp [hoj']
      rw [hy, hy]
    | some dj =>
      have e1 := yielded_getD hj a
      have e2 := yielded_getD hj ap
      rw [Array.toArray_toList] at e1 e2
      rw [e1, e2, h dj (looks_guard hg hj)]

theorem stillUpon_put {P : Program} {o : Oper} {a ap : Act} {w : World} {K : Act → Prop} (r : Result Next) (h : o.stillUpon P ap w K r) : o.stillUpon P a w (fun a' => ∃ u, a' = a.put o.dst u ∧ K (ap.put o.dst u)) r := by
  cases r with
  | ok n w' =>
    cases n <;> simp only [Oper.stillUpon] at h ⊢ <;> try exact h
    · exact ⟨h.1, _, rfl, h.2⟩
    · exact ⟨h.1, _, rfl, h.2⟩
    · obtain ⟨h1, v, h2, h3⟩ := h
      exact ⟨h1, v, h2, _, rfl, h3⟩
  | halt x w' => simp only [Oper.stillUpon] at h

theorem still_mono_upon {P : Program} {o : Oper} {a : Act} {w : World} {K K' : Act → Prop} {r : Result Next} (hk : ∀ a, K a → K' a) (h : o.stillUpon P a w K r) : o.stillUpon P a w K' r := by
  cases r with
  | ok n w' =>
    cases n <;> simp only [Oper.stillUpon] at h ⊢ <;> try exact h
    · exact ⟨h.1, hk _ h.2⟩
    · exact ⟨h.1, hk _ h.2⟩
    · obtain ⟨h1, v, h2, h3⟩ := h
      exact ⟨h1, v, h2, hk _ h3⟩
  | halt x w' => simp only [Oper.stillUpon] at h

/-- One that stood out is done. -/
theorem pend_exec {P : Program} {T : Tab} (hT : TabOk P T) {ops : Array Oper} {X : Ctx} {s : AState} {a ap : Act} {w : World} {i : Nat} {o : Oper} {d : Nat} {K : Act → World → Prop} {Q : Exit → Act → World → Prop} (hi : ops[i]? = some o)
    (hsel : ∀ cs b, o.op ≠ .select cs b) (h : R X s ap w) (hd : o.dst = some d) (hdn : d < s.nt) (hag : Agree ops o a ap) (hre : RE T ops.toList o s)
    (hK : ∀ u X', X'.base = X.base → R X' s (ap.put o.dst u) w → K (a.put o.dst u) w) : wpOp P ops Q i K a w := by
  have hdst : ∀ d', o.dst = some d' → d' < s.nt := fun d' e => by rw [hd] at e; cases e; exact hdn
  have run : ∀ s1, R X s1 ap w → s1.nt = s.nt → s1.hp = s.hp → (∀ k, s1.get k = s.get k) → stillK T s1 o (fun t => sameAt o.dst t s) → o.still P a w (fun a' => K a' w) := by
    intro s1 hR hn hp hg hk
    have h1 := stillK_sound (P := P) hT hR (fun d' e => by rw [hn]; exact hdst d' e) hk
    unfold Oper.still at h1 ⊢
    rw [hag.exec hsel]
    have h2 := stillUpon_put (a := a) _ h1
    refine still_mono_upon ?_ h2
    rintro a' ⟨u, rfl, X', t, g1, g2, g3, v, rfl⟩
    refine hK u X' g1 (g2.congr (by rw [hd]; exact hp) (by rw [hd]; exact hn) (fun k => ?_))
    rw [hd] at g3 ⊢
    rw [get_put]
    split
    · rename_i e; subst e
      have : (s1.put (some k) v).get k = s.get k := g3
      rwa [get_put, if_pos rfl] at this
    · exact hg k
  have skip : s.get d = .tup [] → K (a.put o.dst undef) w := fun e => hK undef X rfl ((h.put (tup_nil_rel _ _ _) hdst).congr (by rw [hd]; rfl) (by rw [hd]; rfl) (fun k => by
    rw [hd, get_put]
    split
    · rename_i e'; rw [e', e]
    · rfl))
  refine wpOp_of_stOp (K := fun a' => K a' w) (fun a' h => h) ?_
  unfold stOp
  simp only [hi]
  rw [hag.wanted]
  unfold RE stillStep at hre
  split at hre
  · rename_i hg
    rw [if_pos (by simp [Region.wanted, hg])]
    exact run s h rfl rfl (fun _ => rfl) hre
  · rename_i j want hg
    split at hre
    · rename_i dj hj
      have hy := yielded_getD hj ap
      rw [Array.toArray_toList] at hy
      have hv := h.fr dj
      split at hre
      · rename_i g hs
        rw [hs] at hv
        rw [hv.bool_inv] at hy
        by_cases e : g = want
        · rw [if_pos (by simp [Region.wanted, hg, hy, e])]
          exact run _ (h.reput (by rw [hs, e])) rfl rfl (fun k => by
            rw [get_put]
            split
            · rename_i e'; rw [e', hs, e]
            · rfl) (hre.1 e)
        · rw [if_neg (by simp [Region.wanted, hg, hy, e])]
          have e' : g = !want := by cases g <;> cases want <;> simp_all
          have := hre.2 e'
          rw [hd] at this
          simp only [sameAt, get_put, if_true] at this
          exact skip this.symm
      · rename_i hs
        rw [hs] at hv
        obtain ⟨vs, e, hl, _⟩ := hv.tup_inv
        rw [e] at hy
        rw [if_neg (by simp [Region.wanted, hg, hy])]
        rw [hd] at hre
        simp only [sameAt, get_put, if_true] at hre
        exact skip hre.symm
      · exact hre.elim
    · exact hre.elim

end Go.Proofs.Yteebkimhfaodnaa

/- Regions that draw their order: the abstract run in one order serves for all of them. -/
namespace Go.Proofs.Yteebkimhfaodnaa
open Go Go.RowKit

/-- An operation of any kind, done in a frame that agrees with the abstract run's where it looks. -/
theorem step_exec {P : Program} {T : Tab} (hT : TabOk P T) {ops : Array Oper} {X : Ctx} {s : AState} {a ap : Act} {w : World} {i : Nat} {o : Oper} {Φ : AState → Prop} {K : Act → World → Prop} {Q : Exit → Act → World → Prop} (hi : ops[i]? = some o)
    (hsel : ∀ cs b, o.op ≠ .select cs b) (h : R X s ap w) (hdst : ∀ d, o.dst = some d → d < s.nt) (hag : Agree ops o a ap) (hK : stepK P T ops.toList o s Φ)
    (hk : ∀ u X' s' w', X'.base = X.base → R X' s' (ap.put o.dst u) w' → Φ s' → K (a.put o.dst u) w') : wpOp P ops Q i K a w := by
  have run : ∀ s1, R X s1 ap w → (∀ d, o.dst = some d → d < s1.nt) → opK P T s1 o Φ → o.wp P a w K Q := by
    intro s1 hR hd hop
    have h1 := opK_sound (P := P) (Q := fun _ _ _ => False) hT hR hd hop
    unfold Oper.wp at h1 ⊢
    rw [hag.exec hsel]
    generalize (execOp ap.eval o).run P w = r at h1
    have fin : ∀ u w', Post X.base Φ (ap.put o.dst u) w' → K (a.put o.dst u) w' := by
      rintro u w' ⟨X', s', g1, g2, g3⟩
      exact hk u X' s' w' g1 g2 g3
    cases r with
    | ok n w' =>
      cases n <;> simp only [Oper.upon] at h1 ⊢
      case value v => exact fin _ _ h1
      case skip => exact fin _ _ h1
      case defer d =>
        obtain ⟨X', s', g1, g2, g3⟩ := h1
        have := g2.df
        exfalso
        cases hd' : o.dst <;> rw [hd'] at this <;> cases this
      case enter f args =>
        refine h1.mono fun e w'' he => ?_
        cases e with
        | returned v => exact fin _ _ he
        | panicked c => exact he.elim
        | outgrown => obtain ⟨_, _, he⟩ := he; exact he.elim
      case row row args => exact h1.mono fun u w'' he => fin _ _ he
    | halt x w' =>
      cases x <;> simp only [Oper.upon] at h1 <;> exact h1.elim
  have skip : ∀ s1, R X s1 ap w → (∀ d, o.dst = some d → d < s1.nt) → Φ (s1.put o.dst (.tup [])) → K (a.put o.dst undef) w :=
    fun s1 hR hd hp => hk undef X _ w rfl (hR.put (tup_nil_rel _ _ _) hd) hp
  unfold wpOp
  simp only [hi]
  rw [hag.wanted]
  unfold stepK at hK
  split at hK
  · rename_i hg
    rw [if_pos (by simp [Region.wanted, hg])]
    exact .inl (run s h hdst hK)
  · rename_i j want hg
    split at hK
    · rename_i dj hj
      have hy := yielded_getD hj ap
      rw [Array.toArray_toList] at hy
      have hv := h.fr dj
      split at hK
      · rename_i g hs
        rw [hs] at hv
        rw [hv.bool_inv] at hy
        by_cases e : g = want
        · rw [if_pos (by simp [Region.wanted, hg, hy, e])]
          exact .inl (run _ (h.reput (by rw [hs, e])) hdst (hK.1 e))
        · rw [if_neg (by simp [Region.wanted, hg, hy, e])]
          have e' : g = !want := by cases g <;> cases want <;> simp_all
          exact skip _ (h.reput (by rw [hs, e'])) hdst (hK.2 e')
      · rename_i hs
        rw [hs] at hv
        obtain ⟨vs, e, hl, _⟩ := hv.tup_inv
        rw [e] at hy
        rw [if_neg (by simp [Region.wanted, hg, hy])]
        exact skip s h hdst hK
      · exact hK.elim
    · exact hK.elim

def cntF : List Bool → Nat
  | [] => 0
  | b :: r => (if b then 0 else 1) + cntF r

theorem cntF_set : ∀ (l : List Bool) (i : Nat), l[i]? = some false → cntF (l.set i true) + 1 = cntF l
  | [], i, h => by simp at h
  | b :: r, 0, h => by
    have : b = false := by simpa using h
    subst this
    simp [cntF]; omega
  | b :: r, i + 1, h => by
    have := cntF_set r i (by simpa using h)
    simp only [List.set_cons_succ, cntF]
    omega

theorem cntF_zero : ∀ (l : List Bool) (i : Nat), cntF l = 0 → l[i]? ≠ some false
  | [], i, _ => by simp
  | b :: r, 0, h => by
    intro e
    have : b = false := by simpa using e
    subst this
    simp [cntF] at h
  | b :: r, i + 1, h => by
    simp only [cntF] at h
    intro e
    exact cntF_zero r i (by omega) (by simpa using e)

section
variable {P : Program} {T : Tab} {B : Base} {ops : Array Oper} {Φ : AState → Prop}

/-- The abstract run and the machine: what is listed, what the abstract run has done, how the two frames and worlds stand. -/
structure DI (P : Program) (T : Tab) (B : Base) (ops : Array Oper) (Φ : AState → Prop) (L : Array Bool) (pre : List Nat) (rest tb : List (Nat × List Nat)) (a : Act) (w : World) (X : Ctx) (s : AState) (ap : Act) (fb : Nat → Nat) : Prop where
  size : L.size = ops.size
  closed : Closed ops (fun i => L.getD i false = true)
  chk : chk T ops tb pre rest = true
  tab : TabGood ops tb pre
  pdeps : ∀ j oj, j ∈ pre → ops[j]? = some oj → ∀ x, x ∈ depsOf oj → x ∈ pre
  ref : Ref X.base B
  rel : R X s ap w
  dfs : a.defers = ap.defers
  tsz : a.tmps.size = ap.tmps.size
  agree : ∀ t, (∀ i o, ops[i]? = some o → o.dst = some t → (i ∈ pre ↔ L.getD i false = true)) → a.tmps.getD t undef = ap.tmps.getD t undef
  run : drawK P T ops.toList Φ rest s
  pend : ∀ i o, i ∈ pre → L.getD i false = false → ops[i]? = some o → stillB o = true ∧ dstOk s o.dst ∧ RE T ops.toList o s
  flo : ∀ i o, i ∉ pre → L.getD i false = true → ops[i]? = some o → floatB T o = true ∧ ∃ k, FRun P o k ap ∧ (∀ d, o.dst = some d → a.tmps.getD d undef = k.mk (fb i)) ∧ ¬ X.base.A (fb i) ∧ B.w0.heap.size ≤ fb i ∧ fb i < X.base.w0.heap.size ∧ X.base.w0.heap[fb i]? = some k.blk
  dis : ∀ i j oi oj, i ∉ pre → L.getD i false = true → ops[i]? = some oi → j ∉ pre → L.getD j false = true → ops[j]? = some oj → fb i = fb j → i = j
  dyn : ∀ y oy, ops[y]? = some oy → dynB oy = true → y ∉ pre → (∀ j, j ∈ depsOf oy → j ∈ pre) → floK T s oy

theorem getD_put (a : Act) (d : Nat) (u : Value) (t : Nat) (hd : d < a.tmps.size) : (a.put (some d) u).tmps.getD t undef = if t = d then u else a.tmps.getD t undef := by
  show (a.tmps.setIfInBounds d u).getD t undef = _
  split
  · rename_i e; subst e; simp [hd]
  · rename_i e
    simp only [Array.getD_eq_getD_getElem?]
    rw [Array.getElem?_setIfInBounds_ne (Ne.symm e)]

theorem FRun.of_agree {o : Oper} {k : FKind} {a ap : Act} (h : FRun P o k ap) (hag : Agree ops o a ap) (hs : ∀ cs b, o.op ≠ .select cs b) : FRun P o k a := fun w => by
  rw [hag.exec hs]; exact h w

theorem dst_lt {o : Oper} {s : AState} (h : dstOk s o.dst) : ∀ d, o.dst = some d → d < s.nt := fun d e => by rw [e] at h; exact h

theorem recheck_mem {ops : List Oper} {s : AState} : ∀ {l : List Nat}, recheck T ops s l → ∀ x o, x ∈ l → ops[x]? = some o → (stillB o = true → RE T ops o s) ∧ (stillB o = false → floK T s o)
  | [], _, x, o, hx, _ => by cases hx
  | y :: r, h, x, o, hx, ho => by
    obtain ⟨h1, h2⟩ := h
    rcases List.mem_cons.1 hx with e | e
    · subst e
      simp only [ho] at h1
      exact ⟨fun e => by simp only [e] at h1; exact h1, fun e => by simp only [e] at h1; exact h1⟩
    · exact recheck_mem h2 x o e ho

theorem toList_get {i : Nat} {o : Oper} (h : ops[i]? = some o) : ops.toList[i]? = some o := by rw [Array.getElem?_toList]; exact h

theorem floK_congr {s t : AState} {o : Oper} (h : floK T s o) (hg : ∀ k, k ∈ o.looksAt ops → t.get k = s.get k) : floK T t o := by
  unfold floK at *
  split at h
  · rename_i ty x y ho
    have e1 : t.ev x = s.ev x := ev_of_get fun k e => hg k (looks_op (by rw [ho]; simp [Op.operands, e]))
    have e2 : t.ev y = s.ev y := ev_of_get fun k e => hg k (looks_op (by rw [ho]; simp [Op.operands, e]))
    rw [e1, e2]; exact h
  · trivial

theorem pdeps_cons {pre re : List Nat} {i : Nat} {rest tb : List (Nat × List Nat)} {o : Oper} (h : ∀ j oj, j ∈ pre → ops[j]? = some oj → ∀ x, x ∈ depsOf oj → x ∈ pre) (hc : Chk T ops tb pre i re rest o) :
    ∀ j oj, j ∈ i :: pre → ops[j]? = some oj → ∀ x, x ∈ depsOf oj → x ∈ i :: pre := by
  intro j oj hj hoj x hx
  rcases List.mem_cons.1 hj with e | e
  · subst e
    rw [hc.get] at hoj; cases hoj
    exact List.mem_cons_of_mem _ (hc.deps x hx)
  · exact List.mem_cons_of_mem _ (h j oj e hoj x hx)

theorem dyn_not_still {o : Oper} (h : dynB o = true) : stillB o = false := by
  unfold dynB at h
  unfold stillB
  split at h <;> simp_all

/-- The abstract run goes on over an operation that turns no block. -/
theorem DI.still (hT : TabOk P T) (hS : Stat T ops) {L : Array Bool} {pre re : List Nat} {i : Nat} {rest tb : List (Nat × List Nat)} {a : Act} {w : World} {X : Ctx} {s : AState} {ap : Act} {fb : Nat → Nat} {o : Oper}
    (h : DI P T B ops Φ L pre ((i, re) :: rest) tb a w X s ap fb) (hc : Chk T ops tb pre i re rest o) (hs : stillB o = true) (hL : L.getD i false = false) :
    ∃ X' s' ap', DI P T B ops Φ L (i :: pre) rest ((i, (anOf tb o).eraseDups) :: tb) a w X' s' ap' fb := by
  obtain ⟨d, hd⟩ := hS.dst i o hc.get hs
  have hrun := h.run
  unfold drawK at hrun
  simp only [toList_get hc.get, hs] at hrun
  obtain ⟨hdn, hrun⟩ := hrun
  have hdn' : d < s.nt := dst_lt hdn d hd
  have hself : d ∉ o.looksAt ops := fun hl => by
    obtain ⟨rk, hrk⟩ := hS.lt
    exact absurd (hrk i o hc.get i (hS.look i i o o d hc.get hc.get hd hl)).1 (Nat.lt_irrefl _)
  obtain ⟨u, X', s', g1, g2, ⟨g3, g4⟩, g5, g6, g7⟩ := still_eval (P := P) hT h.rel hd hdn' hself hrun
  have hsz : d < ap.tmps.size := by rw [h.rel.nt]; exact hdn'
  have hnt : s'.nt = s.nt := by have e1 := g2.nt; have e2 := h.rel.nt; rw [hd] at e1; simp only [Act.put, Array.size_setIfInBounds] at e1; omega
  have hnotin : ∀ j oj, ops[j]? = some oj → j ≠ i → oj.dst ≠ some d := fun j oj hj hne e => hne (hS.ne j i oj o d hj hc.get hd e)
  have hpre : ∀ j, j ∈ i :: pre ↔ j = i ∨ j ∈ pre := fun j => List.mem_cons
  refine ⟨X', s', ap.put o.dst u, h.size, h.closed, hc.next, h.tab.cons hc, pdeps_cons h.pdeps hc, by rw [g1]; exact h.ref, g2, ?_, ?_, ?_, g4, ?_, ?_, ?_, ?_⟩
  · rw [h.dfs]; cases o.dst <;> rfl
  · rw [h.tsz, hd]; simp [Act.put]
  · intro t ht
    have htd : t ≠ d := fun e => by
      have := (ht i o hc.get (by rw [e]; exact hd)).1 ((hpre i).2 (.inl rfl))
      rw [hL] at this; cases this
    rw [hd, getD_put _ _ _ _ hsz, if_neg htd]
    refine h.agree t fun j oj hj hdj => ?_
    have hji : j ≠ i := fun e => by subst e; rw [hc.get] at hj; cases hj; rw [hd] at hdj; cases hdj; exact htd rfl
    rw [← ht j oj hj hdj, hpre]
    exact ⟨.inr, fun e => e.resolve_left hji⟩
  · intro j oj hj hLj hoj
    rcases (hpre j).1 hj with e | e
    · subst e
      rw [hc.get] at hoj; cases hoj
      exact ⟨hs, by rw [hd]; show d < s'.nt; rw [hnt]; exact hdn', g7⟩
    · obtain ⟨q1, q2, q3⟩ := h.pend j oj e hLj hoj
      have hji : j ≠ i := fun e' => hc.new (e' ▸ e)
      refine ⟨q1, ?_, RE_congr (ops := ops) q3 g6 fun k hk => g5 k fun ek => ?_⟩
      · cases hdj : oj.dst with
        | none => trivial
        | some d' => rw [hdj] at q2; show d' < s'.nt; rw [hnt]; exact q2
      · subst ek
        rcases hk with hk | hk
        · -- j looks at i's slot: it waits for i, which is not ahead of it
          have hdep := hS.look j i oj o k hoj hc.get hd hk
          exact absurd (h.pdeps j oj e hoj i hdep) hc.new
        · exact hnotin j oj hoj hji hk
  · intro j oj hj hLj hoj
    have hj' : j ∉ pre := fun e => hj ((hpre j).2 (.inr e))
    obtain ⟨q1, k, q2, q3, q4, q5, q6, q7⟩ := h.flo j oj hj' hLj hoj
    refine ⟨q1, k, ?_, q3, by rw [g1]; exact q4, q5, by rw [g1]; exact q6, by rw [g1]; exact q7⟩
    refine q2.of_agree (ops := ops) (fun k' hk' => ?_) (fun cs b => hS.sel j oj cs b hoj)
    rw [hd, getD_put _ _ _ _ hsz, if_neg]
    intro ek
    subst ek
    have hdep := hS.look j i oj o k' hoj hc.get hd hk'
    have this : L.getD i false = true := h.closed j oj hoj hLj i hdep
    rw [hL] at this; cases this
  · intro x y ox oy hx hLx hox hy hLy hoy e
    exact h.dis x y ox oy (fun e' => hx ((hpre x).2 (.inr e'))) hLx hox (fun e' => hy ((hpre y).2 (.inr e'))) hLy hoy e
  · intro y oy hoy hdy hy hall
    have hy' : y ∉ pre := fun e => hy ((hpre y).2 (.inr e))
    have hyi : y ≠ i := fun e => hy ((hpre y).2 (.inl e))
    have hall' : ∀ j, j ∈ depsOf oy → j = i ∨ j ∈ pre := fun j hj => (hpre j).1 (hall j hj)
    rcases hc.dyn y oy hoy hdy hy' hyi hall' with ⟨_, h2⟩ | h2
    · have hall2 : ∀ j, j ∈ depsOf oy → j ∈ pre := fun j hj => (hall' j hj).resolve_left fun e => h2 (e ▸ hj)
      refine floK_congr (ops := ops) (h.dyn y oy hoy hdy hy' hall2) fun k hk => g5 k fun ek => ?_
      subst ek
      exact h2 (hS.look y i oy o k hoy hc.get hd hk)
    · exact (recheck_mem g3 y oy h2 (toList_get hoy)).2 (dyn_not_still hdy)
end

end Go.Proofs.Yteebkimhfaodnaa

/- Regions that draw their order: the steps, and the law. -/
namespace Go.Proofs.Yteebkimhfaodnaa
open Go Go.RowKit

section
variable {P : Program} {T : Tab} {B : Base} {ops : Array Oper} {Φ : AState → Prop}

theorem stepK_none {ops : List Oper} {o : Oper} {s : AState} {Φ : AState → Prop} (hg : o.guard = none) (h : stepK P T ops o s Φ) : opK P T s o Φ := by
  unfold stepK at h
  simp only [hg] at h
  exact h

/-- The abstract run goes on over an operation that made its block long ago. -/
theorem DI.adopt (hT : TabOk P T) (hS : Stat T ops) {L : Array Bool} {pre re : List Nat} {i : Nat} {rest tb : List (Nat × List Nat)} {a : Act} {w : World} {X : Ctx} {s : AState} {ap : Act} {fb : Nat → Nat} {o : Oper}
    (h : DI P T B ops Φ L pre ((i, re) :: rest) tb a w X s ap fb) (hc : Chk T ops tb pre i re rest o) (hL : L.getD i false = true) :
    ∃ X' s' ap', DI P T B ops Φ L (i :: pre) rest ((i, (anOf tb o).eraseDups) :: tb) a w X' s' ap' fb := by
  obtain ⟨hf, k, q2, q3, q4, q5, q6, q7⟩ := h.flo i o hc.new hL hc.get
  have hs : stillB o = false := by
    cases e : stillB o with
    | false => rfl
    | true => have := still_float (T := T) e; rw [hf] at this; cases this
  have hg : o.guard = none := by
    unfold floatB at hf
    simp only [Bool.and_eq_true] at hf
    simpa using hf.1
  have hrun := h.run
  unfold drawK at hrun
  simp only [toList_get hc.get, hs] at hrun
  obtain ⟨hdn, hrun⟩ := hrun
  have hop := stepK_none hg hrun
  have hnM : ¬ X.base.M0 (fb i) := fun e => q4 (.inr (.inl e))
  have hbw : w.heap[fb i]? = some k.blk := (h.rel.old _ q6 hnM).trans q7
  have hlt : fb i < w.heap.size := Nat.lt_of_lt_of_le q6 h.rel.size
  obtain ⟨X', s', g1, g2, g3, g4⟩ := adopt_float (P := P) hT h.rel (dst_lt hdn) hf hop q2 hlt q4 hbw
  have hnt : s'.nt = s.nt := by
    have e1 := g2.nt; have e2 := h.rel.nt
    cases hd : o.dst <;> rw [hd] at e1 <;> simp only [Act.put, Array.size_setIfInBounds] at e1 <;> omega
  have hpre : ∀ j, j ∈ i :: pre ↔ j = i ∨ j ∈ pre := fun j => List.mem_cons
  have hgd : ∀ t v, (∀ d, o.dst = some d → d ≠ t) → (ap.put o.dst v).tmps.getD t undef = ap.tmps.getD t undef := by
    intro t v ht
    cases hd : o.dst with
    | none => rfl
    | some d => rw [getD_put _ _ _ _ (by rw [h.rel.nt]; exact dst_lt hdn d hd), if_neg (Ne.symm (ht d hd))]
  have hA : ∀ x, x ≠ fb i → ¬ X.base.A x → ¬ X'.base.A x := by
    intro x hx hn
    rw [g1]
    rintro (e | (e | e) | e)
    · exact hn (.inl e)
    · exact hn (.inr (.inl e))
    · exact hx e
    · exact hn (.inr (.inr e))
  refine ⟨X', s', ap.put o.dst (k.mk (fb i)), h.size, h.closed, hc.next, h.tab.cons hc, pdeps_cons h.pdeps hc, by rw [g1]; exact h.ref.grant q5, g2, ?_, ?_, ?_, g4, ?_, ?_, ?_, ?_⟩
  · rw [h.dfs]; cases o.dst <;> rfl
  · rw [h.tsz]; cases o.dst <;> simp [Act.put]
  · intro t ht
    cases hd : o.dst with
    | none =>
      refine h.agree t fun j oj hj hdj => ?_
      rw [← ht j oj hj hdj, hpre]
      refine ⟨.inr, fun e => e.resolve_left fun e => ?_⟩
      subst e; rw [hc.get] at hj; cases hj; rw [hd] at hdj; cases hdj
    | some d =>
      rw [getD_put _ _ _ _ (by rw [h.rel.nt]; exact dst_lt hdn d hd)]
      split
      · rename_i e
        rw [e]; exact q3 d hd
      · rename_i e
        refine h.agree t fun j oj hj hdj => ?_
        rw [← ht j oj hj hdj, hpre]
        refine ⟨.inr, fun e' => e'.resolve_left fun e' => ?_⟩
        subst e'; rw [hc.get] at hj; cases hj; rw [hd] at hdj; cases hdj; exact e rfl
  · intro j oj hj hLj hoj
    rcases (hpre j).1 hj with e | e
    · subst e; rw [hL] at hLj; cases hLj
    · obtain ⟨p1, p2, p3⟩ := h.pend j oj e hLj hoj
      refine ⟨p1, ?_, ?_⟩
      · cases hdj : oj.dst with
        | none => trivial
        | some d' => rw [hdj] at p2; show d' < s'.nt; rw [hnt]; exact p2
      · rcases hc.reck with h1 | h1
        · rw [hs] at h1; cases h1
        · rcases h1 j e with h2 | h2 | h2
          · unfold stillAt at h2; simp only [hoj, p1] at h2; cases h2
          · exact (recheck_mem g3 j oj h2 (toList_get hoj)).1 p1
          · have := anOf_in h.tab hc.deps h.closed (fun x hx => h.closed i o hc.get hL x hx) j h2
            have this : L.getD j false = true := this
            rw [hLj] at this; cases this
  · intro j oj hj hLj hoj
    have hj' : j ∉ pre := fun e => hj ((hpre j).2 (.inr e))
    have hji : j ≠ i := fun e => hj ((hpre j).2 (.inl e))
    obtain ⟨p1, k', p2, p3, p4, p5, p6, p7⟩ := h.flo j oj hj' hLj hoj
    have hne : fb j ≠ fb i := fun e => hji (h.dis j i oj o hj' hLj hoj hc.new hL hc.get e)
    refine ⟨p1, k', ?_, p3, hA _ hne p4, p5, by rw [g1]; exact p6, by rw [g1]; exact p7⟩
    refine p2.of_agree (ops := ops) (fun k'' hk'' => hgd _ _ fun d hd e => ?_) (fun cs b => hS.sel j oj cs b hoj)
    subst e
    obtain ⟨o2, e2, e3⟩ := hS.flo j oj hoj p1 i (hS.look j i oj o d hoj hc.get hd hk'')
    rw [hc.get] at e2; cases e2
    rw [hf] at e3; cases e3
  · intro x y ox oy hx hLx hox hy hLy hoy e
    exact h.dis x y ox oy (fun e' => hx ((hpre x).2 (.inr e'))) hLx hox (fun e' => hy ((hpre y).2 (.inr e'))) hLy hoy e
  · intro y oy hoy hdy hy hall
    have hy' : y ∉ pre := fun e => hy ((hpre y).2 (.inr e))
    have hyi : y ≠ i := fun e => hy ((hpre y).2 (.inl e))
    rcases hc.dyn y oy hoy hdy hy' hyi (fun j hj => (hpre j).1 (hall j hj)) with ⟨h1, _⟩ | h2
    · rw [hs] at h1; cases h1
    · exact (recheck_mem g3 y oy h2 (toList_get hoy)).2 (dyn_not_still hdy)

/-- Everything is listed: the end. -/
theorem DI.finish (hT : TabOk P T) (hS : Stat T ops) {L : Array Bool} {a : Act} {w : World} {fb : Nat → Nat} (hall : ∀ i o, ops[i]? = some o → L.getD i false = true) : ∀ (rest : List (Nat × List Nat)) (pre : List Nat) (tb : List (Nat × List Nat)) (X : Ctx) (s : AState) (ap : Act),
    DI P T B ops Φ L pre rest tb a w X s ap fb → Post B Φ a w
  | [], pre, tb, X, s, ap, h => by
    have hc := h.chk
    unfold chk at hc
    have hp : ∀ i o, ops[i]? = some o → i ∈ pre := fun i o ho => by simpa using List.all_eq_true.1 hc i (List.mem_range.2 (lt_of_get ho))
    have e : a = ap := by
      have h1 : a.tmps = ap.tmps := by
        apply Array.ext
        · exact h.tsz
        · intro t h1 h2
          have := h.agree t fun i o hi _ => ⟨fun _ => hall i o hi, fun _ => hp i o hi⟩
          simpa [h1, h2] using this
      have h2 := h.dfs
      cases a; cases ap
      simp_all
    rw [e]
    have hr := h.run
    unfold drawK at hr
    exact ⟨_, s, rfl, h.rel.rebase h.ref, hr⟩
  | (i, re) :: rest, pre, tb, X, s, ap, h => by
    obtain ⟨o, hc⟩ := chk_cons h.chk
    obtain ⟨X', s', ap', h'⟩ := h.adopt hT hS hc (hall i o hc.get)
    exact DI.finish hT hS hall rest _ _ X' s' ap' h'

/-- The abstract run goes on up to an operation that may be done now. -/
theorem DI.reach (hT : TabOk P T) (hS : Stat T ops) {L : Array Bool} {a : Act} {w : World} {fb : Nat → Nat} {i : Nat} {o : Oper} (hi : ops[i]? = some o) (hf : floatB T o = false) (hd : ∀ j, j ∈ depsOf o → L.getD j false = true) :
    ∀ (rest : List (Nat × List Nat)) (pre : List Nat) (tb : List (Nat × List Nat)) (X : Ctx) (s : AState) (ap : Act), i ∉ pre → DI P T B ops Φ L pre rest tb a w X s ap fb →
    ∃ re rest' pre' tb' X' s' ap', i ∉ pre' ∧ DI P T B ops Φ L pre' ((i, re) :: rest') tb' a w X' s' ap' fb
  | [], pre, tb, X, s, ap, hn, h => by
    have hc := h.chk
    unfold chk at hc
    exact absurd (by simpa using List.all_eq_true.1 hc i (List.mem_range.2 (lt_of_get hi))) hn
  | (k, re) :: rest, pre, tb, X, s, ap, hn, h => by
    by_cases e : k = i
    · subst e
      exact ⟨re, rest, pre, tb, X, s, ap, hn, h⟩
    · obtain ⟨ok, hc⟩ := chk_cons h.chk
      have hn' : i ∉ k :: pre := fun hm => by
        rcases List.mem_cons.1 hm with e' | e'
        · exact e e'.symm
        · exact hn e'
      have hmem : ∃ re', (i, re') ∈ rest := by
        rcases chk_mem _ _ _ h.chk i (lt_of_get hi) with h1 | ⟨re', h1⟩
        · exact absurd h1 hn
        · rcases List.mem_cons.1 h1 with e' | e'
          · cases e'; exact absurd rfl e
          · exact ⟨re', e'⟩
      obtain ⟨re', hmem⟩ := hmem
      cases hs : stillB ok with
      | true =>
        have hLk : L.getD k false = false := by
          cases e' : L.getD k false with
          | false => rfl
          | true =>
            obtain ⟨h1, _⟩ := h.flo k ok hc.new e' hc.get
            rw [still_float hs] at h1; cases h1
        obtain ⟨X', s', ap', h'⟩ := h.still hT hS hc hs hLk
        exact DI.reach hT hS hi hf hd rest _ _ X' s' ap' hn' h'
      | false =>
        have hLk : L.getD k false = true :=
          chk_anc rest _ _ hc.next (h.tab.cons hc) i re' o hmem hi hf k (by simp) (by unfold stillAt; simp only [hc.get, hs]) (fun x => L.getD x false = true) h.closed hd
        obtain ⟨X', s', ap', h'⟩ := h.adopt hT hS hc hLk
        exact DI.reach hT hS hi hf hd rest _ _ X' s' ap' hn' h'

theorem getD_set {L : Array Bool} {i j : Nat} (hi : i < L.size) : (L.setIfInBounds i true).getD j false = if j = i then true else L.getD j false := by
  split
  · rename_i e; subst e; simp [hi]
  · rename_i e; exact getD_set_ne false (Ne.symm e)

theorem Closed.set {L : Array Bool} {i : Nat} {o : Oper} (h : Closed ops (fun i => L.getD i false = true)) (hsz : i < L.size) (hi : ops[i]? = some o) (hd : ∀ j, j ∈ depsOf o → L.getD j false = true) : Closed ops (fun j => (L.setIfInBounds i true).getD j false = true) := by
  intro j oj hj hL x hx
  have hL : (L.setIfInBounds i true).getD j false = true := hL
  show (L.setIfInBounds i true).getD x false = true
  rw [getD_set hsz] at hL ⊢
  split
  · rfl
  · split at hL
    · rename_i e; subst e
      rw [hi] at hj; cases hj
      exact hd x hx
    · exact h j oj hj hL x hx

/-- One that stood out is done: it stands out no more. -/
theorem DI.pend_done (hS : Stat T ops) {L : Array Bool} {pre : List Nat} {i : Nat} {rest tb : List (Nat × List Nat)} {a : Act} {w : World} {X X' : Ctx} {s : AState} {ap : Act} {fb : Nat → Nat} {o : Oper} {d : Nat} {u : Value}
    (h : DI P T B ops Φ L pre rest tb a w X s ap fb) (hi : ops[i]? = some o) (hip : i ∈ pre) (hL : L.getD i false = false) (hdeps : ∀ j, j ∈ depsOf o → L.getD j false = true) (hd : o.dst = some d) (hdn : d < s.nt) (hX : X'.base = X.base) (hR : R X' s (ap.put o.dst u) w) :
    DI P T B ops Φ (L.setIfInBounds i true) pre rest tb (a.put o.dst u) w X' s (ap.put o.dst u) fb := by
  have hsz : i < L.size := by rw [h.size]; exact lt_of_get hi
  have hsa : d < a.tmps.size := by rw [h.tsz, h.rel.nt]; exact hdn
  have hsp : d < ap.tmps.size := by rw [h.rel.nt]; exact hdn
  have hset : ∀ j, j ≠ i → (L.setIfInBounds i true).getD j false = L.getD j false := fun j e => by rw [getD_set hsz, if_neg e]
  refine ⟨by rw [Array.size_setIfInBounds]; exact h.size, h.closed.set hsz hi hdeps, h.chk, h.tab, h.pdeps, by rw [hX]; exact h.ref, hR, ?_, ?_, ?_, h.run, ?_, ?_, ?_, h.dyn⟩
  · rw [hd]; exact h.dfs
  · rw [hd]; simp [Act.put, h.tsz]
  · intro t ht
    rw [hd, getD_put _ _ _ _ hsa, getD_put _ _ _ _ hsp]
    split
    · rfl
    · rename_i e
      refine h.agree t fun j oj hj hdj => ?_
      have hji : j ≠ i := fun e' => by subst e'; rw [hi] at hj; cases hj; rw [hd] at hdj; cases hdj; exact e rfl
      rw [ht j oj hj hdj, hset j hji]
  · intro j oj hj hLj hoj
    have hji : j ≠ i := fun e => by subst e; rw [getD_set hsz, if_pos rfl] at hLj; cases hLj
    rw [hset j hji] at hLj
    exact h.pend j oj hj hLj hoj
  · intro j oj hj hLj hoj
    have hji : j ≠ i := fun e => hj (e ▸ hip)
    rw [hset j hji] at hLj
    obtain ⟨p1, k', p2, p3, p4, p5, p6, p7⟩ := h.flo j oj hj hLj hoj
    refine ⟨p1, k', ?_, fun d' hd' => ?_, by rw [hX]; exact p4, p5, by rw [hX]; exact p6, by rw [hX]; exact p7⟩
    · refine p2.of_agree (ops := ops) (fun k'' hk'' => ?_) (fun cs b => hS.sel j oj cs b hoj)
      rw [hd, getD_put _ _ _ _ hsp, if_neg]
      intro e
      subst e
      have : L.getD i false = true := h.closed j oj hoj hLj i (hS.look j i oj o k'' hoj hi hd hk'')
      rw [hL] at this; cases this
    · rw [hd, getD_put _ _ _ _ hsa, if_neg]
      · exact p3 d' hd'
      · intro e
        subst e
        exact hji (hS.ne j i oj o d' hoj hi hd hd')
  · intro x y ox oy hx hLx hox hy hLy hoy e
    have hxi : x ≠ i := fun e => hx (e ▸ hip)
    have hyi : y ≠ i := fun e => hy (e ▸ hip)
    rw [hset x hxi] at hLx
    rw [hset y hyi] at hLy
    exact h.dis x y ox oy hx hLx hox hy hLy hoy e

/-- One that makes a block is done ahead of the abstract run. -/
theorem DI.float_done (hS : Stat T ops) {L : Array Bool} {pre : List Nat} {i : Nat} {rest tb : List (Nat × List Nat)} {a : Act} {w : World} {X : Ctx} {s : AState} {ap : Act} {fb : Nat → Nat} {o : Oper} {k : FKind}
    (h : DI P T B ops Φ L pre rest tb a w X s ap fb) (hi : ops[i]? = some o) (hip : i ∉ pre) (hL : L.getD i false = false) (hdeps : ∀ j, j ∈ depsOf o → L.getD j false = true) (hdn : ∀ d, o.dst = some d → d < s.nt) (hf : floatB T o = true) (hk : FRun P o k ap) :
    ∃ X' fb', DI P T B ops Φ (L.setIfInBounds i true) pre rest tb (a.put o.dst (k.mk w.heap.size)) (w.alloc k.blk) X' s ap fb' := by
  have hsz : i < L.size := by rw [h.size]; exact lt_of_get hi
  have hset : ∀ j, j ≠ i → (L.setIfInBounds i true).getD j false = L.getD j false := fun j e => by rw [getD_set hsz, if_neg e]
  have hw : (w.alloc k.blk).heap.size = w.heap.size + 1 := by simp
  have hold : ∀ x, x < w.heap.size → (w.alloc k.blk).heap[x]? = w.heap[x]? := fun x hx => Below.heap_alloc w _ x hx
  obtain ⟨hR, hRef⟩ := h.rel.now (w' := w.alloc k.blk) rfl rfl rfl (by omega) hold
  have hsa : ∀ d, o.dst = some d → d < a.tmps.size := fun d e => by rw [h.tsz, h.rel.nt]; exact hdn d e
  have hgd : ∀ t v, (∀ d, o.dst = some d → d ≠ t) → (a.put o.dst v).tmps.getD t undef = a.tmps.getD t undef := by
    intro t v ht
    cases hd : o.dst with
    | none => rfl
    | some d => rw [getD_put _ _ _ _ (hsa d hd), if_neg (Ne.symm (ht d hd))]
  have hbs : B.w0.heap.size ≤ w.heap.size := Nat.le_trans h.ref.size h.rel.size
  refine ⟨_, fun j => if j = i then w.heap.size else fb j, by rw [Array.size_setIfInBounds]; exact h.size, h.closed.set hsz hi hdeps, h.chk, h.tab, h.pdeps, hRef.trans h.ref, hR, ?_, ?_, ?_, h.run, ?_, ?_, ?_, h.dyn⟩
  · rw [← h.dfs]; cases o.dst <;> rfl
  · rw [← h.tsz]; cases o.dst <;> simp [Act.put]
  · intro t ht
    have htd : ∀ d, o.dst = some d → d ≠ t := fun d hd e => by
      subst e
      have := (ht i o hi hd).2 (by rw [getD_set hsz, if_pos rfl])
      exact hip this
    rw [hgd t _ htd]
    refine h.agree t fun j oj hj hdj => ?_
    have hji : j ≠ i := fun e' => by subst e'; rw [hi] at hj; cases hj; exact htd t hdj rfl
    rw [ht j oj hj hdj, hset j hji]
  · intro j oj hj hLj hoj
    have hji : j ≠ i := fun e => hip (e ▸ hj)
    rw [hset j hji] at hLj
    exact h.pend j oj hj hLj hoj
  · intro j oj hj hLj hoj
    by_cases hji : j = i
    · subst hji
      rw [hi] at hoj; cases hoj
      refine ⟨hf, k, hk, fun d hd => ?_, ?_, ?_, ?_, ?_⟩
      · rw [hd, getD_put _ _ _ _ (hsa d hd), if_pos rfl]; simp only [if_true]
      · simp only [if_true]
        rintro (⟨_, e⟩ | ⟨id, e⟩ | e)
        · exact Nat.lt_irrefl _ e
        · exact Nat.lt_irrefl _ (h.rel.ow _ id e).1
        · have e : (w.alloc k.blk).heap.size ≤ w.heap.size := e
          omega
      · simp only [if_true]; exact hbs
      · simp only [if_true]; show w.heap.size < (w.alloc k.blk).heap.size; omega
      · simp only [if_true]; exact heap_alloc_new w _
    · rw [hset j hji] at hLj
      obtain ⟨p1, k', p2, p3, p4, p5, p6, p7⟩ := h.flo j oj hj hLj hoj
      have hnM : ¬ X.base.M0 (fb j) := fun e => p4 (.inr (.inl e))
      have hlt : fb j < w.heap.size := Nat.lt_of_lt_of_le p6 h.rel.size
      refine ⟨p1, k', p2, fun d' hd' => ?_, ?_, ?_, ?_, ?_⟩
      · rw [hgd d' _ (fun d hd e => hji (hS.ne j i oj o d' hoj hi (e ▸ hd) hd'))]
        simp only [hji, if_false]
        exact p3 d' hd'
      · simp only [hji, if_false]
        rintro (⟨e, _⟩ | ⟨id, e⟩ | e)
        · exact p4 e.2
        · exact p4 (h.rel.ownA e)
        · have e : (w.alloc k.blk).heap.size ≤ fb j := e
          omega
      · simp only [hji, if_false]; exact p5
      · simp only [hji, if_false]; show fb j < (w.alloc k.blk).heap.size; omega
      · simp only [hji, if_false]
        exact (hold _ hlt).trans ((h.rel.old _ p6 hnM).trans p7)
  · have hlt : ∀ j oj, j ≠ i → j ∉ pre → (L.setIfInBounds i true).getD j false = true → ops[j]? = some oj → fb j < w.heap.size := by
      intro j oj hji hj hLj hoj
      rw [hset j hji] at hLj
      obtain ⟨_, _, _, _, _, _, p6, _⟩ := h.flo j oj hj hLj hoj
      exact Nat.lt_of_lt_of_le p6 h.rel.size
    intro x y ox oy hx hLx hox hy hLy hoy e
    by_cases hxi : x = i
    · by_cases hyi : y = i
      · rw [hxi, hyi]
      · simp only [hxi, hyi, if_true, if_false] at e
        have := hlt y oy hyi hy hLy hoy
        omega
    · by_cases hyi : y = i
      · simp only [hxi, hyi, if_true, if_false] at e
        have := hlt x ox hxi hx hLx hox
        omega
      · simp only [hxi, hyi, if_false] at e
        rw [hset x hxi] at hLx
        rw [hset y hyi] at hLy
        exact h.dis x y ox oy hx hLx hox hy hLy hoy e

/-- One of another kind is done, the abstract run along with it. -/
theorem DI.both (hS : Stat T ops) {L : Array Bool} {pre re : List Nat} {i : Nat} {rest tb : List (Nat × List Nat)} {a : Act} {w w' : World} {X X' : Ctx} {s s' : AState} {ap : Act} {fb : Nat → Nat} {o : Oper} {u : Value}
    (h : DI P T B ops Φ L pre ((i, re) :: rest) tb a w X s ap fb) (hc : Chk T ops tb pre i re rest o) (hs : stillB o = false) (hL : L.getD i false = false) (hdeps : ∀ j, j ∈ depsOf o → L.getD j false = true) (hdn : ∀ d, o.dst = some d → d < s.nt)
    (hX : X'.base = X.base) (hR : R X' s' (ap.put o.dst u) w') (hre : recheck T ops.toList s' re) (hrun : drawK P T ops.toList Φ rest s') :
    DI P T B ops Φ (L.setIfInBounds i true) (i :: pre) rest ((i, (anOf tb o).eraseDups) :: tb) (a.put o.dst u) w' X' s' (ap.put o.dst u) fb := by
  have hi := hc.get
  have hsz : i < L.size := by rw [h.size]; exact lt_of_get hi
  have hset : ∀ j, j ≠ i → (L.setIfInBounds i true).getD j false = L.getD j false := fun j e => by rw [getD_set hsz, if_neg e]
  have hsa : ∀ d, o.dst = some d → d < a.tmps.size := fun d e => by rw [h.tsz, h.rel.nt]; exact hdn d e
  have hsp : ∀ d, o.dst = some d → d < ap.tmps.size := fun d e => by rw [h.rel.nt]; exact hdn d e
  have hgd : ∀ (b : Act) t v, (∀ d, o.dst = some d → d < b.tmps.size) → (∀ d, o.dst = some d → d ≠ t) → (b.put o.dst v).tmps.getD t undef = b.tmps.getD t undef := by
    intro b t v hb ht
    cases hd : o.dst with
    | none => rfl
    | some d => rw [getD_put _ _ _ _ (hb d hd), if_neg (Ne.symm (ht d hd))]
  have hnt : s'.nt = s.nt := by
    have e1 := hR.nt; have e2 := h.rel.nt
    cases hd : o.dst <;> rw [hd] at e1 <;> simp only [Act.put, Array.size_setIfInBounds] at e1 <;> omega
  have hpre : ∀ j, j ∈ i :: pre ↔ j = i ∨ j ∈ pre := fun j => List.mem_cons
  refine ⟨by rw [Array.size_setIfInBounds]; exact h.size, h.closed.set hsz hi hdeps, hc.next, h.tab.cons hc, pdeps_cons h.pdeps hc, by rw [hX]; exact h.ref, hR, ?_, ?_, ?_, hrun, ?_, ?_, ?_, ?_⟩
  · have := h.dfs
    cases o.dst <;> exact this
  · have := h.tsz
    cases o.dst <;> simp [Act.put, this]
  · intro t ht
    by_cases htd : ∃ d, o.dst = some d ∧ d = t
    · obtain ⟨d, hd, rfl⟩ := htd
      rw [hd, getD_put _ _ _ _ (hsa d hd), getD_put _ _ _ _ (hsp d hd), if_pos rfl, if_pos rfl]
    · have htd' : ∀ d, o.dst = some d → d ≠ t := fun d hd e => htd ⟨d, hd, e⟩
      rw [hgd a t _ hsa htd', hgd ap t _ hsp htd']
      refine h.agree t fun j oj hj hdj => ?_
      have hji : j ≠ i := fun e' => by subst e'; rw [hi] at hj; cases hj; exact htd' t hdj rfl
      have := ht j oj hj hdj
      rw [hset j hji, hpre] at this
      rw [← this]
      exact ⟨.inr, fun e => e.resolve_left hji⟩
  · intro j oj hj hLj hoj
    have hji : j ≠ i := fun e => by subst e; rw [getD_set hsz, if_pos rfl] at hLj; cases hLj
    rw [hset j hji] at hLj
    have hj' := ((hpre j).1 hj).resolve_left hji
    obtain ⟨p1, p2, p3⟩ := h.pend j oj hj' hLj hoj
    refine ⟨p1, ?_, ?_⟩
    · cases hdj : oj.dst with
      | none => trivial
      | some d' => rw [hdj] at p2; show d' < s'.nt; rw [hnt]; exact p2
    · rcases hc.reck with h1 | h1
      · rw [hs] at h1; cases h1
      · rcases h1 j hj' with h2 | h2 | h2
        · unfold stillAt at h2; simp only [hoj, p1] at h2; cases h2
        · exact (recheck_mem hre j oj h2 (toList_get hoj)).1 p1
        · have : L.getD j false = true := anOf_in h.tab hc.deps h.closed hdeps j h2
          rw [hLj] at this; cases this
  · intro j oj hj hLj hoj
    have hji : j ≠ i := fun e => hj ((hpre j).2 (.inl e))
    have hj' : j ∉ pre := fun e => hj ((hpre j).2 (.inr e))
    rw [hset j hji] at hLj
    obtain ⟨p1, k', p2, p3, p4, p5, p6, p7⟩ := h.flo j oj hj' hLj hoj
    refine ⟨p1, k', ?_, fun d' hd' => ?_, by rw [hX]; exact p4, p5, by rw [hX]; exact p6, by rw [hX]; exact p7⟩
    · refine p2.of_agree (ops := ops) (fun k'' hk'' => hgd ap _ _ hsp fun d hd e => ?_) (fun cs b => hS.sel j oj cs b hoj)
      subst e
      have : L.getD i false = true := h.closed j oj hoj hLj i (hS.look j i oj o d hoj hi hd hk'')
      rw [hL] at this; cases this
    · rw [hgd a d' _ hsa (fun d hd e => hji (hS.ne j i oj o d' hoj hi (e ▸ hd) hd'))]
      exact p3 d' hd'
  · intro x y ox oy hx hLx hox hy hLy hoy e
    have hxi : x ≠ i := fun e => hx ((hpre x).2 (.inl e))
    have hyi : y ≠ i := fun e => hy ((hpre y).2 (.inl e))
    rw [hset x hxi] at hLx
    rw [hset y hyi] at hLy
    exact h.dis x y ox oy (fun e' => hx ((hpre x).2 (.inr e'))) hLx hox (fun e' => hy ((hpre y).2 (.inr e'))) hLy hoy e
  · intro y oy hoy hdy hy hall
    have hy' : y ∉ pre := fun e => hy ((hpre y).2 (.inr e))
    have hyi : y ≠ i := fun e => hy ((hpre y).2 (.inl e))
    rcases hc.dyn y oy hoy hdy hy' hyi (fun j hj => (hpre j).1 (hall j hj)) with ⟨h1, _⟩ | h2
    · rw [hs] at h1; cases h1
    · exact (recheck_mem hre y oy h2 (toList_get hoy)).2 (dyn_not_still hdy)

end

end Go.Proofs.Yteebkimhfaodnaa

/- Regions that draw their order: one run serves for every order. -/
namespace Go.Proofs.Yteebkimhfaodnaa
open Go Go.RowKit

section
variable {P : Program} {T : Tab} {B : Base} {ops : Array Oper}

theorem deps_ready {L : Array Bool} {i : Nat} (h : i ∈ Region.ready .any ops L) : L.getD i true = false ∧ ∃ o, ops[i]? = some o ∧ ∀ j, j ∈ depsOf o → L.getD j false = true := by
  obtain ⟨h1, o, h2, h3⟩ := mem_ready.1 h
  refine ⟨h1, o, h2, fun j hj => ?_⟩
  unfold depsOf at hj
  obtain ⟨e, he, rfl⟩ := List.mem_map.1 hj
  rw [List.mem_filter] at he
  exact h3 e (by simpa using he.1) he.2

theorem unlisted {L : Array Bool} {i : Nat} (h : L.getD i true = false) : i < L.size ∧ L.getD i false = false ∧ L.toList[i]? = some false := by
  rcases Nat.lt_or_ge i L.size with h' | h'
  · simp [h'] at h ⊢; exact h
  · simp [Array.getElem?_eq_none h'] at h

theorem cnt_set {L : Array Bool} {i : Nat} (h : L.toList[i]? = some false) : cntF (L.setIfInBounds i true).toList + 1 = cntF L.toList := by
  rw [Array.toList_setIfInBounds]
  exact cntF_set _ _ h

theorem draw_any (hT : TabOk P T) (hS : Stat T ops) {Kx : Exit → AState → Prop} : ∀ (fuel : Nat) (L : Array Bool) (pre : List Nat) (rest tb : List (Nat × List Nat)) (a : Act) (w : World) (X : Ctx) (s : AState) (ap : Act) (fb : Nat → Nat),
    DI P T B ops (Kx .normal) L pre rest tb a w X s ap fb → (∀ (i : Nat) (o : Oper) (d : Nat), ops[i]? = some o → o.dst = some d → d < a.tmps.size) → cntF L.toList ≤ fuel → wpAny P .any ops (fun e a w => Post B (Kx e) a w) fuel L a w := by
  have fin : ∀ (L : Array Bool) (pre : List Nat) (rest tb : List (Nat × List Nat)) (a : Act) (w : World) (X : Ctx) (s : AState) (ap : Act) (fb : Nat → Nat), DI P T B ops (Kx .normal) L pre rest tb a w X s ap fb → Region.ready .any ops L = [] → Post B (Kx .normal) a w := by
    intro L pre rest tb a w X s ap fb h hr
    obtain ⟨rk, hrk⟩ := hS.lt
    have hall' : ∀ n i o, rk i = n → ops[i]? = some o → L.getD i false = true := by
      intro n
      induction n using Nat.strongRecOn with
      | _ n ih =>
        intro i o hn ho
        cases e : L.getD i false with
        | true => rfl
        | false =>
          exfalso
          have hmem : i ∈ Region.ready .any ops L := by
            rw [mem_ready]
            refine ⟨getD_in (by rw [h.size]; exact lt_of_get ho) e, o, ho, fun ed hed hb => ?_⟩
            have hdep : ed.on ∈ depsOf o := by
              unfold depsOf
              exact List.mem_map.2 ⟨ed, List.mem_filter.2 ⟨by simpa using hed, hb⟩, rfl⟩
            obtain ⟨hlt, hin⟩ := hrk i o ho _ hdep
            exact ih _ (by rw [← hn]; exact hlt) ed.on ops[ed.on] rfl (Array.getElem?_eq_getElem hin)
          rw [hr] at hmem
          cases hmem
    have hall : ∀ i o, ops[i]? = some o → L.getD i false = true := fun i o ho => hall' _ i o rfl ho
    exact h.finish hT hS hall
  intro fuel
  induction fuel with
  | zero =>
    intro L pre rest tb a w X s ap fb h hN hc
    have hr : Region.ready .any ops L = [] := by
      cases e : Region.ready .any ops L with
      | nil => rfl
      | cons i r =>
        exfalso
        obtain ⟨h1, _⟩ := deps_ready (ops := ops) (L := L) (i := i) (by rw [e]; simp)
        exact cntF_zero _ i (by omega) (unlisted h1).2.2
    exact ⟨hr, fin _ _ _ _ _ _ _ _ _ _ h hr⟩
  | succ fuel ih =>
    intro L pre rest tb a w X s ap fb h hN hc
    refine ⟨fin _ _ _ _ _ _ _ _ _ _ h, fun i hi => ?_⟩
    obtain ⟨h1, o, ho, hd⟩ := deps_ready hi
    obtain ⟨hsz, hLf, hLn⟩ := unlisted h1
    have hcnt : cntF (L.setIfInBounds i true).toList ≤ fuel := by have := cnt_set hLn; omega
    have hN' : ∀ u, ∀ (j : Nat) (oj : Oper) (d : Nat), ops[j]? = some oj → oj.dst = some d → d < (a.put o.dst u).tmps.size := by
      intro u j oj d hj hdj
      have := hN j oj d hj hdj
      cases o.dst <;> simpa [Act.put] using this
    have hsel : ∀ cs b, o.op ≠ .select cs b := fun cs b => hS.sel i o cs b ho
    -- the deps lie in pre, unless they are floats
    have hagree : ∀ (pre : List Nat) (rest tb : List (Nat × List Nat)) (X : Ctx) (s : AState) (ap : Act) (fb : Nat → Nat), DI P T B ops (Kx .normal) L pre rest tb a w X s ap fb → (∀ j, j ∈ depsOf o → j ∈ pre) → Agree ops o a ap := by
      intro pre rest tb X s ap fb h hp k hk
      refine h.agree k fun j oj hj hdj => ?_
      have hdep := hS.look i j o oj k ho hj hdj hk
      exact ⟨fun _ => hd j hdep, fun _ => hp j hdep⟩
    have pendc : ∀ (pre : List Nat) (rest tb : List (Nat × List Nat)) (X : Ctx) (s : AState) (ap : Act) (fb : Nat → Nat), DI P T B ops (Kx .normal) L pre rest tb a w X s ap fb → i ∈ pre → wpOp P ops (fun e a w => Post B (Kx e) a w) i (wpAny P .any ops (fun e a w => Post B (Kx e) a w) fuel (L.setIfInBounds i true)) a w := by
      intro pre rest tb X s ap fb h hip
      obtain ⟨q1, q2, q3⟩ := h.pend i o hip hLf ho
      obtain ⟨d, hdst⟩ := hS.dst i o ho q1
      refine pend_exec hT ho hsel h.rel hdst (dst_lt q2 d hdst) (hagree pre rest tb X s ap fb h (h.pdeps i o hip ho)) q3 fun u X' hX hR => ?_
      exact ih _ _ _ _ _ _ _ _ _ _ (h.pend_done hS ho hip hLf hd hdst (dst_lt q2 d hdst) hX hR) (hN' u) hcnt
    by_cases hip : i ∈ pre
    · exact pendc pre rest tb X s ap fb h hip
    · cases hf : floatB T o with
      | true =>
        have hp : ∀ j, j ∈ depsOf o → j ∈ pre := by
          intro j hj
          apply Classical.byContradiction
          intro hn
          obtain ⟨oj, hoj, hfj⟩ := hS.flo i o ho hf j hj
          obtain ⟨q1, _⟩ := h.flo j oj hn (hd j hj) hoj
          rw [hfj] at q1; cases q1
        have hk : ∃ k, FRun P o k ap := by
          have hf' := hf
          unfold floatB at hf'
          simp only [Bool.and_eq_true, Bool.or_eq_true] at hf'
          rcases hf'.2 with e | e
          · obtain ⟨k, hk⟩ := stat_run (P := P) hT e
            exact ⟨k, hk ap⟩
          · exact dyn_run hT h.rel e (h.dyn i o ho e hip hp)
        obtain ⟨k, hk⟩ := hk
        have hka := hk.of_agree (hagree pre rest tb X s ap fb h hp) hsel
        have hdn : ∀ d, o.dst = some d → d < s.nt := fun d hd' => by rw [← h.rel.nt, ← h.tsz]; exact hN i o d ho hd'
        obtain ⟨X', fb', h'⟩ := h.float_done hS ho hip hLf hd hdn hf hk
        unfold wpOp
        simp only [ho]
        have hg : o.guard = none := by
          unfold floatB at hf
          simp only [Bool.and_eq_true] at hf
          simpa using hf.1
        rw [if_pos (by simp [Region.wanted, hg])]
        refine .inl ?_
        unfold Oper.wp
        rw [hka w]
        exact ih _ _ _ _ _ _ _ _ _ _ h' (hN' _) hcnt
      | false =>
        obtain ⟨re, rest', pre', tb', X', s', ap', hip', h'⟩ := h.reach hT hS ho hf hd rest pre tb X s ap hip
        obtain ⟨o', hck⟩ := chk_cons h'.chk
        have : o' = o := Option.some.inj (hck.get.symm.trans ho)
        subst this
        cases hs : stillB o' with
        | true =>
          obtain ⟨X2, s2, ap2, h2⟩ := h'.still hT hS hck hs hLf
          exact pendc _ _ _ _ _ _ _ h2 (by simp)
        | false =>
          have hrun := h'.run
          unfold drawK at hrun
          simp only [toList_get ho, hs] at hrun
          obtain ⟨hdk, hrun⟩ := hrun
          refine step_exec hT ho hsel h'.rel (dst_lt hdk) (hagree pre' _ tb' X' s' ap' fb h' hck.deps) hrun fun u X2 s2 w2 hX hR hΦ => ?_
          exact ih _ _ _ _ _ _ _ _ _ _ (h'.both hS hck hs hLf hd (dst_lt hdk) hX hR hΦ.1 hΦ.2) (hN' u) hcnt

def drawOkS (sw : Nat → Nat) (T : Tab) (ops : Array Oper) (n : Nat) (ord : List (Nat × List Nat)) : Bool :=
  stat sw T ops && (ops.all fun o => match o.dst with | some d => decide (d < n) | none => true) && chk T ops [] [] ord

def drawOk (T : Tab) (ops : Array Oper) (n : Nat) (ord : List (Nat × List Nat)) : Bool := drawOkS (rkS (0, 0)) T ops n ord

/-- A region that draws its order. -/
theorem semL_draw (hT : TabOk P T) {Kx : Exit → AState → Prop} {s : AState} {id n : Nat} {ord : List (Nat × List Nat)} (hm : P.follows .mixedOrders = true) (hn : s.nt = n) (hk : drawOk T ops n ord = true)
    (h : drawK P T ops.toList (Kx .normal) ord s) : @SemL P B (.region id ops true) s ⟨Kx⟩ := by
  intro X a w hXB hR
  unfold drawOk drawOkS at hk
  simp only [Bool.and_eq_true] at hk
  obtain ⟨⟨h1, h2⟩, h3⟩ := hk
  have hS := stat_spec h1
  have hdst : ∀ (i : Nat) (o : Oper) (d : Nat), ops[i]? = some o → o.dst = some d → d < a.tmps.size := by
    intro i o d hi hd
    have := Array.all_eq_true_iff_forall_mem.1 h2 o (Array.mem_of_getElem? hi)
    rw [hd] at this
    rw [hR.nt, hn]
    simpa using this
  have hfalse : ∀ i, (Array.replicate ops.size false).getD i false = false := fun i => getD_replicate_false _ i
  refine wp_region_any hm (draw_any hT hS ops.size (Array.replicate ops.size false) [] ord [] a { w with drawn := w.drawn + 1 } X s a (fun _ => 0) ?_ hdst ?_)
  · refine ⟨by simp, fun j oj _ hj => ?_, h3, fun k hk => (by cases hk), fun j oj hj => (by cases hj), by rw [hXB]; exact Ref.refl B, hR.drawn, rfl, rfl, fun _ _ => rfl, h, fun i o hi => (by cases hi), fun i o _ hL => ?_, fun i j oi oj _ hL => ?_, fun y oy hoy hdy _ hall => ?_⟩
    · have hj : (Array.replicate ops.size false).getD j false = true := hj
      rw [hfalse] at hj; cases hj
    · rw [hfalse] at hL; cases hL
    · rw [hfalse] at hL; cases hL
    · obtain ⟨j, hj⟩ := hS.dyn y oy hoy hdy
      cases hall j hj
  · rw [Array.toList_replicate]
    generalize ops.size = m
    induction m with
    | zero => exact Nat.le_refl _
    | succ m ih => rw [List.replicate_succ]; simp only [cntF]; simp; omega

end

end Go.Proofs.Yteebkimhfaodnaa

/- Ghost steps: a slice that is nil gets a row of its own; two operations whose order is open, one after the other. -/
namespace Go.Proofs.Yteebkimhfaodnaa
open Go Go.RowKit

theorem VRel.nil_inv {X : Ctx} {kd : Nat → Kd} {w : World} {v : Value} (hv : VRel X kd w v (.sl (some false) [])) : v = .slice none 0 0 := by
  have hr := hv.sl_inv
  generalize hb : AV.sl (some false) [] = bb at hr
  cases hr with
  | nil nn hn => rfl
  | empty a cap nn hn => cases hb; exact absurd rfl hn
  | slice b o cap sz nn es f hn => cases hb; exact absurd rfl hn
  | _ => cases hb

/-- A slot that holds the nil slice: it may stand for an own row. -/
theorem semL_nil {P : Program} {B : Base} {c : Code} {s : AState} [K : Kont (Exit → AState → Prop)] (i id sz : Nat) (own : Bool) (h1 : s.get i = .sl (some false) []) (h2 : s.blk id = .none) (h3 : nF id) (h4 : 0 < sz)
    (h : @SemL P B c { s with fr := (i, .row id 0) :: s.fr, hp := (id, .row own false sz []) :: s.hp } K) : @SemL P B c s K := by
  intro X a w hX hR
  obtain ⟨X', x1, x2, x3⟩ := hR.newNil (d := id) (sz := sz) (us := []) own h2 h3 h4 (by simp)
  refine h X' a w (x1.trans hX) ⟨x2.nt, x2.df, fun j => ?_, x2.bl, x2.ow, x2.os, x2.tape, x2.output, x2.size, x2.old, x2.bx⟩
  show VRel X' _ w (a.tmps.getD j undef) (getL .top ((i, .row id 0) :: s.fr) j)
  rw [getL_cons]
  split
  · rename_i e
    subst e
    have hv := hR.fr j
    rw [h1] at hv
    rw [hv.nil_inv]
    exact x3
  · exact x2.fr j

/-- A cell of a variable that holds the nil slice. -/
theorem semL_nilV {P : Program} {B : Base} {c : Code} {s : AState} [K : Kont (Exit → AState → Prop)] (vid j id sz : Nat) (own : Bool) {cs : List AV} (h0 : s.blk vid = .var cs) (hj : j < cs.length) (h1 : cs.getD j .top = .sl (some false) []) (h2 : s.blk id = .none) (h3 : nF id) (h4 : 0 < sz)
    (h : @SemL P B c { s with hp := (vid, .var (cs.set j (.row id 0))) :: (id, .row own false sz []) :: s.hp } K) : @SemL P B c s K := by
  intro X a w hX hR
  obtain ⟨X', x1, x2, x3⟩ := hR.newNil (d := id) (sz := sz) (us := []) own h2 h3 h4 (by simp)
  have hne : vid ≠ id := fun e => by rw [e, h2] at h0; cases h0
  have hk : ({ s with hp := (vid, .var (cs.set j (.row id 0))) :: (id, .row own false sz []) :: s.hp } : AState).kds = ({ s with hp := ((id, ABlk.row own false sz []) :: ([] : List Nat).map fun i => (i, ABlk.dead)) ++ s.hp } : AState).kds := by
    funext k
    unfold AState.kds
    show (getL ABlk.none ((vid, .var (cs.set j (.row id 0))) :: (id, .row own false sz []) :: s.hp) k).kd = (getL ABlk.none ((id, ABlk.row own false sz []) :: s.hp) k).kd
    rw [getL_cons]
    split
    · rename_i e
      subst e
      rw [getL_cons, if_neg hne]
      show _ = (s.blk k).kd
      rw [h0]; rfl
    · rfl
  refine h X' a w (x1.trans hX) ⟨x2.nt, x2.df, fun k => by rw [hk]; exact x2.fr k, fun k => ?_, x2.ow, x2.os, x2.tape, x2.output, x2.size, x2.old, x2.bx⟩
  rw [hk]
  show BRel X' _ w k (getL ABlk.none ((vid, .var (cs.set j (.row id 0))) :: (id, .row own false sz []) :: s.hp) k)
  rw [getL_cons]
  split
  · rename_i e
    subst e
    have hb := x2.bl k
    have e1 : ({ s with hp := ((id, ABlk.row own false sz []) :: ([] : List Nat).map fun i => (i, ABlk.dead)) ++ s.hp } : AState).blk k = .var cs := by
      show getL ABlk.none ((id, ABlk.row own false sz []) :: s.hp) k = _
      rw [getL_cons, if_neg hne]; exact h0
    rw [e1] at hb
    obtain ⟨b, c, ty, g1, g2, g3, g4, g5⟩ := hb
    refine ⟨b, c, ty, g1, g2, g3, by rw [List.length_set]; exact g4, fun i hi => ?_⟩
    rw [List.length_set] at hi
    have hgi := g5 i hi
    by_cases e : i = j
    · subst e
      rw [h1] at hgi
      rw [hgi.nil_inv]
      have : (cs.set i (.row id 0)).getD i .top = .row id 0 := by simp [List.getD_eq_getElem?_getD, hi]
      rw [this]
      exact x3
    · have : (cs.set j (.row id 0)).getD i .top = cs.getD i .top := by simp [List.getD_eq_getElem?_getD, List.getElem?_set_ne (Ne.symm e)]
      rw [this]; exact hgi
  · exact x2.bl k

end Go.Proofs.Yteebkimhfaodnaa

/- What is known of a result may be forgotten; what is known of an argument too. -/
namespace Go.Proofs.Yteebkimhfaodnaa
open Go Go.RowKit

def rwC (a a' : AV) : Prop :=
  match a, a' with
  | .osl nn sz es, .osl nn' sz' es' => (nn' = nn ∨ nn' = false) ∧ sz' = sz ∧ es' = es
  | .sl nn es, .osl nn' sz' es' => nn = some false ∧ es = [] ∧ nn' = false ∧ 0 < sz' ∧ es' = []
  | .sl nn es, .sl nn' es' => (nn' = nn ∨ nn' = none) ∧ es' = es
  | a, a' => a' = a

def rwL : List AV → List AV → Prop
  | [], [] => True
  | a :: r, a' :: r' => rwC a a' ∧ rwL r r'
  | _, _ => False

def rwP (a a' : AV) : Prop :=
  match a, a' with
  | .agg cs, .agg cs' => rwL cs cs'
  | a, a' => rwC a a'

def rwPL : List AV → List AV → Prop
  | [], [] => True
  | a :: r, a' :: r' => rwP a a' ∧ rwPL r r'
  | _, _ => False

def rwR (a a' : AV) : Prop :=
  match a, a' with
  | .tup cs, .tup cs' => rwPL cs cs'
  | a, a' => rwP a a'

theorem OwnS.nn {w : World} {v : Value} {nn nn' : Bool} {sz : Nat} {es : List (List AV)} {F : Nat → Prop} (h : OwnS w v nn sz es F) (hn : nn' = nn ∨ nn' = false) : OwnS w v nn' sz es F := by
  obtain ⟨h1, h2, h3⟩ := h
  refine ⟨h1, h2, ?_⟩
  rcases h3 with ⟨g1, g2, g3, g4⟩ | g
  · exact .inl ⟨g1, g2, by rcases hn with e | e <;> simp [e, g3], g4⟩
  · exact .inr g

theorem nil_of_reads {w : World} {S : Nat → Prop} {v : Value} {nn : Option Bool} {es : List (List AV)} (hr : Reads w S v (.sl nn es)) (hn : nn = some false) (he : es = []) : v = .slice none 0 0 := by
  generalize hb : AV.sl nn es = bb at hr
  cases hr with
  | nil nn hn => rfl
  | empty a cap nn' hn' => cases hb; exact absurd hn hn'
  | slice b o cap sz nn' es' f hn' => cases hb; exact absurd hn hn'
  | _ => cases hb

theorem BCell.rw {w : World} {S : Nat → Prop} {v : Value} {a a' : AV} {F : Nat → Prop} (h : BCell w S v a F) (hr : rwC a a') : BCell w S v a' F := by
  unfold rwC at hr
  split at hr
  · obtain ⟨h1, rfl, rfl⟩ := hr
    cases h with
    | pure a F h hF => cases h
    | osl nn sz es F h => exact .osl _ _ _ _ _ (h.nn h1)
  · obtain ⟨h1, h2, rfl, h3, rfl⟩ := hr
    cases h with
    | pure a F h hF => exact .osl _ _ _ _ _ ⟨h3, by simp, .inl ⟨nil_of_reads h h1 h2, rfl, rfl, hF⟩⟩
  · obtain ⟨h1, rfl⟩ := hr
    cases h with
    | pure a F h hF =>
      refine .pure _ _ _ ?_ hF
      rcases h1 with e | e
      · rw [e]; exact h
      · rw [e]; exact h.anon1
  · rw [hr]; exact h

theorem rwL_spec : ∀ {cs cs' : List AV}, rwL cs cs' → cs.length = cs'.length ∧ ∀ (i : Nat) (_ : i < cs'.length), rwC (cs.getD i .top) (cs'.getD i .top)
  | [], [], _ => ⟨rfl, by simp⟩
  | a :: r, a' :: r', h => by
    obtain ⟨g1, g2⟩ := rwL_spec h.2
    refine ⟨by simp [g1], fun i hi => ?_⟩
    cases i with
    | zero => exact h.1
    | succ i => exact g2 i (by simpa using hi)
  | [], _ :: _, h => h.elim
  | _ :: _, [], h => h.elim

theorem BCells.rw {w : World} {S : Nat → Prop} {vs : Nat → Value} {cs cs' : List AV} {FF : Nat → Nat → Prop} (h : BCells w S vs cs FF) (hr : rwL cs cs') : BCells w S vs cs' FF := by
  obtain ⟨g1, g2⟩ := rwL_spec hr
  exact ⟨fun i hi => (h.cell i (by omega)).rw (g2 i hi), fun i j x hi hj => h.dis i j x (by omega) (by omega)⟩

theorem BPart.rw {w : World} {S : Nat → Prop} {v : Value} {a a' : AV} {F : Nat → Prop} (h : BPart w S v a F) (hr : rwP a a') : BPart w S v a' F := by
  have hc : rwC a a' → BPart w S v a' F := by
    intro hr
    cases h with
    | cell v a F h => exact .cell _ _ _ (h.rw hr)
    | agg vs cs FF F hl h hF =>
      cases a' <;> simp only [rwC] at hr <;> try (cases hr; done)
      cases hr
      exact .agg vs cs FF F hl h hF
  unfold rwP at hr
  split at hr
  · rename_i cs cs'
    cases h with
    | cell v a F h => 
      cases h with
      | pure a F h hF =>
        cases h with
        | agg vs cs hl h =>
          obtain ⟨g1, g2⟩ := rwL_spec hr
          refine .agg vs cs' (fun _ _ => False) F (by omega) ⟨fun i hi => ?_, fun _ _ _ _ _ e => e.elim⟩ (fun x => ⟨fun e => absurd e (hF x), fun ⟨_, _, e⟩ => e.elim⟩)
          exact BCell.rw (.pure _ _ _ (h i (by omega)) (fun _ e => e)) (g2 i hi)
    | agg vs cs FF F hl h hF =>
      obtain ⟨g1, _⟩ := rwL_spec hr
      refine .agg vs cs' FF F (by omega) (h.rw hr) (fun x => ?_)
      rw [hF x, g1]
  · exact hc hr

theorem rwPL_spec : ∀ {cs cs' : List AV}, rwPL cs cs' → cs.length = cs'.length ∧ ∀ (i : Nat) (_ : i < cs'.length), rwP (cs.getD i .top) (cs'.getD i .top)
  | [], [], _ => ⟨rfl, by simp⟩
  | a :: r, a' :: r', h => by
    obtain ⟨g1, g2⟩ := rwPL_spec h.2
    refine ⟨by simp [g1], fun i hi => ?_⟩
    cases i with
    | zero => exact h.1
    | succ i => exact g2 i (by simpa using hi)
  | [], _ :: _, h => h.elim
  | _ :: _, [], h => h.elim

theorem BRes.rw {w : World} {S : Nat → Prop} {v : Value} {a a' : AV} {F : Nat → Prop} (h : BRes w S v a F) (hr : rwR a a') : BRes w S v a' F := by
  have hc : rwP a a' → BRes w S v a' F := by
    intro hr
    cases h with
    | part v a F h => exact .part _ _ _ (h.rw hr)
    | tup vs rs FF F hl h hd hF =>
      cases a' <;> simp only [rwP, rwC] at hr <;> try (cases hr; done)
      cases hr
      exact .tup vs rs FF F hl h hd hF
    | box b c ty cs F hb hl h hF =>
      cases a' <;> simp only [rwP, rwC] at hr <;> try (cases hr; done)
      cases hr
      exact .box b c ty cs F hb hl h hF
  unfold rwR at hr
  split at hr
  · rename_i cs cs'
    obtain ⟨g1, g2⟩ := rwPL_spec hr
    cases h with
    | part v a F h =>
      cases h with
      | cell v a F h =>
        cases h with
        | pure a F h hF =>
          cases h with
          | tup vs cs hl h =>
            refine .tup vs cs' (fun _ _ => False) F (by omega) (fun i hi => ?_) (fun _ _ _ _ _ e => e.elim) (fun x => ⟨fun e => absurd e (hF x), fun ⟨_, _, e⟩ => e.elim⟩)
            exact BPart.rw (.cell _ _ _ (.pure _ _ _ (h i (by omega)) (fun _ e => e))) (g2 i hi)
    | tup vs rs FF F hl h hd hF =>
      refine .tup vs cs' FF F (by omega) (fun i hi => (h i (by omega)).rw (g2 i hi)) (fun i j x hi hj => hd i j x (by omega) (by omega)) (fun x => ?_)
      rw [hF x, g1]
  · exact hc hr

theorem FSpec.rw {P : Program} {k : FuncId} {args : List AV} {hb : Bool} {bx : List AV} {Q Q' : AV → List AV → Prop} (h : FSpec P k args hb bx Q) (hq : ∀ r b, Q r b → ∃ r' b', rwR r r' ∧ rwL b b' ∧ Q' r' b') : FSpec P k args hb bx Q' := by
  refine ⟨h.1, fun w S vs b BF h1 h2 h3 h4 => (h.2 w S vs b BF h1 h2 h3 h4).mono ?_⟩
  rintro e w' ⟨v, r, bx1, F, BF', rfl, hQ, g1, g2, g3, g4, g5⟩
  obtain ⟨r', bx2, q1, q2, q3⟩ := hq r bx1 hQ
  have hlen := (rwL_spec q2).1
  have hM : BoxM hb b bx2 BF' = BoxM hb b bx1 BF' := by
    funext x
    unfold BoxM
    rw [hlen]
  refine ⟨v, r', bx2, F, BF', rfl, q3, g1, ?_, ?_, ?_, ?_⟩
  · rw [hM]; exact g2.rw q1
  · intro e
    rw [hM]
    obtain ⟨⟨c, ty, k1, k2, k3⟩, k4⟩ := g3 e
    exact ⟨⟨c, ty, k1, by omega, k3.rw q2⟩, fun i hi => k4 i (by omega)⟩
  · rw [hM]; exact g4
  · rw [hM]; exact g5

theorem fspec_det {P : Program} {T : Tab} (hT : TabOk P T) {k : FuncId} {fn : Func} {c : Code} {args : List AV} {r : AV}
    (hcall : ∀ (vs : Array Value) (w : World), (callFunc k vs).run P w = .ok (.enter k vs) w) (hf : P.funcs[k]? = some fn) (hbody : fn.body = some c) (nt : Nat) (hnt : fn.ntmps = nt) (hlen : args.length ≤ nt)
    (hsem : ∀ B : Base, SemC P B c (fun e s => (e = .normal ∨ e = .ret) ∧ exitK T s fn.results.toList false (fun r' b => rwR r' r ∧ b = [])) (startSt nt args false [])) : Det P k args r :=
  (fspec_intro hT hcall hf hbody nt hnt hlen hsem).rw fun r' b h => ⟨r, [], h.1, by rw [h.2]; trivial, rfl⟩

theorem fspec_detB {P : Program} {T : Tab} (hT : TabOk P T) {k : FuncId} {fn : Func} {c : Code} {args bx bx' : List AV} {r : AV}
    (hcall : ∀ (vs : Array Value) (w : World), (callFunc k vs).run P w = .ok (.enter k vs) w) (hf : P.funcs[k]? = some fn) (hbody : fn.body = some c) (nt : Nat) (hnt : fn.ntmps = nt) (hlen : args.length ≤ nt)
    (hsem : ∀ B : Base, SemC P B c (fun e s => (e = .normal ∨ e = .ret) ∧ exitK T s fn.results.toList true (fun r' b => rwR r' r ∧ rwL b bx')) (startSt nt args true bx)) : DetB P k args bx r bx' :=
  (fspec_intro hT hcall hf hbody nt hnt hlen hsem).rw fun r' b h => ⟨r, bx', h.1, h.2, rfl, rfl⟩

/-- What is handed back fits, perhaps after something was forgotten. -/
def ExitR (Q : AV → List AV → Prop) (r : AV) (b : List AV) : Prop := ∃ r' b', rwR r r' ∧ rwL b b' ∧ Q r' b'

theorem rwC_refl (a : AV) : rwC a a := by
  cases a <;> simp [rwC]

theorem rwL_refl : ∀ cs : List AV, rwL cs cs
  | [] => trivial
  | a :: r => ⟨rwC_refl a, rwL_refl r⟩

theorem rwP_refl (a : AV) : rwP a a := by
  cases a <;> first | exact rwL_refl _ | (simp only [rwP]; exact rwC_refl _)

theorem rwPL_refl : ∀ cs : List AV, rwPL cs cs
  | [] => trivial
  | a :: r => ⟨rwP_refl a, rwPL_refl r⟩

theorem rwR_refl (a : AV) : rwR a a := by
  cases a <;> first | exact rwPL_refl _ | (simp only [rwR]; exact rwP_refl _)

theorem ExitR.same {Q : AV → List AV → Prop} {r : AV} {b : List AV} (h : Q r b) : ExitR Q r b := ⟨r, b, rwR_refl r, rwL_refl b, h⟩

/-- A contract that leaves something open. -/
theorem fspec_rel {P : Program} {T : Tab} (hT : TabOk P T) {k : FuncId} {fn : Func} {c : Code} {args bx : List AV} {hb : Bool} {Q : AV → List AV → Prop}
    (hcall : ∀ (vs : Array Value) (w : World), (callFunc k vs).run P w = .ok (.enter k vs) w) (hf : P.funcs[k]? = some fn) (hbody : fn.body = some c) (nt : Nat) (hnt : fn.ntmps = nt) (hlen : args.length ≤ nt)
    (hsem : ∀ B : Base, SemC P B c (fun e s => (e = .normal ∨ e = .ret) ∧ exitK T s fn.results.toList hb (ExitR Q)) (startSt nt args hb bx)) : FSpec P k args hb bx Q :=
  (fspec_intro hT hcall hf hbody nt hnt hlen hsem).rw fun r' b ⟨r, b', h1, h2, h3⟩ => ⟨r, b', h1, h2, h3⟩

/-- What reads as the one reads as the other. -/
def Leq (a a' : AV) : Prop := ∀ (w : World) (S : Nat → Prop) (v : Value), Reads w S v a → Reads w S v a'

theorem Leq.refl (a : AV) : Leq a a := fun _ _ _ h => h
theorem Leq.trans {a b c : AV} (h : Leq a b) (h' : Leq b c) : Leq a c := fun w S v hr => h' w S v (h w S v hr)

theorem Leq.agg {cs cs' : List AV} (hl : cs.length = cs'.length) (h : ∀ (i : Nat) (_ : i < cs'.length), Leq (cs.getD i .top) (cs'.getD i .top)) : Leq (.agg cs) (.agg cs') := by
  intro w S v hr
  cases hr with
  | agg vs cs hl' hv => exact .agg vs cs' (by omega) (fun i hi => h i hi w S _ (hv i (by omega)))

theorem Leq.sl {nn : Option Bool} {es es' : List (List AV)} (hl : es.length = es'.length) (hr : ∀ (i : Nat) (_ : i < es'.length), (es.getD i []).length = (es'.getD i []).length)
    (h : ∀ (i j : Nat) (_ : i < es'.length) (_ : j < (es'.getD i []).length), Leq ((es.getD i []).getD j .top) ((es'.getD i []).getD j .top)) : Leq (.sl nn es) (.sl nn es') := by
  intro w S v hv
  generalize hb : AV.sl nn es = bb at hv
  cases hv with
  | nil nn hn =>
    cases hb
    have : es' = [] := List.eq_nil_of_length_eq_zero (by simpa using hl.symm)
    subst this
    exact .nil _ hn
  | empty a cap nn hn =>
    cases hb
    have : es' = [] := List.eq_nil_of_length_eq_zero (by simpa using hl.symm)
    subst this
    exact .empty _ _ _ hn
  | slice b o cap sz nn' es'' f hn hsz hz hS hcap hc hh =>
    cases hb
    have hne : es' ≠ [] → es ≠ [] := fun e e' => by rw [e'] at hl; exact e (List.eq_nil_of_length_eq_zero (by simpa using hl.symm))
    rw [hl]
    have hrow : ∀ i, i < es'.length → (es'.getD i []).length = sz := fun i hi => by rw [← hr i hi]; exact hsz _ (getD_mem es i [] (by omega))
    refine .slice b o cap sz nn es' f hn (fun e he => ?_) hz (fun e => hS (hne e)) (by omega) (fun i j hi hj => hc i j (by omega) hj) (fun i j hi hj => ?_)
    · obtain ⟨i, hi, rfl⟩ := List.getElem_of_mem he
      have := hrow i hi
      rwa [List.getD_eq_getElem?_getD, List.getElem?_eq_getElem hi] at this
    · exact h i j hi (by rw [hrow i hi]; exact hj) w S _ (hh i j (by omega) hj)
  | _ => cases hb

theorem FSpec.args {P : Program} {k : FuncId} {args args' : List AV} {Q : AV → List AV → Prop} (h : FSpec P k args' false [] Q) (hl : args.length = args'.length) (ha : ∀ (i : Nat) (_ : i < args'.length), Leq (args.getD i .top) (args'.getD i .top)) : FSpec P k args false [] Q := by
  refine ⟨h.1, fun w S vs b BF h1 h2 h3 h4 => h.2 w S vs b BF (by omega) (fun i hi => ?_) h3 h4⟩
  rcases h2 i (by omega) with g | ⟨e, _⟩
  · exact .inl (ha i hi w S _ g)
  · cases e

/-- The state of a loop's next round. -/
def LoopN {ι : Type} (st : ι → AState) (meas : ι → Nat) (Inv : ι → Prop) (n : Nat) (s : AState) : Prop := ∃ i ρ, Inv i ∧ meas i < n ∧ Weak ρ s (st i)

theorem semL_for {P : Program} {T : Tab} (hT : TabOk P T) {B : Base} {c : Code} {Kx : Exit → AState → Prop} {s : AState} {ι : Type} (st : ι → AState) (meas : ι → Nat) (Inv : ι → Prop) (i0 : ι) (ρ : List (Nat × Nat)) (hw : Weak ρ s (st i0)) (h0 : Inv i0)
    (hr : ∀ i, Inv i → codeK P T B c (thenK (LoopN st meas Inv (meas i)) Kx) (st i)) : @SemL P B (.loop c) s ⟨Kx⟩ := by
  refine semL_loop hT (fun n t => ∃ i, Inv i ∧ n = meas i ∧ t = st i) (meas i0) ρ (st i0) hw ⟨i0, h0, rfl, rfl⟩ ?_
  rintro n t ⟨i, hi, rfl, rfl⟩
  have h := hr i hi
  have e : (LoopN st meas Inv (meas i)) = (fun s' => ∃ m ρ' t', m < meas i ∧ Weak ρ' s' t' ∧ ∃ i, Inv i ∧ m = meas i ∧ t' = st i) := by
    funext s'
    apply propext
    constructor
    · rintro ⟨j, ρ', h1, h2, h3⟩
      exact ⟨_, ρ', _, h2, h3, j, h1, rfl, rfl⟩
    · rintro ⟨m, ρ', t', h1, h2, j, h3, rfl, rfl⟩
      exact ⟨j, ρ', h3, h1, h2⟩
  rw [← e]
  exact h

theorem nlf {a b : Nat} (h : ¬ a < b) : ((a : Int) < (b : Int)) = False := by simpa using h
theorem nc0 : ((0 : Nat) : Int) = 0 := rfl
theorem nlt {a b : Nat} (h : a < b) : ((a : Int) < (b : Int)) = True := by simpa using h
theorem nn0 (a : Nat) : (0 ≤ (a : Int)) = True := by simp
theorem wrap_small (x : Int) (h1 : -9223372036854775808 ≤ x) (h2 : x ≤ 9223372036854775807) : IntKind.i64.wrap x = x := by
  rw [IntKind.wrap_i64]
  omega
theorem wsucc {a b : Nat} (h : a < b) (hb : b < 2 ^ 62) : IntKind.i64.wrap ((a : Int) + 1) = ((a + 1 : Nat) : Int) := by
  rw [wrap_small _ (by omega) (by omega)]
  simp

/-- The rows of a list. -/
def rows {α : Type} (e : α → List AV) (xs : List α) : List (List AV) := xs.map e
theorem rows_length {α : Type} (e : α → List AV) (xs : List α) : (rows e xs).length = xs.length := by simp [rows]
theorem rows_get {α : Type} (e : α → List AV) (xs : List α) (i : Nat) (h : i < xs.length) : (rows e xs).getD i [] = e (xs[i]'h) := by
  simp [rows, List.getD_eq_getElem?_getD, h]
theorem rows_nil {α : Type} (e : α → List AV) : rows e ([] : List α) = [] := rfl
theorem rows_take {α : Type} (e : α → List AV) (xs : List α) (n : Nat) : (rows e xs).take n = rows e (xs.take n) := by simp [rows, List.map_take]
theorem rows_drop {α : Type} (e : α → List AV) (xs : List α) (n : Nat) : (rows e xs).drop n = rows e (xs.drop n) := by simp [rows, List.map_drop]
theorem rows_set {α : Type} (e : α → List AV) (xs : List α) (n : Nat) (x : α) : (rows e xs).set n (e x) = rows e (xs.set n x) := by simp [rows, List.map_set]
theorem rows_replicate {α : Type} (e : α → List AV) (n : Nat) (x : α) : List.replicate n (e x) = rows e (List.replicate n x) := by simp [rows]
theorem drop_cons {α : Type} (xs : List α) (i : Nat) (h : i < xs.length) : xs.drop i = xs[i]'h :: xs.drop (i + 1) := List.drop_eq_getElem_cons h

end Go.Proofs.Yteebkimhfaodnaa

/- A function that hands back a pointer to a variable of its own. -/
namespace Go.Proofs.Yteebkimhfaodnaa
open Go Go.RowKit

def ptrK (s : AState) (t : Nat) (K : List AV → Prop) : Prop :=
  match s.get t with
  | .loc id off => off = 0 ∧ (match s.blk id with
    | .var cs => cs.all pureB = true ∧ K cs
    | _ => False)
  | _ => False

theorem fspec_ptr {P : Program} {T : Tab} (hT : TabOk P T) {k : FuncId} {fn : Func} {c : Code} {args : List AV} {Q : AV → List AV → Prop} (t : Nat)
    (hcall : ∀ (vs : Array Value) (w : World), (callFunc k vs).run P w = .ok (.enter k vs) w) (hf : P.funcs[k]? = some fn) (hbody : fn.body = some c) (nt : Nat) (hnt : fn.ntmps = nt) (hlen : args.length ≤ nt) (hres : fn.results.toList = [.tmp t])
    (hsem : ∀ B : Base, SemC P B c (fun e s => (e = .normal ∨ e = .ret) ∧ ptrK s t fun cs => Q (.box cs) []) (startSt nt args false [])) : FSpec P k args false [] Q := by
  refine ⟨hcall, fun w S vs b BF h1 h2 h3 h4 => ?_⟩
  subst hnt
  obtain ⟨X, hX, hR⟩ := R.start h1 h2 h3 h4 hlen
  refine calls_of_wp hf hbody ?_
  refine wp_mono (hsem _ X _ w rfl hR) ?_
  rintro e a' w' ⟨X', s', hXb, hR', he, hK⟩
  rw [hX] at hXb
  have key : bodyPost P fn (fun e w' => ∃ v r bx' F BF', e = .returned v ∧ Q r bx' ∧ WFrame w w' (BoxM false b [] BF) ∧
      BRes w' (fun x => ¬ F x ∧ ¬ BoxM false b bx' BF' x ∧ (S x ∨ BoxM false b [] BF x ∨ w.heap.size ≤ x)) v r F ∧
      (false = true → BoxAt w' (fun x => ¬ F x ∧ ¬ BoxM false b bx' BF' x ∧ (S x ∨ BoxM false b [] BF x ∨ w.heap.size ≤ x)) b bx' BF') ∧
      (∀ x, F x → ¬ BoxM false b bx' BF' x) ∧ (∀ x, F x ∨ BoxM false b bx' BF' x → (BoxM false b [] BF x ∨ w.heap.size ≤ x) ∧ x < w'.heap.size)) .normal a' w' := by
    refine ⟨hR'.df, ?_⟩
    unfold ptrK at hK
    split at hK
    · rename_i id off hg
      obtain ⟨rfl, hK⟩ := hK
      split at hK
      · rename_i cs hb
        obtain ⟨hp, hK⟩ := hK
        have hv := hR'.fr t
        rw [hg] at hv
        have hkd : s'.kds id = .var := by unfold AState.kds; rw [hb]; rfl
        obtain ⟨b', ev, hi⟩ := hv.loc_inv hkd
        have hB := hR'.bl id
        rw [hb] at hB
        obtain ⟨b2, c', ty, e1, e2, e3, e4, e5⟩ := hB
        rw [hi] at e1; cases e1
        have hob : X'.own b' = some id := (e3 b').2 rfl
        have hA : ∀ x, X'.base.A x ↔ (S x ∨ BoxM false b [] BF x ∨ w.heap.size ≤ x) := by
          intro x; rw [hXb]; exact Iff.rfl
        have hrun := results_run (fn := fn) (P := P) (w := w') (tmps := a'.tmps) (vals := [a'.tmps.getD t undef]) (by rw [hres]; rfl)
        have hW : WFrame w w' (BoxM false b [] BF) := by
          have h5 := hR'.os; have h6 := hR'.tape; have h7 := hR'.output; have h8 := hR'.size; have h9 := hR'.old
          rw [hXb] at h5 h6 h7 h8 h9
          exact ⟨h5, h6, h7, h8, h9⟩
        have hn : ∀ x, ¬ BoxM false b [] BF x := fun x hx => by cases hx.1
        have hn' : ∀ (BF' : Nat → Nat → Prop) x, ¬ BoxM false b [] BF' x := fun BF' x hx => by cases hx.1
        refine ⟨packV [a'.tmps.getD t undef], hrun, packV [a'.tmps.getD t undef], .box cs, [], fun x => x = b', fun _ _ => False, rfl, hK, hW, ?_, (fun e => by cases e), fun x _ => hn' _ x, ?_⟩
        · show BRes w' _ (a'.tmps.getD t undef) _ _
          rw [ev]
          refine .box b' c' ty cs _ e2 e4 (fun i hi' => ?_) (fun x => Iff.rfl)
          refine ((e5 i hi').pureR (List.all_eq_true.1 hp _ (getD_mem cs i .top hi'))).mono fun x hx => ⟨fun e => ?_, hn' _ x, (hA x).1 hx.2⟩
          have := hx.1
          rw [e, hob] at this; cases this
        · rintro x (hx | hx)
          · have := hR'.ow b' id hob
            rw [hXb] at this
            rw [hx]
            exact ⟨this.2, this.1⟩
          · exact absurd hx (hn' _ x)
      · exact hK.elim
    · exact hK.elim
  rcases he with rfl | rfl
  · exact key
  · exact key

end Go.Proofs.Yteebkimhfaodnaa

/- Ahead-of-time rewriting: what a call leaves, and branches that are decided (no look at what lies behind a branch that is not taken). -/
namespace Go.Proofs.Yteebkimhfaodnaa
open Go Go.RowKit

theorem bT {A B : Prop} : ((true = true → A) ∧ (true = false → B)) = A := by simp
theorem bF {A B : Prop} : ((false = true → A) ∧ (false = false → B)) = B := by simp

theorem bothNT {w : Bool} {A B : Prop} : bothK (!true) w A B = bothK false w A B := rfl
theorem bothNF {w : Bool} {A B : Prop} : bothK (!false) w A B = bothK true w A B := rfl
theorem bothCT {a b w : Bool} {A B : Prop} : bothK (bif true then a else b) w A B = bothK a w A B := rfl
theorem bothCF {a b w : Bool} {A B : Prop} : bothK (bif false then a else b) w A B = bothK b w A B := rfl

theorem backK_top (s : AState) (d : Option Nat) (used hb : Bool) (bid : Nat) (us : List Nat)  (bx' : List AV) (Φ : AState → Prop) : backK s d used hb bid us (.top) bx' Φ = ((used = true → slFreeR (.top) = true ∧ (hb = true → bx'.all slFree = true)) ∧ newOk s (impB (cbase d) (.top) ++ (if hb then impLB (cbase d + 500) bx' else [])) ∧ Φ (callSt s d (.top) hb bid bx' us)) := rfl
theorem backK_int (s : AState) (d : Option Nat) (used hb : Bool) (bid : Nat) (us : List Nat) (k : IntKind) (n : Int) (bx' : List AV) (Φ : AState → Prop) : backK s d used hb bid us (.int k n) bx' Φ = ((used = true → slFreeR (.int k n) = true ∧ (hb = true → bx'.all slFree = true)) ∧ newOk s (impB (cbase d) (.int k n) ++ (if hb then impLB (cbase d + 500) bx' else [])) ∧ Φ (callSt s d (.int k n) hb bid bx' us)) := rfl
theorem backK_bool (s : AState) (d : Option Nat) (used hb : Bool) (bid : Nat) (us : List Nat) (b : Bool) (bx' : List AV) (Φ : AState → Prop) : backK s d used hb bid us (.bool b) bx' Φ = ((used = true → slFreeR (.bool b) = true ∧ (hb = true → bx'.all slFree = true)) ∧ newOk s (impB (cbase d) (.bool b) ++ (if hb then impLB (cbase d + 500) bx' else [])) ∧ Φ (callSt s d (.bool b) hb bid bx' us)) := rfl
theorem backK_sl (s : AState) (d : Option Nat) (used hb : Bool) (bid : Nat) (us : List Nat) (nn : Option Bool) (es : List (List AV)) (bx' : List AV) (Φ : AState → Prop) : backK s d used hb bid us (.sl nn es) bx' Φ = ((used = true → slFreeR (.sl nn es) = true ∧ (hb = true → bx'.all slFree = true)) ∧ newOk s (impB (cbase d) (.sl nn es) ++ (if hb then impLB (cbase d + 500) bx' else [])) ∧ Φ (callSt s d (.sl nn es) hb bid bx' us)) := rfl
theorem backK_fn (s : AState) (d : Option Nat) (used hb : Bool) (bid : Nat) (us : List Nat) (f : FuncId) (caps : List AV) (bx' : List AV) (Φ : AState → Prop) : backK s d used hb bid us (.fn f caps) bx' Φ = ((used = true → slFreeR (.fn f caps) = true ∧ (hb = true → bx'.all slFree = true)) ∧ newOk s (impB (cbase d) (.fn f caps) ++ (if hb then impLB (cbase d + 500) bx' else [])) ∧ Φ (callSt s d (.fn f caps) hb bid bx' us)) := rfl
theorem backK_agg (s : AState) (d : Option Nat) (used hb : Bool) (bid : Nat) (us : List Nat) (cs : List AV) (bx' : List AV) (Φ : AState → Prop) : backK s d used hb bid us (.agg cs) bx' Φ = ((used = true → slFreeR (.agg cs) = true ∧ (hb = true → bx'.all slFree = true)) ∧ newOk s (impB (cbase d) (.agg cs) ++ (if hb then impLB (cbase d + 500) bx' else [])) ∧ Φ (callSt s d (.agg cs) hb bid bx' us)) := rfl
theorem backK_tup (s : AState) (d : Option Nat) (used hb : Bool) (bid : Nat) (us : List Nat) (vs : List AV) (bx' : List AV) (Φ : AState → Prop) : backK s d used hb bid us (.tup vs) bx' Φ = ((used = true → slFreeR (.tup vs) = true ∧ (hb = true → bx'.all slFree = true)) ∧ newOk s (impB (cbase d) (.tup vs) ++ (if hb then impLB (cbase d + 500) bx' else [])) ∧ Φ (callSt s d (.tup vs) hb bid bx' us)) := rfl
theorem backK_pel (s : AState) (d : Option Nat) (used hb : Bool) (bid : Nat) (us : List Nat) (cs : List AV) (bx' : List AV) (Φ : AState → Prop) : backK s d used hb bid us (.pel cs) bx' Φ = ((used = true → slFreeR (.pel cs) = true ∧ (hb = true → bx'.all slFree = true)) ∧ newOk s (impB (cbase d) (.pel cs) ++ (if hb then impLB (cbase d + 500) bx' else [])) ∧ Φ (callSt s d (.pel cs) hb bid bx' us)) := rfl
theorem backK_osl (s : AState) (d : Option Nat) (used hb : Bool) (bid : Nat) (us : List Nat) (nn : Bool) (sz : Nat) (es : List (List AV)) (bx' : List AV) (Φ : AState → Prop) : backK s d used hb bid us (.osl nn sz es) bx' Φ = ((used = true → slFreeR (.osl nn sz es) = true ∧ (hb = true → bx'.all slFree = true)) ∧ newOk s (impB (cbase d) (.osl nn sz es) ++ (if hb then impLB (cbase d + 500) bx' else [])) ∧ Φ (callSt s d (.osl nn sz es) hb bid bx' us)) := rfl
theorem backK_may (s : AState) (d : Option Nat) (used hb : Bool) (bid : Nat) (us : List Nat) (g : Bool) (v : AV) (bx' : List AV) (Φ : AState → Prop) : backK s d used hb bid us (.may g v) bx' Φ = ((used = true → slFreeR (.may g v) = true ∧ (hb = true → bx'.all slFree = true)) ∧ newOk s (impB (cbase d) (.may g v) ++ (if hb then impLB (cbase d + 500) bx' else [])) ∧ Φ (callSt s d (.may g v) hb bid bx' us)) := rfl
theorem backK_box (s : AState) (d : Option Nat) (used hb : Bool) (bid : Nat) (us : List Nat) (cs : List AV) (bx' : List AV) (Φ : AState → Prop) : backK s d used hb bid us (.box cs) bx' Φ = (used = false ∧ hb = false ∧ (s.blk (cbase d) = .none ∧ nF (cbase d)) ∧ Φ ({ s with hp := (cbase d, .var cs) :: s.hp }.put d (.loc (cbase d) 0))) := rfl

/-- All of these at once. -/
theorem dnA :
    (∀ (A B : Prop), ((true = true → A) ∧ (true = false → B)) = A) ∧
    (∀ (A B : Prop), ((false = true → A) ∧ (false = false → B)) = B) ∧
    (∀ (s : AState) (d : Option Nat) (used hb : Bool) (bid : Nat) (us : List Nat)  (bx' : List AV) (Φ : AState → Prop), backK s d used hb bid us (.top) bx' Φ = ((used = true → slFreeR (.top) = true ∧ (hb = true → bx'.all slFree = true)) ∧ newOk s (impB (cbase d) (.top) ++ (if hb then impLB (cbase d + 500) bx' else [])) ∧ Φ (callSt s d (.top) hb bid bx' us))) ∧
    (∀ (s : AState) (d : Option Nat) (used hb : Bool) (bid : Nat) (us : List Nat) (k : IntKind) (n : Int) (bx' : List AV) (Φ : AState → Prop), backK s d used hb bid us (.int k n) bx' Φ = ((used = true → slFreeR (.int k n) = true ∧ (hb = true → bx'.all slFree = true)) ∧ newOk s (impB (cbase d) (.int k n) ++ (if hb then impLB (cbase d + 500) bx' else [])) ∧ Φ (callSt s d (.int k n) hb bid bx' us))) ∧
    (∀ (s : AState) (d : Option Nat) (used hb : Bool) (bid : Nat) (us : List Nat) (b : Bool) (bx' : List AV) (Φ : AState → Prop), backK s d used hb bid us (.bool b) bx' Φ = ((used = true → slFreeR (.bool b) = true ∧ (hb = true → bx'.all slFree = true)) ∧ newOk s (impB (cbase d) (.bool b) ++ (if hb then impLB (cbase d + 500) bx' else [])) ∧ Φ (callSt s d (.bool b) hb bid bx' us))) ∧
    (∀ (s : AState) (d : Option Nat) (used hb : Bool) (bid : Nat) (us : List Nat) (nn : Option Bool) (es : List (List AV)) (bx' : List AV) (Φ : AState → Prop), backK s d used hb bid us (.sl nn es) bx' Φ = ((used = true → slFreeR (.sl nn es) = true ∧ (hb = true → bx'.all slFree = true)) ∧ newOk s (impB (cbase d) (.sl nn es) ++ (if hb then impLB (cbase d + 500) bx' else [])) ∧ Φ (callSt s d (.sl nn es) hb bid bx' us))) ∧
    (∀ (s : AState) (d : Option Nat) (used hb : Bool) (bid : Nat) (us : List Nat) (f : FuncId) (caps : List AV) (bx' : List AV) (Φ : AState → Prop), backK s d used hb bid us (.fn f caps) bx' Φ = ((used = true → slFreeR (.fn f caps) = true ∧ (hb = true → bx'.all slFree = true)) ∧ newOk s (impB (cbase d) (.fn f caps) ++ (if hb then impLB (cbase d + 500) bx' else [])) ∧ Φ (callSt s d (.fn f caps) hb bid bx' us))) ∧
    (∀ (s : AState) (d : Option Nat) (used hb : Bool) (bid : Nat) (us : List Nat) (cs : List AV) (bx' : List AV) (Φ : AState → Prop), backK s d used hb bid us (.agg cs) bx' Φ = ((used = true → slFreeR (.agg cs) = true ∧ (hb = true → bx'.all slFree = true)) ∧ newOk s (impB (cbase d) (.agg cs) ++ (if hb then impLB (cbase d + 500) bx' else [])) ∧ Φ (callSt s d (.agg cs) hb bid bx' us))) ∧
    (∀ (s : AState) (d : Option Nat) (used hb : Bool) (bid : Nat) (us : List Nat) (vs : List AV) (bx' : List AV) (Φ : AState → Prop), backK s d used hb bid us (.tup vs) bx' Φ = ((used = true → slFreeR (.tup vs) = true ∧ (hb = true → bx'.all slFree = true)) ∧ newOk s (impB (cbase d) (.tup vs) ++ (if hb then impLB (cbase d + 500) bx' else [])) ∧ Φ (callSt s d (.tup vs) hb bid bx' us))) ∧
    (∀ (s : AState) (d : Option Nat) (used hb : Bool) (bid : Nat) (us : List Nat) (cs : List AV) (bx' : List AV) (Φ : AState → Prop), backK s d used hb bid us (.pel cs) bx' Φ = ((used = true → slFreeR (.pel cs) = true ∧ (hb = true → bx'.all slFree = true)) ∧ newOk s (impB (cbase d) (.pel cs) ++ (if hb then impLB (cbase d + 500) bx' else [])) ∧ Φ (callSt s d (.pel cs) hb bid bx' us))) ∧
    (∀ (s : AState) (d : Option Nat) (used hb : Bool) (bid : Nat) (us : List Nat) (nn : Bool) (sz : Nat) (es : List (List AV)) (bx' : List AV) (Φ : AState → Prop), backK s d used hb bid us (.osl nn sz es) bx' Φ = ((used = true → slFreeR (.osl nn sz es) = true ∧ (hb = true → bx'.all slFree = true)) ∧ newOk s (impB (cbase d) (.osl nn sz es) ++ (if hb then impLB (cbase d + 500) bx' else [])) ∧ Φ (callSt s d (.osl nn sz es) hb bid bx' us))) ∧
    (∀ (s : AState) (d : Option Nat) (used hb : Bool) (bid : Nat) (us : List Nat) (g : Bool) (v : AV) (bx' : List AV) (Φ : AState → Prop), backK s d used hb bid us (.may g v) bx' Φ = ((used = true → slFreeR (.may g v) = true ∧ (hb = true → bx'.all slFree = true)) ∧ newOk s (impB (cbase d) (.may g v) ++ (if hb then impLB (cbase d + 500) bx' else [])) ∧ Φ (callSt s d (.may g v) hb bid bx' us))) ∧
    (∀ (s : AState) (d : Option Nat) (used hb : Bool) (bid : Nat) (us : List Nat) (cs : List AV) (bx' : List AV) (Φ : AState → Prop), backK s d used hb bid us (.box cs) bx' Φ = (used = false ∧ hb = false ∧ (s.blk (cbase d) = .none ∧ nF (cbase d)) ∧ Φ ({ s with hp := (cbase d, .var cs) :: s.hp }.put d (.loc (cbase d) 0)))) ∧
    (∀ (A B : Prop), bothK true true A B = A) ∧
    (∀ (A B : Prop), bothK true false A B = B) ∧
    (∀ (A B : Prop), bothK false true A B = B) ∧
    (∀ (A B : Prop), bothK false false A B = A) ∧
    (∀ (w : Bool) (A B : Prop), bothK (!true) w A B = bothK false w A B) ∧
    (∀ (w : Bool) (A B : Prop), bothK (!false) w A B = bothK true w A B) ∧
    (∀ (a b w : Bool) (A B : Prop), bothK (bif true then a else b) w A B = bothK a w A B) ∧
    (∀ (a b w : Bool) (A B : Prop), bothK (bif false then a else b) w A B = bothK b w A B) :=
  ⟨by intros; first | rfl | exact bT, by intros; first | rfl | exact bF, by intros; first | rfl | exact backK_top, by intros; first | rfl | exact backK_int, by intros; first | rfl | exact backK_bool, by intros; first | rfl | exact backK_sl, by intros; first | rfl | exact backK_fn, by intros; first | rfl | exact backK_agg, by intros; first | rfl | exact backK_tup, by intros; first | rfl | exact backK_pel, by intros; first | rfl | exact backK_osl, by intros; first | rfl | exact backK_may, by intros; first | rfl | exact backK_box, by intros; first | rfl | exact bothTT, by intros; first | rfl | exact bothTF, by intros; first | rfl | exact bothFT, by intros; first | rfl | exact bothFF, by intros; first | rfl | exact bothNT, by intros; first | rfl | exact bothNF, by intros; first | rfl | exact bothCT, by intros; first | rfl | exact bothCF⟩

end Go.Proofs.Yteebkimhfaodnaa

/- Regions that draw their order, of which the last operation waits for all others. -/
namespace Go.Proofs.Yteebkimhfaodnaa
open Go Go.RowKit

def drawLK (P : Program) (T : Tab) (ops : List Oper) (m : Nat) (Φ : AState → Prop) (ord : List (Nat × List Nat)) (s : AState) : Prop :=
  drawK P T ops (fun s => match ops[m]? with
    | some o => dstOk s o.dst ∧ stepK P T ops o s Φ
    | none => False) ord s

/-- The list is right for a region whose last operation waits for all others. -/
def drawLOk (T : Tab) (ops : Array Oper) (m n : Nat) (ord : List (Nat × List Nat)) : Bool :=
  drawOk T ops.pop n ord && decide (ops.size = m + 1) && (ord.all fun p => p.2.all fun x => decide (x < m)) &&
    (ops.all fun o => match o.guard with
      | none => true
      | some (j, _) => decide (j < m)) &&
    (match ops[m]? with
      | none => false
      | some o => (List.range m).all (fun i => (depsOf o).contains i) && (match o.dst with | some d => decide (d < n) | none => true) && (match o.op with | .select _ _ => false | _ => true) && (depsOf o).all (fun j => decide (j < m)))

section
variable {P : Program} {T : Tab} {B : Base} {ops : Array Oper}

theorem ready_iff {L : Array Bool} {i : Nat} : i ∈ Region.ready .any ops L ↔ L.getD i true = false ∧ ∃ o, ops[i]? = some o ∧ ∀ j, j ∈ depsOf o → L.getD j false = true := by
  refine ⟨deps_ready, fun ⟨h1, o, ho, h⟩ => ?_⟩
  rw [mem_ready]
  refine ⟨h1, o, ho, fun ed hed hb => h ed.on ?_⟩
  unfold depsOf
  exact List.mem_map.2 ⟨ed, List.mem_filter.2 ⟨by simpa using hed, hb⟩, rfl⟩

theorem all_listed (hlt : ∃ rk : Nat → Nat, ∀ (i : Nat) (o : Oper), ops[i]? = some o → ∀ j, j ∈ depsOf o → rk j < rk i ∧ j < ops.size) {L : Array Bool} (hL : L.size = ops.size) (hr : Region.ready .any ops L = []) : ∀ i, i < ops.size → L.getD i false = true := by
  obtain ⟨rk, hrk⟩ := hlt
  have key : ∀ n i, rk i = n → i < ops.size → L.getD i false = true := by
    intro n
    induction n using Nat.strongRecOn with
    | _ n ih =>
      intro i hn hi
      cases e : L.getD i false with
      | true => rfl
      | false =>
        exfalso
        have hmem : i ∈ Region.ready .any ops L := by
          rw [ready_iff]
          refine ⟨getD_in (by omega) e, ops[i], Array.getElem?_eq_getElem hi, fun j hj => ?_⟩
          have := hrk i _ (Array.getElem?_eq_getElem hi) j hj
          exact ih _ (by rw [← hn]; exact this.1) j rfl this.2
        rw [hr] at hmem
        cases hmem
  exact fun i hi => key _ i rfl hi

theorem none_ready {L : Array Bool} (hL : L.size = ops.size) (h : ∀ i, i < ops.size → L.getD i false = true) : Region.ready .any ops L = [] := by
  cases e : Region.ready .any ops L with
  | nil => rfl
  | cons i r =>
    obtain ⟨h1, o, ho, _⟩ := ready_iff.1 (show i ∈ Region.ready .any ops L by rw [e]; simp)
    have h2 := h i (lt_of_get ho)
    have h3 := (unlisted h1).2.1
    rw [h2] at h3; cases h3

theorem wp_mono2 {o : Oper} {a : Act} {w : World} {K K' : Act → World → Prop} {Q Q' : Exit → Act → World → Prop} (h : ∀ a w, K a w → K' a w) (hp : ∀ c a w, Q (.panic c) a w → Q' (.panic c) a w) (ho : LetsOut Q → LetsOut Q')
    (hh : o.wp P a w K Q) : o.wp P a w K' Q' := by
  unfold Oper.wp at *
  generalize (execOp a.eval o).run P w = r at *
  cases r with
  | ok n w' =>
    cases n <;> simp only [Oper.upon] at hh ⊢ <;>
      first
        | exact h _ _ hh
        | exact Calls.mono hh (fun e w'' he => by cases e <;> first | exact h _ _ he | exact hp _ _ _ he | exact ho he)
        | exact Rows.mono hh (fun _ _ he => h _ _ he)
  | halt x w' => cases x <;> simp only [Oper.upon] at hh ⊢ <;> first | exact hp _ _ _ hh | exact hh

theorem wpOp_push {o : Oper} {i : Nat} {a : Act} {w : World} {K K' : Act → World → Prop} {Q Q' : Exit → Act → World → Prop} (hi : i < ops.size)
    (hg : ∀ (i : Nat) (oi : Oper) (j : Nat) (want : Bool), ops[i]? = some oi → oi.guard = some (j, want) → j < ops.size) (h : ∀ a w, K a w → K' a w) (hp : ∀ c a w, Q (.panic c) a w → Q' (.panic c) a w) (ho : LetsOut Q → LetsOut Q')
    (hh : wpOp P ops Q i K a w) : wpOp P (ops.push o) Q' i K' a w := by
  have e : (ops.push o)[i]? = some ops[i] := by rw [Array.getElem?_push_lt hi]
  have e' : ops[i]? = some ops[i] := Array.getElem?_eq_getElem hi
  unfold wpOp at *
  rw [e' ] at hh
  rw [e]
  simp only at hh ⊢
  have hw : Region.wanted ops[i] (yielded (ops.push o) a.tmps) = Region.wanted ops[i] (yielded ops a.tmps) := by
    unfold Region.wanted
    cases hgd : ops[i].guard with
    | none => rfl
    | some p =>
      obtain ⟨j, want⟩ := p
      have hj := hg i _ j want e' hgd
      simp only [yielded, Array.getElem?_push_lt hj, Array.getElem?_eq_getElem hj]
  rw [hw]
  split
  · rename_i hw; simp only [hw, if_true] at hh; exact hh.imp (wp_mono2 h hp ho) (fun x => ⟨x.1, ho x.2⟩)
  · rename_i hw; simp only [hw] at hh; exact h _ _ hh

theorem push_getD {L : Array Bool} {i : Nat} (b : Bool) (h : i < L.size) : (L.push false).getD i b = L.getD i b := by
  simp [Array.getElem?_push_lt h, Array.getD_eq_getD_getElem?, Array.getElem?_eq_getElem h]

theorem push_getD_last {L : Array Bool} (b : Bool) : (L.push false).getD L.size b = false := by
  simp [Array.getD_eq_getD_getElem?]

theorem wpAny_push {o : Oper} {Q Q' : Exit → Act → World → Prop} (hlt : ∃ rk : Nat → Nat, ∀ (i : Nat) (o : Oper), ops[i]? = some o → ∀ j, j ∈ depsOf o → rk j < rk i ∧ j < ops.size)
    (hdep : ∀ i, i < ops.size → i ∈ depsOf o) (hdl : ∀ j, j ∈ depsOf o → j < ops.size)
    (hg : ∀ (i : Nat) (oi : Oper) (j : Nat) (want : Bool), ops[i]? = some oi → oi.guard = some (j, want) → j < ops.size)
    (hp : ∀ c a w, Q (.panic c) a w → Q' (.panic c) a w) (ho : LetsOut Q → LetsOut Q')
    (hn : ∀ a w, Q .normal a w → wpOp P (ops.push o) Q' ops.size (Q' .normal) a w) :
    ∀ (fuel : Nat) (L : Array Bool) (a : Act) (w : World), L.size = ops.size → wpAny P .any ops Q fuel L a w → wpAny P .any (ops.push o) Q' (fuel + 1) (L.push false) a w := by
  have old : ∀ (L : Array Bool) i, L.size = ops.size → i < ops.size → (i ∈ Region.ready .any (ops.push o) (L.push false) ↔ i ∈ Region.ready .any ops L) := by
    intro L i hL hi
    rw [ready_iff, ready_iff, push_getD _ (by omega), Array.getElem?_push_lt hi]
    refine and_congr Iff.rfl ⟨fun ⟨oi, e, h⟩ => ⟨oi, by rw [Array.getElem?_eq_getElem hi]; exact e, fun j hj => ?_⟩, fun ⟨oi, e, h⟩ => ⟨oi, by rw [← Array.getElem?_eq_getElem hi]; exact e, fun j hj => ?_⟩⟩
    · obtain ⟨rk, hrk⟩ := hlt
      have := (hrk i oi (by rw [Array.getElem?_eq_getElem hi]; exact e) j hj).2
      have h' := h j hj
      rwa [push_getD _ (by omega)] at h'
    · obtain ⟨rk, hrk⟩ := hlt
      have := (hrk i oi e j hj).2
      rw [push_getD _ (by omega)]
      exact h j hj
  have new : ∀ (L : Array Bool), L.size = ops.size → (ops.size ∈ Region.ready .any (ops.push o) (L.push false) ↔ ∀ i, i < ops.size → L.getD i false = true) := by
    intro L hL
    rw [ready_iff]
    constructor
    · rintro ⟨_, oi, e, h⟩ i hi
      simp only [Array.getElem?_push_size] at e
      cases e
      have := h i (hdep i hi)
      rwa [push_getD _ (by omega)] at this
    · intro h
      refine ⟨by rw [← hL]; exact push_getD_last _, o, by simp, fun j hj => ?_⟩
      rw [push_getD _ (by have := hdl j hj; omega)]
      exact h j (hdl j hj)
  have last : ∀ (fuel : Nat) (L : Array Bool) (a : Act) (w : World), L.size = ops.size → (∀ i, i < ops.size → L.getD i false = true) → Q .normal a w → wpOp P (ops.push o) Q' ops.size (wpAny P .any (ops.push o) Q' fuel ((L.push false).setIfInBounds ops.size true)) a w := by
    intro fuel L a w hL hall hq
    have hnr : Region.ready .any (ops.push o) ((L.push false).setIfInBounds ops.size true) = [] := by
      refine none_ready (by simp [hL]) fun i hi => ?_
      rw [getD_set (by simp [hL])]
      split
      · rfl
      · have hi : i < ops.size := by simp at hi; omega
        rw [push_getD _ (by omega)]; exact hall i hi
    refine wpOp_mono (fun a w hq => ?_) (hn a w hq)
    cases fuel with
    | zero => exact ⟨hnr, hq⟩
    | succ n => exact ⟨fun _ => hq, fun i hi => by rw [hnr] at hi; cases hi⟩
  have lt_push : ∀ {L : Array Bool} {i : Nat}, i ∈ Region.ready .any (ops.push o) L → i < ops.size ∨ i = ops.size := by
    intro L i h
    obtain ⟨_, oi, e, _⟩ := ready_iff.1 h
    have := lt_of_get e
    simp at this
    omega
  intro fuel
  induction fuel with
  | zero =>
    rintro L a w hL ⟨hr, hq⟩
    have hall := all_listed hlt hL hr
    refine ⟨fun h => ?_, fun i hi => ?_⟩
    · have := (new L hL).2 hall
      rw [h] at this; cases this
    · rcases lt_push hi with h | rfl
      · have := (old L i hL h).1 hi
        rw [hr] at this; cases this
      · exact last 0 L a w hL hall hq
  | succ fuel ih =>
    rintro L a w hL ⟨h0, h1⟩
    refine ⟨fun h => ?_, fun i hi => ?_⟩
    · exfalso
      have hr : Region.ready .any ops L = [] := by
        cases e : Region.ready .any ops L with
        | nil => rfl
        | cons i r =>
          have hm : i ∈ Region.ready .any ops L := by rw [e]; simp
          obtain ⟨_, oi, eo, _⟩ := ready_iff.1 hm
          have := (old L i hL (lt_of_get eo)).2 hm
          rw [h] at this; cases this
      have := (new L hL).2 (all_listed hlt hL hr)
      rw [h] at this; cases this
    · rcases lt_push hi with h | rfl
      · have hm := (old L i hL h).1 hi
        refine wpOp_push h hg (fun a w hk => ?_) hp ho (h1 i hm)
        have e : (L.push false).setIfInBounds i true = (L.setIfInBounds i true).push false := by
          apply Array.ext'
          rw [Array.toList_setIfInBounds, Array.toList_push, Array.toList_push, Array.toList_setIfInBounds, List.set_append_left _ _ (by simp; omega)]
        rw [e]
        exact ih _ a w (by simp [hL]) hk
      · have hall := (new L hL).1 hi
        exact last (fuel + 1) L a w hL hall (h0 (none_ready hL hall))

def lastX (Kx : Exit → AState → Prop) (Φ : AState → Prop) : Exit → AState → Prop
  | .normal => Φ
  | e => Kx e

theorem stillStep_pop {T : Tab} {l l' : List Oper} {m : Nat} (hl : ∀ i, i < m → l[i]? = l'[i]?) {o : Oper} (hg : ∀ j want, o.guard = some (j, want) → j < m) (s : AState) (Φ : AState → Prop) : stillStep T l o s Φ = stillStep T l' o s Φ := by
  unfold stillStep
  cases h : o.guard with
  | none => rfl
  | some p =>
    obtain ⟨j, want⟩ := p
    have : guardAt l j = guardAt l' j := by unfold guardAt; rw [hl j (hg j want h)]
    simp only [this]

theorem stepK_pop {P : Program} {T : Tab} {l l' : List Oper} {m : Nat} (hl : ∀ i, i < m → l[i]? = l'[i]?) {o : Oper} (hg : ∀ j want, o.guard = some (j, want) → j < m) (s : AState) (Φ : AState → Prop) : stepK P T l o s Φ = stepK P T l' o s Φ := by
  unfold stepK
  cases h : o.guard with
  | none => rfl
  | some p =>
    obtain ⟨j, want⟩ := p
    have : guardAt l j = guardAt l' j := by unfold guardAt; rw [hl j (hg j want h)]
    simp only [this]

theorem recheck_pop {T : Tab} {l l' : List Oper} {m : Nat} (hl : ∀ i, i < m → l[i]? = l'[i]?) (hg : ∀ (i : Nat) (o : Oper) (j : Nat) (want : Bool), l[i]? = some o → o.guard = some (j, want) → j < m) (s : AState) : ∀ re : List Nat, (∀ x, x ∈ re → x < m) → recheck T l s re = recheck T l' s re
  | [], _ => rfl
  | x :: r, h => by
    unfold recheck
    rw [recheck_pop hl hg s r fun y hy => h y (List.mem_cons_of_mem _ hy), ← hl x (h x (by simp))]
    cases hx : l[x]? with
    | none => rfl
    | some o =>
      simp only
      cases stillB o with
      | false => rfl
      | true => simp only; rw [stillStep_pop hl (hg x o · · hx)]

theorem drawK_pop {P : Program} {T : Tab} {l l' : List Oper} {m : Nat} (hl : ∀ i, i < m → l[i]? = l'[i]?) (hg : ∀ (i : Nat) (o : Oper) (j : Nat) (want : Bool), l[i]? = some o → o.guard = some (j, want) → j < m) (Φ : AState → Prop) : ∀ (ord : List (Nat × List Nat)),
    (∀ p, p ∈ ord → ∀ x, x ∈ p.2 → x < m) → (∀ p, p ∈ ord → p.1 < m) → ∀ s, drawK P T l Φ ord s = drawK P T l' Φ ord s
  | [], _, _, _ => rfl
  | (i, re) :: rest, h1, h2, s => by
    have ih := drawK_pop (P := P) (T := T) hl hg Φ rest (fun p hp => h1 p (List.mem_cons_of_mem _ hp)) (fun p hp => h2 p (List.mem_cons_of_mem _ hp))
    have hrc : ∀ s, recheck T l s re = recheck T l' s re := fun s => recheck_pop hl hg s re (h1 (i, re) (by simp))
    unfold drawK
    rw [← hl i (h2 (i, re) (by simp))]
    cases hx : l[i]? with
    | none => rfl
    | some o =>
      simp only [ih, hrc]
      rw [stillStep_pop hl (hg i o · · hx), stepK_pop hl (hg i o · · hx)]

theorem chk_fst {T : Tab} : ∀ (ord tb : List (Nat × List Nat)) (pre : List Nat), chk T ops tb pre ord = true → ∀ p, p ∈ ord → p.1 < ops.size
  | [], _, _, _, p, hp => by cases hp
  | (i, re) :: rest, tb, pre, h, p, hp => by
    unfold chk at h
    split at h
    · cases h
    · rename_i o ho
      simp only [Bool.and_eq_true] at h
      rcases List.mem_cons.1 hp with e | e
      · subst e; exact lt_of_get ho
      · exact chk_fst rest _ _ h.2 p e

theorem draw_start (hT : TabOk P T) {Kx : Exit → AState → Prop} {X : Ctx} {s : AState} {a : Act} {w : World} {n : Nat} {sw : Nat → Nat} {ord : List (Nat × List Nat)} (hn : s.nt = n) (hk : drawOkS sw T ops n ord = true) (hXB : X.base = B) (hR : R X s a w)
    (h : drawK P T ops.toList (Kx .normal) ord s) : wpAny P .any ops (fun e a w => Post B (Kx e) a w) ops.size (Array.replicate ops.size false) a { w with drawn := w.drawn + 1 } := by
  unfold drawOkS at hk
  simp only [Bool.and_eq_true] at hk
  obtain ⟨⟨h1, h2⟩, h3⟩ := hk
  have hS := stat_spec h1
  have hdst : ∀ (i : Nat) (o : Oper) (d : Nat), ops[i]? = some o → o.dst = some d → d < a.tmps.size := by
    intro i o d hi hd
    have := Array.all_eq_true_iff_forall_mem.1 h2 o (Array.mem_of_getElem? hi)
    rw [hd] at this
    rw [hR.nt, hn]
    simpa using this
  have hfalse : ∀ i, (Array.replicate ops.size false).getD i false = false := fun i => getD_replicate_false _ i
  refine draw_any hT hS ops.size (Array.replicate ops.size false) [] ord [] a { w with drawn := w.drawn + 1 } X s a (fun _ => 0) ?_ hdst ?_
  · refine ⟨by simp, fun j oj _ hj => ?_, h3, fun k hk => (by cases hk), fun j oj hj => (by cases hj), by rw [hXB]; exact Ref.refl B, hR.drawn, rfl, rfl, fun _ _ => rfl, h, fun i o hi => (by cases hi), fun i o _ hL => ?_, fun i j oi oj _ hL => ?_, fun y oy hoy hdy _ hall => ?_⟩
    · have hj : (Array.replicate ops.size false).getD j false = true := hj
      rw [hfalse] at hj; cases hj
    · rw [hfalse] at hL; cases hL
    · rw [hfalse] at hL; cases hL
    · obtain ⟨j, hj⟩ := hS.dyn y oy hoy hdy
      cases hall j hj
  · rw [Array.toList_replicate]
    generalize ops.size = m
    induction m with
    | zero => exact Nat.le_refl _
    | succ m ih => rw [List.replicate_succ]; simp only [cntF]; simp; omega

/-- A region that draws its order, all but the last operation, which waits for all others. -/
theorem semL_drawL (hT : TabOk P T) {Kx : Exit → AState → Prop} {s : AState} {id n : Nat} {ord : List (Nat × List Nat)} (m : Nat) (hm : P.follows .mixedOrders = true) (hn : s.nt = n) (hk : drawLOk T ops m n ord = true)
    (h : drawLK P T ops.toList m (Kx .normal) ord s) : @SemL P B (.region id ops true) s ⟨Kx⟩ := by
  intro X a w hXB hR
  unfold drawLOk at hk
  simp only [Bool.and_eq_true] at hk
  obtain ⟨⟨⟨⟨k1, k2⟩, k3⟩, k4⟩, k5⟩ := hk
  have hsz : ops.size = m + 1 := by simpa using k2
  have hg : ∀ (i : Nat) (o : Oper) (j : Nat) (want : Bool), ops[i]? = some o → o.guard = some (j, want) → j < m := by
    intro i o j want ho hgd
    have := Array.all_eq_true_iff_forall_mem.1 k4 o (Array.mem_of_getElem? ho)
    rw [hgd] at this
    simpa using this
  have hml : m < ops.size := by omega
  rw [Array.getElem?_eq_getElem hml] at k5
  simp only [Bool.and_eq_true] at k5
  obtain ⟨⟨⟨q1, q2⟩, q3⟩, q4⟩ := k5
  have hops : ops = ops.pop.push ops[m] := by
    apply Array.ext
    · simp; omega
    · intro i h1 h2
      rw [Array.getElem_push]
      split
      · simp
      · have : i = m := by simp at *; omega
        subst this; rfl
  have hpsz : ops.pop.size = m := by simp; omega
  have popg : ∀ i, i < m → ops.pop[i]? = ops[i]? := by
    intro i hi
    rw [Array.getElem?_eq_getElem (by omega), Array.getElem?_eq_getElem (by omega)]
    simp
  have hpl : ∀ i, i < m → ops.toList[i]? = ops.pop.toList[i]? := by
    intro i hi
    rw [Array.getElem?_toList, Array.getElem?_toList, popg i hi]
  have hord : ∀ p, p ∈ ord → ∀ x, x ∈ p.2 → x < m := fun p hp x hx => by simpa using List.all_eq_true.1 (List.all_eq_true.1 k3 p hp) x hx
  have k1' := k1
  unfold drawOk drawOkS at k1'
  simp only [Bool.and_eq_true] at k1'
  have hS := stat_spec k1'.1.1
  have hfst : ∀ p, p ∈ ord → p.1 < m := fun p hp => by
    have := chk_fst ord [] [] k1'.2 p hp
    omega
  have hdepl : ∀ i, i < m → i ∈ depsOf ops[m] := fun i hi => by simpa using List.all_eq_true.1 q1 i (List.mem_range.2 hi)
  have hdl : ∀ j, j ∈ depsOf ops[m] → j < m := fun j hj => by simpa using List.all_eq_true.1 q4 j hj
  unfold drawLK at h
  rw [drawK_pop hpl (fun i o j want ho => hg i o j want (by rw [← Array.getElem?_toList]; exact ho)) _ ord hord hfst] at h
  have h1 := draw_start (B := B) (Kx := lastX Kx _) (sw := rkS (0, 0)) hT hn k1 hXB hR h
  have h2 := wpAny_push (P := P) (o := ops[m]) (Q := fun e a w => Post B (lastX Kx (fun s => match ops.toList[m]? with | some o => dstOk s o.dst ∧ stepK P T ops.toList o s (Kx .normal) | none => False) e) a w) (Q' := fun e a w => Post B (Kx e) a w) hS.lt (by rw [hpsz]; exact hdepl) (by rw [hpsz]; exact hdl)
    (fun i oi j want ho => by rw [hpsz]; exact hg i oi j want (by rw [← popg i (by have := lt_of_get ho; omega)]; exact ho)) (fun _ _ _ h => h) (fun h => h) ?_ ops.pop.size (Array.replicate ops.pop.size false) a _ (by simp) h1
  · refine wp_region_any hm ?_
    rw [← hops, hpsz] at h2
    have e : (Array.replicate m false).push false = Array.replicate (m + 1) false := by
      apply Array.ext'
      simp [List.replicate_succ']
    rw [e, ← hsz] at h2
    exact h2
  · rw [← hops, hpsz]
    rintro a w ⟨X', s', hX', hR', hΦ⟩
    simp only [Array.getElem?_toList, Array.getElem?_eq_getElem hml] at hΦ
    obtain ⟨hd, hst⟩ := hΦ
    refine step_exec (ops := ops) hT (Array.getElem?_eq_getElem hml) (fun cs b e => by rw [e] at q3; cases q3) hR' (dst_lt hd) (fun _ _ => rfl) hst fun u X2 s2 w2 hX2 hR2 hΦ2 => ?_
    exact ⟨X2, s2, hX2.trans hX', hR2, hΦ2⟩

end

theorem semL_nilA {P : Program} {B : Base} {c : Code} {s : AState} {Kx : Exit → AState → Prop} (i id sz : Nat) (own : Bool) (h1 : s.get i = .sl (some false) []) (h2 : s.blk id = .none) (h3 : nF id) (h4 : 0 < sz)
    (h : @SemL P B c { s with fr := (i, .row id 0) :: s.fr, hp := (id, .row own false sz []) :: s.hp } ⟨Kx⟩) : @SemL P B c s ⟨Kx⟩ :=
  @semL_nil P B c s ⟨Kx⟩ i id sz own h1 h2 h3 h4 h

end Go.Proofs.Yteebkimhfaodnaa

