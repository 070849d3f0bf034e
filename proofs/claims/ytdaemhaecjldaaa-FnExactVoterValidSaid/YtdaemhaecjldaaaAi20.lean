/- One operation of any kind, and regions that keep the order of their text. -/
import Derived.Test.YtdaemhaecjldaaaAi17
namespace Go.Proofs.Ytdaemhaecjldaaa
open Go Go.RowKit

/-- Two values of one kind, of which a pick makes one. -/
def AV.scal : AV → Bool
  | .int _ _ => true
  | .bool _ => true
  | .may _ (.int _ _) => true
  | .may _ (.bool _) => true
  | _ => false

/-- A pick: of two values that may be merged, the merged one; else by cases. -/
def pick2K (c x y : AV) (K : AV → Prop) : Prop :=
  match x.scal && y.scal with
  | true => pickK c x y K
  | false => match c with
    | .bool c => (c = true → K x) ∧ (c = false → K y)
    | _ => False

def vals (s : AState) (xs : List Operand) : List AV := xs.map s.ev

def builtinK (T : Tab) (s : AState) (b : Builtin) (tys : Array TypeId) (xs : List AV) (K : AV → Prop) : Prop :=
  match b, tys.toList, xs with
  | .len, [t], [x] => lenK T s t x K
  | .max, _, x :: xs => maxK x xs K
  | .min, _, x :: xs => minK x xs K
  | _, _, _ => False

/-- What an operation leaves. -/
def opK (P : Program) (T : Tab) (s : AState) (o : Oper) (Φ : AState → Prop) : Prop :=
  match o.op with
  | .move x => Φ (s.put o.dst (s.ev x))
  | .assign x => Φ (s.put o.dst (s.ev x))
  | .pick c a b => pick2K (s.ev c) (s.ev a) (s.ev b) fun v => Φ (s.put o.dst v)
  | .alloc t => allocK T s o.dst t fun v ups => Φ (s.app o.dst v ups)
  | .box _ x => boxOpK s o.dst (s.ev x) fun v ups => Φ (s.app o.dst v ups)
  | .build t ps => buildK T s t ps.toList fun v => Φ (s.put o.dst v)
  | .load t a => loadK T s t (s.ev a) fun v ups => Φ (s.app o.dst v ups)
  | .store t a x => (match tyShape T t with
    | some (_, size, _) => storeVarK s size (s.ev a) (s.ev x) fun _ ups => Φ (s.app o.dst (.tup []) ups)
    | none => False)
  | .binOp op t x y _ => binK T op t (s.ev x) (s.ev y) fun v => Φ (s.put o.dst v)
  | .unOp op _ x => unK op (s.ev x) fun v => Φ (s.put o.dst v)
  | .convert a b x => convertK T a b (s.ev x) fun v => Φ (s.put o.dst v)
  | .fieldAddr t x f => fieldAddrK T s t (s.ev x) f fun v => Φ (s.put o.dst v)
  | .field t x f => fieldK T t (s.ev x) f fun v => Φ (s.put o.dst v)
  | .indexAddr t x i => indexAddrK T s t (s.ev x) (s.ev i) fun v => Φ (s.put o.dst v)
  | .index t x i => indexK T t (s.ev x) (s.ev i) fun v => Φ (s.put o.dst v)
  | .extract x i => extractK (s.ev x) i fun v => Φ (s.put o.dst v)
  | .call c => (match c.callee with
    | .value f => (match s.ev f with
      | .fn k caps => callK P s o.dst k (vals s c.args.toList ++ caps) Φ
      | _ => False)
    | .builtin b => builtinK T s b c.argTypes (vals s c.args.toList) fun v => Φ (s.put o.dst v)
    | _ => False)
  | _ => False

theorem Post.of {B : Base} {K : AState → Prop} {X : Ctx} {s : AState} {a : Act} {w : World} (hB : X.base = B) (h : R X s a w) (hK : K s) : Post B K a w := ⟨X, s, hB, h, hK⟩

theorem fn_eval {X : Ctx} {kd : Nat → Kd} {w : World} {v : Value} {k : FuncId} {caps : List AV} (h : VRel X kd w v (.fn k caps)) :
    ∃ vs : Array Value, v = .func (.func k) #[] vs ∧ vs.size = caps.length ∧ ∀ (i : Nat) (_ : i < caps.length), VRel X kd w (vs.getD i undef) (caps.getD i .top) := by
  cases h with
  | pure h => cases h with
    | fn f vs cs hl h => exact ⟨vs, rfl, hl, fun i hi => .pure (h i hi)⟩

theorem vals_rel {X : Ctx} {s : AState} {a : Act} {w : World} (h : R X s a w) (xs : Array Operand) :
    (xs.map a.eval).size = (vals s xs.toList).length ∧ ∀ (i : Nat) (_ : i < (vals s xs.toList).length), VRel X s.kds w ((xs.map a.eval).getD i undef) ((vals s xs.toList).getD i .top) := by
  refine ⟨by simp [vals], fun i hi => ?_⟩
  have hi' : i < xs.size := by simpa [vals] using hi
  have e1 : (xs.map a.eval).getD i undef = a.eval xs[i] := by simp [Array.getD_eq_getD_getElem?, hi']
  have e2 : (vals s xs.toList).getD i .top = s.ev xs[i] := by
    simp [vals, List.getD_eq_getElem?_getD, hi']
  rw [e1, e2]
  exact h.ev _

theorem pick2K_sound {P : Program} {X : Ctx} {kd : Nat → Kd} {w : World} {c x y : AV} {vc vx vy : Value} {K : AV → Prop} (hc : VRel X kd w vc c) (hx : VRel X kd w vx x) (hy : VRel X kd w vy y) (h : pick2K c x y K) :
    ∃ v av, (do pure (.value (if ← asBool vc then vx else vy)) : Sem Next).run P w = .ok (.value v) w ∧ VRel X kd w v av ∧ K av := by
  unfold pick2K at h
  split at h
  · exact pickK_sound hc hx hy h
  · split at h
    · rename_i c
      have e := hc.bool_inv
      subst e
      cases c with
      | true => exact ⟨vx, x, by simp [asBool], hx, h.1 rfl⟩
      | false => exact ⟨vy, y, by simp [asBool], hy, h.2 rfl⟩
    · exact h.elim

theorem getD_append_left {α : Type} (x y : List α) (i : Nat) (d : α) (h : i < x.length) : (x ++ y).getD i d = x.getD i d := by
  rw [List.getD_eq_getElem?_getD, List.getD_eq_getElem?_getD, List.getElem?_append_left h]

theorem getD_append_right {α : Type} (x y : List α) (i : Nat) (d : α) (h : x.length ≤ i) : (x ++ y).getD i d = y.getD (i - x.length) d := by
  rw [List.getD_eq_getElem?_getD, List.getD_eq_getElem?_getD, List.getElem?_append_right h]

theorem list1 {α : Type} {x : Array α} {a : α} (h : x.toList = [a]) : x = #[a] := by
  rw [← Array.toArray_toList (xs := x), h]

theorem builtinK_sound {P : Program} {T : Tab} (hT : TabOk P T) {X : Ctx} {s : AState} {w : World} {b : Builtin} {tys : Array TypeId} {ty : TypeId} {cs : Array Bool} {vs : Array Value} {xs : List AV} {K : AV → Prop}
    (hl : vs.size = xs.length) (hv : ∀ (i : Nat) (_ : i < xs.length), VRel X s.kds w (vs.getD i undef) (xs.getD i .top)) (h : builtinK T s b tys xs K) :
    ∃ r ar, (builtin b tys ty cs vs).run P w = .ok (.value r) w ∧ VRel X s.kds w r ar ∧ K ar := by
  unfold builtinK at h
  obtain ⟨l, rfl⟩ : ∃ l : List Value, vs = l.toArray := ⟨vs.toList, by simp⟩
  have hv' : ∀ (i : Nat) (_ : i < xs.length), VRel X s.kds w (l.getD i undef) (xs.getD i .top) := by
    intro i hi
    have := hv i hi
    rwa [← arr_getD] at this
  split at h
  · rename_i t x ht
    have e := list1 ht
    subst e
    match l, hl with
    | [v], _ =>
      obtain ⟨r, ar, h1, h2, h3⟩ := lenK_sound (ty := ty) hT (hv' 0 (by simp)) h
      refine ⟨r, ar, ?_, h2, h3⟩
      simp only [builtin, Sem.run_bind]
      rw [show (Builtin.len_ #[t] ty #[v]).run P w = .ok r w from h1]
      rfl
  · rename_i x xs
    match l, hl with
    | v :: l, hl =>
      obtain ⟨r, ar, h1, h2, h3⟩ := maxK_sound (P := P) l xs v x K (hv' 0 (by simp)) (by simpa using hl) (fun i hi => by
        have := hv' (i + 1) (by simp; omega)
        rwa [getD_succ, getD_succ] at this) h
      refine ⟨r, ar, ?_, h2, h3⟩
      simp only [builtin, Builtin.max_, Sem.run_bind]
      rw [show (l.foldlM Builtin.max2 v).run P w = .ok r w from h1]
      rfl
  · rename_i x xs
    match l, hl with
    | v :: l, hl =>
      obtain ⟨r, ar, h1, h2, h3⟩ := minK_sound (P := P) l xs v x K (hv' 0 (by simp)) (by simpa using hl) (fun i hi => by
        have := hv' (i + 1) (by simp; omega)
        rwa [getD_succ, getD_succ] at this) h
      refine ⟨r, ar, ?_, h2, h3⟩
      simp only [builtin, Builtin.min_, Sem.run_bind]
      rw [show (l.foldlM Builtin.min2 v).run P w = .ok r w from h1]
      rfl
  · exact h.elim

theorem shape_size {P : Program} {T : Tab} (hT : TabOk P T) {t : TypeId} {ag fl : Bool} {size : Nat} (h : tyShape T t = some (ag, size, fl)) (w : World) : (sizeOf t).run P w = .ok size w := by
  unfold tyShape at h
  cases hi : T t with
  | none => simp [hi] at h
  | some i =>
    obtain ⟨nf, d, z, ok⟩ := hT.get hi
    simp only [hi, Option.some.injEq, Prod.mk.injEq] at h
    rw [← h.2.1]
    exact ok.run_size w

/-- One operation. -/
theorem opK_sound {P : Program} {T : Tab} (hT : TabOk P T) {X : Ctx} {s : AState} {a : Act} {w : World} {o : Oper} {Φ : AState → Prop} {Q : Exit → Act → World → Prop} (h : R X s a w) (hd : ∀ d, o.dst = some d → d < s.nt) (hK : opK P T s o Φ) :
    o.wp P a w (Post X.base Φ) Q := by
  unfold opK at hK
  -- a value of the same world, no block of the abstract heap turned
  have vput : ∀ (sem : Sem Next) (K : AV → Prop), execOp a.eval o = sem → (∃ r ar, sem.run P w = .ok (.value r) w ∧ VRel X s.kds w r ar ∧ K ar) → (∀ ar, K ar → Φ (s.put o.dst ar)) → o.wp P a w (Post X.base Φ) Q := by
    rintro sem K e ⟨r, ar, h1, h2, h3⟩ h4
    exact wp_of_run (by rw [e]; exact h1) (.of rfl (h.put h2 hd) (h4 _ h3))
  have vrun : ∀ (sem : Sem Value) (K : AV → Prop), execOp a.eval o = (do pure (.value (← sem))) → (∃ r ar, sem.run P w = .ok r w ∧ VRel X s.kds w r ar ∧ K ar) → (∀ ar, K ar → Φ (s.put o.dst ar)) → o.wp P a w (Post X.base Φ) Q := by
    rintro sem K e ⟨r, ar, h1, h2, h3⟩ h4
    refine vput _ K e ⟨r, ar, ?_, h2, h3⟩ h4
    rw [Sem.run_bind, h1]; rfl
  have vapp : ∀ (sem : Sem Value) (K : AV → List (Nat × ABlk) → Prop), execOp a.eval o = (do pure (.value (← sem))) →
      (∃ r ar ups X' w', sem.run P w = .ok r w' ∧ X'.base = X.base ∧ R X' { s with hp := ups ++ s.hp } a w' ∧ VRel X' ({ s with hp := ups ++ s.hp } : AState).kds w' r ar ∧ K ar ups) → (∀ ar ups, K ar ups → Φ (s.app o.dst ar ups)) → o.wp P a w (Post X.base Φ) Q := by
    rintro sem K e ⟨r, ar, ups, X', w', h1, h2, h3, h4, h5⟩ h6
    refine wp_of_run (w' := w') (v := r) (by rw [e, Sem.run_bind, h1]; rfl) (.of h2 (h3.put h4 hd) (h6 _ _ h5))
  cases ho : o.op <;> simp only [ho] at hK <;> try exact hK.elim
  case move x => exact vput (pure (.value (a.eval x))) (fun v => v = s.ev x) (by simp [execOp, ho]) ⟨_, _, rfl, h.ev x, rfl⟩ (fun _ e => e ▸ hK)
  case assign x => exact vput (pure (.value (a.eval x))) (fun v => v = s.ev x) (by simp [execOp, ho]) ⟨_, _, rfl, h.ev x, rfl⟩ (fun _ e => e ▸ hK)
  case pick c x y => exact vput (do pure (.value (if ← asBool (a.eval c) then a.eval x else a.eval y))) _ (by simp only [execOp, ho]) (pick2K_sound (h.ev c) (h.ev x) (h.ev y) hK) (fun _ e => e)
  case alloc t => exact vapp (Instr.alloc t true (.tuple #[])) _ (by simp only [execOp, ho]) (allocK_sound hT h hK) (fun _ _ e => e)
  case box t x => exact vapp (Instr.box t (a.eval x)) _ (by simp only [execOp, ho]) (boxOpK_sound h (h.ev x) hK) (fun _ _ e => e)
  case build t ps => exact vrun (Instr.build t (ps.map fun (i, x) => (i, a.eval x))) _ (by simp only [execOp, ho]) (buildK_sound hT h hK) (fun _ e => e)
  case load t x =>
    refine vapp (Instr.loadAt t (a.eval x)) _ (by simp only [execOp, ho]) ?_ (fun _ _ e => e)
    obtain ⟨r, ar, ups, X', h1, h2, h3, h4, h5⟩ := loadK_sound hT h (h.ev x) hK
    exact ⟨r, ar, ups, X', w, h1, h2, h3, h4, h5⟩
  case store t x y =>
    cases hs : tyShape T t with
    | none => simp [hs] at hK
    | some q =>
      obtain ⟨ag, size, fl⟩ := q
      simp only [hs] at hK
      obtain ⟨ups, w', h1, h2, h3⟩ := storeVarK_sound h (h.ev x) (h.ev y) (shape_size hT hs w) hK
      refine wp_of_skip (w' := w') (by simp only [execOp, ho, Sem.run_bind, h1]; rfl) (.of rfl (h2.put (.pure (.tup #[] [] rfl (fun i hi => absurd hi (by simp)))) hd) h3)
  case binOp op t x y ty => exact vrun (do eqGuard op t x y (a.eval x) (a.eval y); binOp op t (a.eval x) (a.eval y)) _ (by simp only [execOp, ho]) (binK_sound hT (h.ev x) (h.ev y) hK) (fun _ e => e)
  case unOp op t x => exact vrun (Op.unary op (a.eval x)) _ (by simp only [execOp, ho]) (unK_sound (h.ev x) hK) (fun _ e => e)
  case convert t t' x => exact vrun (convert t t' (a.eval x)) _ (by simp only [execOp, ho]) (convertK_sound hT (h.ev x) hK) (fun _ e => e)
  case fieldAddr t x f => exact vrun (Instr.fieldAt t (a.eval x) f) _ (by simp only [execOp, ho]) (fieldAddrK_sound hT (h.ev x) hK) (fun _ e => e)
  case field t x f => exact vrun (Instr.field t (a.eval x) f) _ (by simp only [execOp, ho]) (fieldK_sound hT (h.ev x) hK) (fun _ e => e)
  case indexAddr t x i => exact vrun (Instr.indexAt t (a.eval x) (a.eval i)) _ (by simp only [execOp, ho]) (indexAddrK_sound hT (h.ev x) (h.ev i) hK) (fun _ e => e)
  case index t x i => exact vrun (Instr.index t (a.eval x) (a.eval i)) _ (by simp only [execOp, ho]) (indexK_sound hT (h.ev x) (h.ev i) hK) (fun _ e => e)
  case extract x i => exact vrun (Instr.extract (a.eval x) i) _ (by simp only [execOp, ho]) (extractK_sound (h.ev x) hK) (fun _ e => e)
  case call c =>
    cases hc : c.callee with
    | value f =>
      simp only [hc] at hK
      have hf := h.ev f
      generalize s.ev f = af at hK hf
      cases af <;> try exact hK.elim
      rename_i k caps
      obtain ⟨cv, e, hcl, hcv⟩ := fn_eval hf
      obtain ⟨hvl, hvr⟩ := vals_rel h c.args
      have hl : (c.args.map a.eval ++ cv).size = (vals s c.args.toList ++ caps).length := by
        rw [Array.size_append, List.length_append, hvl, hcl]
      obtain ⟨g1, g2⟩ := callK_sound h hd hl (fun i hi => by
        by_cases hi' : i < (vals s c.args.toList).length
        · have e1 : (c.args.map a.eval ++ cv).getD i undef = (c.args.map a.eval).getD i undef := by
            rw [← arr_getD, ← arr_getD, Array.toList_append, getD_append_left _ _ _ _ (by rw [Array.length_toList, hvl]; exact hi')]
          have e2 : (vals s c.args.toList ++ caps).getD i .top = (vals s c.args.toList).getD i .top := getD_append_left _ _ _ _ hi'
          rw [e1, e2]
          exact hvr i hi'
        · rw [List.length_append] at hi
          have e1 : (c.args.map a.eval ++ cv).getD i undef = cv.getD (i - (vals s c.args.toList).length) undef := by
            rw [← arr_getD, ← arr_getD, Array.toList_append, getD_append_right _ _ _ _ (by rw [Array.length_toList, hvl]; omega), Array.length_toList, hvl]
          have e2 : (vals s c.args.toList ++ caps).getD i .top = caps.getD (i - (vals s c.args.toList).length) .top := getD_append_right _ _ _ _ (by omega)
          rw [e1, e2]
          exact hcv _ (by omega)) hK
      have hrun : (execOp a.eval o).run P w = .ok (.enter k (c.args.map a.eval ++ cv)) w := by
        simp only [execOp, ho, resolve, hc, e, Deferred.ofValue, Sem.run_bind, Sem.run_pure, Result.andThen_ok, invoke, Array.empty_append]
        exact g1 w
      unfold Oper.wp
      rw [hrun]
      refine g2.mono ?_
      rintro e w' ⟨v, rfl, hp⟩
      exact hp
    | invoke r n => simp [hc] at hK
    | builtin b =>
      simp only [hc] at hK
      obtain ⟨hvl, hvr⟩ := vals_rel h c.args
      refine vput (builtin b c.argTypes o.type (c.args.map fun | .const _ => true | _ => false) (c.args.map a.eval)) _ ?_ (builtinK_sound hT hvl hvr hK) (fun _ e => e)
      simp [execOp, ho, resolve, hc, invoke]
      rfl

end Go.Proofs.Ytdaemhaecjldaaa
