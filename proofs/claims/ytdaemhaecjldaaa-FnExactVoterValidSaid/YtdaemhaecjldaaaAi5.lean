/- Why the operations that compute are right. -/
import Derived.Test.YtdaemhaecjldaaaAi4
namespace Go.Proofs.Ytdaemhaecjldaaa
open Go Go.RowKit

theorem wp_of_run {P : Program} {o : Oper} {a : Act} {w w' : World} {v : Value} {next : Act → World → Prop} {Q : Exit → Act → World → Prop}
    (h : (execOp a.eval o).run P w = .ok (.value v) w') (hk : next (a.put o.dst v) w') : o.wp P a w next Q := by
  unfold Oper.wp; rw [h]; exact hk

theorem wp_of_skip {P : Program} {o : Oper} {a : Act} {w w' : World} {next : Act → World → Prop} {Q : Exit → Act → World → Prop}
    (h : (execOp a.eval o).run P w = .ok .skip w') (hk : next (a.put o.dst undef) w') : o.wp P a w next Q := by
  unfold Oper.wp; rw [h]; exact hk

theorem run_shift (P : Program) (w : World) (op : BinOp) (k k' : IntKind) (x y : Int) (hy : 0 ≤ y) (h : op = .shl ∨ op = .shr) :
    (Op.shift op k x k' y).run P w = .ok (.int k (if op = .shl then k.wrap (x * 2 ^ (min y.toNat k.bits)) else x.fdiv (2 ^ (min y.toNat k.bits)))) w := by
  unfold Op.shift
  rw [if_neg (by omega)]
  rcases h with rfl | rfl <;> rfl

theorem intK_sound {P : Program} {w : World} {op : BinOp} {t : TypeId} {k k' : IntKind} {a b : Int} {K : AV → Prop} (h : intK op k k' a b K) :
    ∃ v av, (binOp op t (.int k a) (.int k' b)).run P w = .ok v w ∧ (∀ S, Reads w S v av) ∧ K av := by
  cases op
  case shl =>
    obtain ⟨h1, h2⟩ := h
    exact ⟨_, _, run_shift P w .shl k k' a b h1 (.inl rfl), fun S => .int _ _, h2⟩
  case shr =>
    obtain ⟨h1, h2⟩ := h
    exact ⟨_, _, run_shift P w .shr k k' a b h1 (.inr rfl), fun S => .int _ _, h2⟩
  case quo =>
    obtain ⟨rfl, h1, h2⟩ := h
    exact ⟨_, _, by simp [binOp, Op.intDiv, h1], fun S => .int _ _, h2⟩
  case rem =>
    obtain ⟨rfl, h1, h2⟩ := h
    exact ⟨_, _, by simp [binOp, Op.intDiv, h1], fun S => .int _ _, h2⟩
  case add => obtain ⟨rfl, h2⟩ := h; exact ⟨_, _, by simp only [binOp, ne_eq, not_true_eq_false, if_false]; rfl, fun S => .int _ _, h2⟩
  case sub => obtain ⟨rfl, h2⟩ := h; exact ⟨_, _, by simp only [binOp, ne_eq, not_true_eq_false, if_false]; rfl, fun S => .int _ _, h2⟩
  case mul => obtain ⟨rfl, h2⟩ := h; exact ⟨_, _, by simp only [binOp, ne_eq, not_true_eq_false, if_false]; rfl, fun S => .int _ _, h2⟩
  case and => obtain ⟨rfl, h2⟩ := h; exact ⟨_, _, by simp only [binOp, ne_eq, not_true_eq_false, if_false]; rfl, fun S => .int _ _, h2⟩
  case or => obtain ⟨rfl, h2⟩ := h; exact ⟨_, _, by simp only [binOp, ne_eq, not_true_eq_false, if_false]; rfl, fun S => .int _ _, h2⟩
  case xor => obtain ⟨rfl, h2⟩ := h; exact ⟨_, _, by simp only [binOp, ne_eq, not_true_eq_false, if_false]; rfl, fun S => .int _ _, h2⟩
  case andNot => obtain ⟨rfl, h2⟩ := h; exact ⟨_, _, by simp only [binOp, ne_eq, not_true_eq_false, if_false]; rfl, fun S => .int _ _, h2⟩
  case eql => obtain ⟨rfl, h2⟩ := h; exact ⟨_, _, by simp only [binOp, ne_eq, not_true_eq_false, if_false]; rfl, fun S => .bool _, h2⟩
  case neq => obtain ⟨rfl, h2⟩ := h; exact ⟨_, _, by simp only [binOp, ne_eq, not_true_eq_false, if_false]; rfl, fun S => .bool _, h2⟩
  case lss => obtain ⟨rfl, h2⟩ := h; exact ⟨_, _, by simp only [binOp, ne_eq, not_true_eq_false, if_false]; rfl, fun S => .bool _, h2⟩
  case leq => obtain ⟨rfl, h2⟩ := h; exact ⟨_, _, by simp only [binOp, ne_eq, not_true_eq_false, if_false]; rfl, fun S => .bool _, h2⟩
  case gtr => obtain ⟨rfl, h2⟩ := h; exact ⟨_, _, by simp only [binOp, ne_eq, not_true_eq_false, if_false]; rfl, fun S => .bool _, h2⟩
  case geq => obtain ⟨rfl, h2⟩ := h; exact ⟨_, _, by simp only [binOp, ne_eq, not_true_eq_false, if_false]; rfl, fun S => .bool _, h2⟩

/-- The cells of two aggregates, compared one by one as '==' does. -/
theorem eqFields_run {P : Program} {w : World} (xs ys : Array Value) (d : Nat) : ∀ (fs : List Field) (n : Nat) (as bs : List AV) (acc : Bool) (K : Bool → Prop),
    eqFieldsOk P n fs = true → as.length = fs.length → bs.length = fs.length →
    (∀ (j : Nat) (_ : j < as.length), ∀ k m, as.getD j .top = .int k m → xs[n + j]? = some (.int k m)) →
    (∀ (j : Nat) (_ : j < bs.length), ∀ k m, bs.getD j .top = .int k m → ys[n + j]? = some (.int k m)) →
    eqCellsK as bs acc K → ∃ r, (Op.eqFields (d + 1) xs ys fs).run P w = .ok r w ∧ K (acc && r) := by
  intro fs
  induction fs with
  | nil =>
    intro n as bs acc K _ h1 h2 _ _ hK
    have : as = [] := List.eq_nil_of_length_eq_zero (by simpa using h1)
    subst this
    have : bs = [] := List.eq_nil_of_length_eq_zero (by simpa using h2)
    subst this
    exact ⟨true, rfl, by simpa [eqCellsK] using hK⟩
  | cons f fs ih =>
    intro n as bs acc K hok h1 h2 hx hy hK
    simp only [eqFieldsOk, Bool.and_eq_true, beq_iff_eq, bne_iff_ne, ne_eq] at hok
    obtain ⟨⟨⟨ho, hname⟩, hty⟩, hrest⟩ := hok
    obtain ⟨kk, hu⟩ : ∃ kk, P.underlying f.type = some (.int kk) := by
      split at hty
      · rename_i kk hu; exact ⟨kk, hu⟩
      · cases hty
    have hagg : (isAgg f.type).run P w = .ok false w := by
      unfold isAgg
      rw [Sem.run_bind, run_underlying hu w]
      rfl
    have hpart : ∀ (c : Array Value) (v : Value), c[n]? = some v → (part f.type c f.offset).run P w = .ok v w := by
      intro c v hc
      unfold part
      rw [Sem.run_bind, hagg]
      simp [ho, hc]
    match as, bs with
    | [], _ => simp at h1
    | _ :: _, [] => simp at h2
    | .int k a :: as, .int k' b :: bs =>
      simp only [eqCellsK] at hK
      obtain ⟨rfl, hK⟩ := hK
      have e1 := hx 0 (by simp) k a (by simp)
      have e2 := hy 0 (by simp) k b (by simp)
      rw [Nat.add_zero] at e1 e2
      have ihx : ∀ (j : Nat) (_ : j < as.length), ∀ k m, as.getD j .top = .int k m → xs[n + 1 + j]? = some (.int k m) := fun j hj k m e => by
        have := hx (j + 1) (by simp; omega) k m (by simpa using e); rwa [show n + (j + 1) = n + 1 + j by omega] at this
      have ihy : ∀ (j : Nat) (_ : j < bs.length), ∀ k m, bs.getD j .top = .int k m → ys[n + 1 + j]? = some (.int k m) := fun j hj k m e => by
        have := hy (j + 1) (by simp; omega) k m (by simpa using e); rwa [show n + (j + 1) = n + 1 + j by omega] at this
      obtain ⟨r, hr, hKr⟩ := ih (n + 1) as bs (acc && (a == b)) K hrest (by simpa using h1) (by simpa using h2) ihx ihy hK
      have he := run_equalIn_int (P := P) w d f.type k kk a b hu
      refine ⟨(a == b) && r, ?_, by rw [← Bool.and_assoc]; exact hKr⟩
      simp only [Op.eqFields, hname, not_false_eq_true, if_true, Sem.run_bind, hpart xs _ e1, hpart ys _ e2, he, Result.andThen_ok, ne_eq]
      cases (a == b)
      · simp
      · simp [hr]
    | .int _ _ :: _, .top :: _ => simp [eqCellsK] at hK
    | .int _ _ :: _, .bool _ :: _ => simp [eqCellsK] at hK
    | .int _ _ :: _, .sl _ _ :: _ => simp [eqCellsK] at hK
    | .int _ _ :: _, .fn _ _ :: _ => simp [eqCellsK] at hK
    | .int _ _ :: _, .agg _ :: _ => simp [eqCellsK] at hK
    | .int _ _ :: _, .tup _ :: _ => simp [eqCellsK] at hK
    | .int _ _ :: _, .loc _ _ :: _ => simp [eqCellsK] at hK
    | .int _ _ :: _, .elt _ _ _ :: _ => simp [eqCellsK] at hK
    | .int _ _ :: _, .pel _ :: _ => simp [eqCellsK] at hK
    | .int _ _ :: _, .row _ _ :: _ => simp [eqCellsK] at hK
    | .int _ _ :: _, .may _ _ :: _ => simp [eqCellsK] at hK
    | .int _ _ :: _, .osl _ _ _ :: _ => simp [eqCellsK] at hK
    | .int _ _ :: _, .box _ :: _ => simp [eqCellsK] at hK
    | .top :: _, _ :: _ => simp [eqCellsK] at hK
    | .bool _ :: _, _ :: _ => simp [eqCellsK] at hK
    | .sl _ _ :: _, _ :: _ => simp [eqCellsK] at hK
    | .fn _ _ :: _, _ :: _ => simp [eqCellsK] at hK
    | .agg _ :: _, _ :: _ => simp [eqCellsK] at hK
    | .tup _ :: _, _ :: _ => simp [eqCellsK] at hK
    | .loc _ _ :: _, _ :: _ => simp [eqCellsK] at hK
    | .elt _ _ _ :: _, _ :: _ => simp [eqCellsK] at hK
    | .pel _ :: _, _ :: _ => simp [eqCellsK] at hK
    | .row _ _ :: _, _ :: _ => simp [eqCellsK] at hK
    | .may _ _ :: _, _ :: _ => simp [eqCellsK] at hK
    | .osl _ _ _ :: _, _ :: _ => simp [eqCellsK] at hK
    | .box _ :: _, _ :: _ => simp [eqCellsK] at hK

/-- The value of a binary operation. -/
theorem binK_sound {P : Program} {T : Tab} (hT : TabOk P T) {X : Ctx} {kd : Nat → Kd} {w : World} {op : BinOp} {t : TypeId} {x y : Operand} {u v : Value} {au av : AV} {K : AV → Prop}
    (hu : VRel X kd w u au) (hv : VRel X kd w v av) (h : binK T op t au av K) :
    ∃ r ar, (do eqGuard op t x y u v; binOp op t u v : Sem Value).run P w = .ok r w ∧ VRel X kd w r ar ∧ K ar := by
  unfold binK at h
  split at h
  · rename_i k a k' b
    cases hu.int_inv; cases hv.int_inv
    obtain ⟨r, ar, h1, h2, h3⟩ := intK_sound (P := P) (w := w) (t := t) h
    refine ⟨r, ar, ?_, .pure (h2 _), h3⟩
    rw [eqGuard_at_int]
    simpa using h1
  · rename_i a b
    cases hu.bool_inv; cases hv.bool_inv
    obtain ⟨ht, h⟩ := h
    have hub : P.underlying t = some .bool := by
      unfold isBool at ht
      split at ht
      · rename_i i hi
        obtain ⟨nf, d, z, ok⟩ := hT.get hi
        have := ok.tk
        split at ht
        · rename_i hk
          rw [hk] at this
          rw [ok.und]
          cases d <;> simp_all [tkOk]
        · cases ht
      · cases ht
    split at h
    · exact ⟨_, _, by rw [eqGuard_at_bool]; simp [run_eql_bool (P := P) w t a b hub], .pure (.bool _), h⟩
    · refine ⟨.bool (a != b), _, ?_, .pure (.bool _), h⟩
      rw [eqGuard_at_bool]
      simp only [binOp, pure_bind, Sem.run_bind, run_equal_bool (P := P) w t a b hub, Result.andThen_ok, Sem.run_pure]
      cases a <;> cases b <;> rfl
    · exact h.elim
  · rename_i nn es
    obtain ⟨ht, h⟩ := h
    have hu' := hu.sl_inv
    have hv' := hv.sl_inv
    have hus : ∃ e, P.underlying t = some (.slice e) := by
      unfold isSlice at ht
      split at ht
      · rename_i i hi
        obtain ⟨nf, d, z, ok⟩ := hT.get hi
        have := ok.tk
        split at ht
        · rename_i e hk
          rw [hk] at this
          rw [ok.und]
          cases d <;> simp_all [tkOk]
        · cases ht
      · cases ht
    obtain ⟨e, hus⟩ := hus
    have ev : v = .slice none 0 0 := by
      generalize ha : AV.sl (some false) [] = a at hv'
      cases hv' with
      | nil => rfl
      | empty a cap nn hn => cases ha; exact absurd rfl hn
      | slice b o cap sz nn es f hn => cases ha; exact absurd rfl hn
      | _ => cases ha
    subst ev
    have ek : ∃ (a : Option Addr) (n c : Nat), u = .slice a n c ∧ a.isNone = !nn := by
      generalize ha : AV.sl (some nn) es = aa at hu'
      cases hu' with
      | nil nn' hn => cases ha; refine ⟨none, 0, 0, rfl, ?_⟩; cases nn <;> simp_all
      | empty a cap nn' hn => cases ha; refine ⟨_, _, _, rfl, ?_⟩; cases nn <;> simp_all
      | slice b o cap sz nn' es f hn => cases ha; refine ⟨_, _, _, rfl, ?_⟩; cases nn <;> simp_all
      | _ => cases ha
    obtain ⟨ad, n, c, rfl, hnn⟩ := ek
    have hg : ∀ op, (eqGuard op t x y (.slice ad n c) (.slice none 0 0)) = pure () := by intro op; cases op <;> rfl
    have he := run_equal_slice_nil (P := P) w t e ad n c hus
    split at h
    · refine ⟨.bool (!nn), _, ?_, .pure (.bool _), h⟩
      rw [hg]
      simp only [binOp, pure_bind, Sem.run_bind, he, Result.andThen_ok, Sem.run_pure, hnn]
    · refine ⟨.bool nn, _, ?_, .pure (.bool _), h⟩
      rw [hg]
      simp only [binOp, pure_bind, Sem.run_bind, he, Result.andThen_ok, Sem.run_pure, hnn, Bool.not_not]
    · exact h.elim
  · rename_i xs ys
    obtain ⟨ht, hl, h⟩ := h
    obtain ⟨us, rfl, hus, hur⟩ := hu.agg_inv
    obtain ⟨vs, rfl, hvs, hvr⟩ := hv.agg_inv
    unfold eqsSize at ht
    split at ht
    · rename_i i hi
      split at ht
      · rename_i heq
        obtain ⟨nf, d, z, ok⟩ := hT.get hi
        have hq := ok.eqs heq
        simp only [eqsOk, Bool.and_eq_true, Bool.not_eq_true'] at hq
        obtain ⟨⟨hg, hst⟩, hq⟩ := hq
        split at hq
        · rename_i fs hfs
          simp only [Bool.and_eq_true, beq_iff_eq] at hq
          have hfo : P.fieldsOf t = fs := by simp [Program.fieldsOf, hfs]
          have hsz : xs.length = fs.size := by
            have := Option.some.inj ht; omega
          have hxs : ∀ (j : Nat) (_ : j < xs.length), ∀ k m, xs.getD j .top = .int k m → us[0 + j]? = some (.int k m) := by
            intro j hj k m e
            have := hur j hj
            rw [e] at this
            have h1 := this.int_inv
            have hj' : j < us.size := by omega
            simpa [Array.getD, hj'] using h1
          have hys : ∀ (j : Nat) (_ : j < ys.length), ∀ k m, ys.getD j .top = .int k m → vs[0 + j]? = some (.int k m) := by
            intro j hj k m e
            have := hvr j hj
            rw [e] at this
            have h1 := this.int_inv
            have hj' : j < vs.size := by omega
            simpa [Array.getD, hj'] using h1
          have hrun := eqFields_run (P := P) (w := w) us vs 9998 fs.toList 0 xs ys true
          have hin : (Op.equalIn 10000 t (.agg us) (.agg vs)).run P w = (Op.eqFields 9999 us vs fs.toList).run P w := by
            have := run_equalIn_struct (P := P) w 9999 t us vs (by rw [hfo]; exact hfs) hst
            rwa [hfo] at this
          split at h
          · obtain ⟨r, hr, hK⟩ := hrun _ hq.2 (by simpa using hsz) (by simpa using (by omega : ys.length = fs.size)) hxs hys h
            rw [Bool.true_and] at hK
            refine ⟨.bool r, _, ?_, .pure (.bool _), hK⟩
            rw [Sem.run_bind, run_eqGuard_agg (P := P) w .eql t x y us vs hg, Result.andThen_ok, run_eql_struct, hin, hr]
            rfl
          · obtain ⟨r, hr, hK⟩ := hrun _ hq.2 (by simpa using hsz) (by simpa using (by omega : ys.length = fs.size)) hxs hys h
            rw [Bool.true_and] at hK
            refine ⟨.bool (!r), _, ?_, .pure (.bool _), hK⟩
            rw [Sem.run_bind, run_eqGuard_agg (P := P) w .neq t x y us vs hg, Result.andThen_ok, run_neq_struct, hin, hr]
            rfl
          · exact h.elim
        · cases hq
      · cases ht
    · cases ht
  · exact h.elim

end Go.Proofs.Ytdaemhaecjldaaa
