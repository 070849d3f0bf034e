/- Why the operations that make addresses and read memory are right. -/
import Derived.Test.YtdaemhaecjldaaaAi5
namespace Go.Proofs.Ytdaemhaecjldaaa
open Go Go.RowKit

theorem addr_add (b o n : Nat) : (⟨b, o, none⟩ : Addr).add n = ⟨b, o + n, none⟩ := by
  unfold Addr.add; split <;> simp_all

section
variable {P : Program} {T : Tab} (hT : TabOk P T)
include hT
theorem isSlice_und {t : TypeId} (h : isSlice T t = true) : ∃ e, P.underlying t = some (.slice e) := by
  unfold isSlice at h
  split at h
  · rename_i i hi
    obtain ⟨nf, d, z, ok⟩ := hT.get hi
    have := ok.tk
    split at h
    · rename_i e hk
      rw [hk] at this
      rw [ok.und]
      cases d <;> simp_all [tkOk]
    · cases h
  · cases h

theorem elemSize_und {t : TypeId} {sz : Nat} (h : elemSize T t = some sz) : ∃ e ei nf d z, P.underlying t = some (.slice e) ∧ T e = some ei ∧ ei.size = sz ∧ TIok P e ei nf d z := by
  unfold elemSize at h
  split at h
  · rename_i i hi
    obtain ⟨nf, d, z, ok⟩ := hT.get hi
    have := ok.tk
    split at h
    · rename_i e hk
      rw [hk] at this
      cases he : T e with
      | none => simp [he] at h
      | some ei =>
        obtain ⟨nf', d', z', ok'⟩ := hT.get he
        refine ⟨e, ei, nf', d', z', ?_, he, by simpa [he] using h, ok'⟩
        rw [ok.und]
        cases d <;> simp_all [tkOk]
    · cases h
  · cases h

theorem arrElem_und {t : TypeId} {m sz : Nat} (h : arrElem T t = some (m, sz)) : ∃ e ei nf d z, P.underlying t = some (.array m e) ∧ T e = some ei ∧ ei.size = sz ∧ TIok P e ei nf d z := by
  unfold arrElem at h
  split at h
  · rename_i i hi
    obtain ⟨nf, d, z, ok⟩ := hT.get hi
    have := ok.tk
    split at h
    · rename_i n e hk
      rw [hk] at this
      cases he : T e with
      | none => simp [he] at h
      | some ei =>
        obtain ⟨nf', d', z', ok'⟩ := hT.get he
        simp only [he, Option.map_some, Option.some.injEq, Prod.mk.injEq] at h
        refine ⟨e, ei, nf', d', z', ?_, he, h.2, ok'⟩
        rw [ok.und, ← h.1]
        cases d <;> simp_all [tkOk]
    · cases h
  · cases h

theorem fieldOff_und {t : TypeId} {f o sz : Nat} (h : fieldOff T t f = some (o, sz)) : ∃ fs fd fi nf d z, P.underlying t = some (.struct fs) ∧ fs[f]? = some fd ∧ fd.offset = o ∧ fi.size = sz ∧ TIok P fd.type fi nf d z := by
  unfold fieldOff at h
  split at h
  · rename_i i hi
    obtain ⟨nf, d, z, ok⟩ := hT.get hi
    have htk := ok.tk
    split at h
    · rename_i gs hk
      rw [hk] at htk
      split at h
      · rename_i o' ft hg
        cases hf : T ft with
        | none => simp [hf] at h
        | some fi =>
          obtain ⟨nf', d', z', ok'⟩ := hT.get hf
          simp only [hf, Option.map_some, Option.some.injEq, Prod.mk.injEq] at h
          cases d <;> simp only [tkOk, Bool.false_eq_true] at htk
          rename_i fs
          simp only [beq_iff_eq] at htk
          rw [← htk] at hg
          simp only [List.getElem?_map, Array.getElem?_toList, Option.map_eq_some_iff, Prod.mk.injEq] at hg
          obtain ⟨fd, h1, h2, h3⟩ := hg
          exact ⟨fs, fd, fi, nf', d', z', ok.und, h1, h2.trans h.1, h.2, by rw [h3]; exact ok'⟩
      · cases h
    · cases h
  · cases h
end

theorem unMay_sound {X : Ctx} {kd : Nat → Kd} {w : World} {c : Bool} {a : AV} {v : Value} {K : AV → Prop} (hv : VRel X kd w v a) (h : unMay c a K) : ∃ a', K a' ∧ (c = true → VRel X kd w v a') := by
  unfold unMay at h
  split at h
  · obtain ⟨h1, h2⟩ := h
    exact ⟨_, h2, fun hc => hv.may_inv (h1 hc)⟩
  · exact ⟨_, h, fun _ => hv⟩

theorem pickK_sound {P : Program} {X : Ctx} {kd : Nat → Kd} {w : World} {c x y : AV} {vc vx vy : Value} {K : AV → Prop} (hc : VRel X kd w vc c) (hx : VRel X kd w vx x) (hy : VRel X kd w vy y) (h : pickK c x y K) :
    ∃ v av, (do pure (.value (if ← asBool vc then vx else vy)) : Sem Next).run P w = .ok (.value v) w ∧ VRel X kd w v av ∧ K av := by
  unfold pickK at h
  split at h
  · rename_i c
    cases hc.bool_inv
    obtain ⟨x', h, hx'⟩ := unMay_sound hx h
    obtain ⟨y', h, hy'⟩ := unMay_sound hy h
    obtain ⟨av, hp, hK⟩ := h
    refine ⟨if c then vx else vy, av, by simp [asBool], ?_, hK⟩
    unfold pickV at hp
    split at hp
    · cases hp
      cases c
      · rw [(hy' rfl).bool_inv]; exact .pure (.bool _)
      · rw [(hx' rfl).bool_inv]; exact .pure (.bool _)
    · split at hp
      · rename_i hk
        subst hk
        cases hp
        cases c
        · rw [(hy' rfl).int_inv]; exact .pure (.int _ _)
        · rw [(hx' rfl).int_inv]; exact .pure (.int _ _)
      · cases hp
    · cases hp
  · exact h.elim

theorem unK_sound {P : Program} {X : Ctx} {kd : Nat → Kd} {w : World} {op : UnOp} {x : AV} {v : Value} {K : AV → Prop} (hx : VRel X kd w v x) (h : unK op x K) :
    ∃ r ar, (Op.unary op v).run P w = .ok r w ∧ VRel X kd w r ar ∧ K ar := by
  unfold unK at h
  split at h
  · cases hx.bool_inv; exact ⟨_, _, rfl, .pure (.bool _), h⟩
  · cases hx.int_inv; exact ⟨_, _, rfl, .pure (.int _ _), h⟩
  · exact h.elim

theorem Reads.sl_shape {w : World} {S : Nat → Prop} {v : Value} {nn : Option Bool} {es : List (List AV)} (h : Reads w S v (.sl nn es)) : ∃ (a : Option Addr) (c : Nat), v = .slice a es.length c := by
  generalize ha : AV.sl nn es = a at h
  cases h with
  | nil nn' hn => cases ha; exact ⟨none, 0, rfl⟩
  | empty a cap nn' hn => cases ha; exact ⟨_, _, rfl⟩
  | slice b o cap sz nn' es' f => cases ha; exact ⟨_, _, rfl⟩
  | _ => cases ha

theorem lenK_sound {P : Program} {T : Tab} (hT : TabOk P T) {X : Ctx} {s : AState} {w : World} {t ty : TypeId} {x : AV} {v : Value} {K : AV → Prop} (hx : VRel X s.kds w v x) (h : lenK T s t x K) :
    ∃ r ar, (Builtin.len_ #[t] ty #[v]).run P w = .ok r w ∧ VRel X s.kds w r ar ∧ K ar := by
  unfold lenK at h
  split at h
  · rename_i nn es
    obtain ⟨h1, h2⟩ := h
    obtain ⟨e, hu⟩ := isSlice_und hT h1
    obtain ⟨ad, c, rfl⟩ := hx.sl_inv.sl_shape
    exact ⟨_, _, by simp [Builtin.len_, run_underlying hu]; rfl, .pure (.int _ _), h2⟩
  · rename_i id n
    obtain ⟨h1, hk, h2⟩ := h
    obtain ⟨e, hu⟩ := isSlice_und hT h1
    have hkd : ∃ sz, s.kds id = .row sz := by
      unfold AState.kds
      split at hk
      · rename_i sz _ hb; rw [hb]; exact ⟨_, rfl⟩
      · rename_i sz _ hb; rw [hb]; exact ⟨_, rfl⟩
      · exact hk.elim
    obtain ⟨sz, hkd⟩ := hkd
    rcases hx.row_inv hkd with ⟨b, rfl, _⟩ | ⟨rfl, rfl, _⟩
    · exact ⟨_, _, by simp [Builtin.len_, run_underlying hu]; rfl, .pure (.int _ _), h2⟩
    · exact ⟨_, _, by simp [Builtin.len_, run_underlying hu]; rfl, .pure (.int _ _), h2⟩
  · split at h
    · rename_i n sz ha
      obtain ⟨e, ei, nf, d, z, hu, _⟩ := arrElem_und hT ha
      refine ⟨_, _, ?_, .pure (.int _ _), h⟩
      simp [Builtin.len_, run_underlying hu]; rfl
    · exact h.elim

theorem fieldAddrK_sound {P : Program} {T : Tab} (hT : TabOk P T) {X : Ctx} {s : AState} {w : World} {t : TypeId} {f : Nat} {x : AV} {v : Value} {K : AV → Prop} (hx : VRel X s.kds w v x) (h : fieldAddrK T s t x f K) :
    ∃ r ar, (Instr.fieldAt t v f).run P w = .ok r w ∧ VRel X s.kds w r ar ∧ K ar := by
  unfold fieldAddrK at h
  split at h
  · rename_i o sz hf
    obtain ⟨h0, h⟩ := h
    obtain ⟨fs, fd, fi, nf, d, z, hu, hfd, ho, hsz, ok⟩ := fieldOff_und hT hf
    have hrun : ∀ b off, (Instr.fieldAt t (.pointer (some ⟨b, off, none⟩)) f).run P w = .ok (.pointer (some ⟨b, off + o, none⟩)) w := by
      intro b off
      simp only [Instr.fieldAt, Sem.run_bind, run_underlying hu, Result.andThen_ok, hfd, Instr.sureAddr, Sem.run_pure, fieldPlace, ok.run_size, Sem.run_ite]
      rw [if_neg (by omega), Result.andThen_ok, addr_add, ho]
    split at h
    · rename_i id off
      obtain ⟨hk, hK⟩ := h
      have hkd : s.kds id = .var := by
        unfold AState.kds
        split at hk
        · rename_i hb; rw [hb]; rfl
        · exact hk.elim
      obtain ⟨b, rfl, hi⟩ := hx.loc_inv hkd
      exact ⟨_, _, hrun b off, .loc id _ b hkd hi, hK⟩
    · rename_i id i off
      obtain ⟨hk, hK⟩ := h
      have hkd : ∃ sz, s.kds id = .row sz := by
        unfold AState.kds
        split at hk
        · rename_i sz _ hb; rw [hb]; exact ⟨_, rfl⟩
        · rename_i sz _ hb; rw [hb]; exact ⟨_, rfl⟩
        · exact hk.elim
      obtain ⟨sz', hkd⟩ := hkd
      obtain ⟨b, rfl, hi⟩ := hx.elt_inv hkd
      exact ⟨_, _, hrun b _, by rw [Nat.add_assoc]; exact .elt id i _ sz' b hkd hi, hK⟩
    · rename_i cs
      obtain ⟨hl, hK⟩ := h
      obtain ⟨b, o', g, rfl, hl', hS, hc, hr⟩ := hx.pel_inv
      refine ⟨_, _, hrun b o', .pel _ b (o' + o) (fun j => g (o + j)) (by simp; omega) hS ?_ ?_, hK⟩
      · intro j hj
        have := hc (o + j) (by simp at hj; omega)
        rwa [← Nat.add_assoc] at this
      · intro j hj
        have := hr (o + j) (by simp at hj; omega)
        simpa [List.getD_eq_getElem?_getD, List.getElem?_drop] using this
    · exact h.elim
  · exact h.elim

theorem indexAddrK_sound {P : Program} {T : Tab} (hT : TabOk P T) {X : Ctx} {s : AState} {w : World} {t : TypeId} {x y : AV} {v u : Value} {K : AV → Prop} (hx : VRel X s.kds w v x) (hy : VRel X s.kds w u y)
    (h : indexAddrK T s t x y K) : ∃ r ar, (Instr.indexAt t v u).run P w = .ok r w ∧ VRel X s.kds w r ar ∧ K ar := by
  unfold indexAddrK at h
  split at h
  · rename_i k n
    cases hy.int_inv
    split at h
    · rename_i nn es
      obtain ⟨⟨h0, h1⟩, he, hK⟩ := h
      obtain ⟨e, ei, nf, d, z, hu, hTe, hsz, ok⟩ := elemSize_und hT he
      have hr := hx.sl_inv
      generalize ha : AV.sl nn es = aa at hr
      cases hr with
      | nil nn' hn => cases ha; simp at h1; omega
      | empty a cap nn' hn => cases ha; simp at h1; omega
      | slice b o cap sz nn' es' g hn hsz' hz hS hcap hc hrr =>
        cases ha
        have hn' : n.toNat < es.length := by omega
        have hmem : es.getD n.toNat [] ∈ es := by
          rw [List.getD_eq_getElem?_getD, List.getElem?_eq_getElem hn']; exact List.getElem_mem hn'
        have hlen := hsz' _ hmem
        refine ⟨_, _, ?_, .pel (es.getD n.toNat []) b (o + n.toNat * sz) (g n.toNat) (by omega) (hS (fun e => by rw [e] at hn'; simp at hn')) ?_ ?_, hK⟩
        · have hel : P.elem t = e := by simp [Program.elem, hu]
          rw [run_indexAt_slice w t _ _ _ _ _ (by rw [hel]; exact hu), if_pos ⟨h0, h1⟩, hel, ok.run_size]
          simp only [Result.andThen_ok, addr_add, hsz, hlen]
        · intro j hj
          rw [hlen] at hj
          exact hc n.toNat j hn' hj
        · intro j hj
          rw [hlen] at hj
          exact hrr n.toNat j hn' hj
      | _ => cases ha
    · rename_i id len
      obtain ⟨hk, ⟨h0, h1⟩, hK⟩ := h
      have hkd : ∃ sz, s.kds id = .row sz ∧ elemSize T t = some sz := by
        unfold AState.kds
        split at hk
        · rename_i sz _ hb; rw [hb]; exact ⟨_, rfl, hk⟩
        · rename_i sz _ hb; rw [hb]; exact ⟨_, rfl, hk⟩
        · exact hk.elim
      obtain ⟨sz, hkd, he⟩ := hkd
      obtain ⟨e, ei, nf, d, z, hu, hTe, hsz, ok⟩ := elemSize_und hT he
      have hel : P.elem t = e := by simp [Program.elem, hu]
      rcases hx.row_inv hkd with ⟨b, rfl, hi⟩ | ⟨rfl, rfl, _⟩
      · refine ⟨_, _, ?_, .elt id n.toNat 0 sz b hkd hi, hK⟩
        rw [run_indexAt_slice w t _ _ _ _ _ (by rw [hel]; exact hu), if_pos ⟨h0, h1⟩, hel, ok.run_size]
        simp only [Result.andThen_ok, addr_add, hsz, Nat.zero_add, Nat.add_zero]
      · simp at h1; omega
    · rename_i id off
      obtain ⟨hk, h⟩ := h
      have hkd : s.kds id = .var := by
        unfold AState.kds
        split at hk
        · rename_i hb; rw [hb]; rfl
        · exact hk.elim
      split at h
      · rename_i m sz ha
        obtain ⟨⟨h0, h1⟩, hK⟩ := h
        obtain ⟨e, ei, nf, d, z, hu, hTe, hsz, ok⟩ := arrElem_und hT ha
        obtain ⟨b, rfl, hi⟩ := hx.loc_inv hkd
        have hel : P.elem t = e := by simp [Program.elem, hu]
        have hal : P.arrayLen t = m := by simp [Program.arrayLen, hu]
        refine ⟨_, _, ?_, .loc id _ b hkd hi, hK⟩
        rw [run_indexAt_array w t _ _ _ (by rw [hel, hal]; exact hu), if_pos ⟨h0, by rw [hal]; exact h1⟩, hel, ok.run_size]
        simp only [Result.andThen_ok, addr_add, hsz]
      · exact h.elim
    · exact h.elim
  · exact h.elim

end Go.Proofs.Ytdaemhaecjldaaa
