/- A law's row out of its contract. -/
import Derived.Test.YtdaemhaecjldaaaAi22
import Derived.Below
import Derived.ChangeSame
namespace Go.Proofs.Ytdaemhaecjldaaa
open Go Go.RowKit Go.ChangeShapes Go.WideShapes Go.ChangeAt

/-- An argument of a type. -/
def TyArg (T : Tab) (t : TypeId) (a : AV) : Prop := ∃ as i, T t = some i ∧ as.length = i.size ∧ Ty T t as ∧ ((i.agg = true ∧ a = .agg as) ∨ (i.agg = false ∧ as = [a]))

def TyArgs (T : Tab) : List TypeId → List AV → Prop
  | [], [] => True
  | t :: ts, a :: as => TyArg T t a ∧ TyArgs T ts as
  | _, _ => False

section
variable {T : Tab} {t : TypeId} {i : TI} {as : List AV}

theorem Ty.int_inv {k : IntKind} (h : Ty T t as) (ht : T t = some i) (hk : i.k = .int k) : ∃ n, as = [.int k n] ∧ k.has n := by
  cases h with
  | int n ht' hk' hw => rw [ht] at ht'; cases ht'; rw [hk] at hk'; cases hk'; exact ⟨n, rfl, hw⟩
  | bool b ht' hk' => rw [ht] at ht'; cases ht'; rw [hk] at hk'; cases hk'
  | slice nn es ht' hk' => rw [ht] at ht'; cases ht'; rw [hk] at hk'; cases hk'
  | struct ps ht' hk' => rw [ht] at ht'; cases ht'; rw [hk] at hk'; cases hk'

theorem Ty.bool_inv (h : Ty T t as) (ht : T t = some i) (hk : i.k = .bool) : ∃ b, as = [.bool b] := by
  cases h with
  | int n ht' hk' hw => rw [ht] at ht'; cases ht'; rw [hk] at hk'; cases hk'
  | bool b ht' hk' => exact ⟨b, rfl⟩
  | slice nn es ht' hk' => rw [ht] at ht'; cases ht'; rw [hk] at hk'; cases hk'
  | struct ps ht' hk' => rw [ht] at ht'; cases ht'; rw [hk] at hk'; cases hk'

theorem Ty.slice_inv {e : TypeId} (h : Ty T t as) (ht : T t = some i) (hk : i.k = .slice e) : ∃ nn es, as = [.sl (some nn) es] ∧ (es ≠ [] → nn = true) ∧ ∀ (j : Nat) (_ : j < es.length), Ty T e (es.getD j []) := by
  cases h with
  | int n ht' hk' hw => rw [ht] at ht'; cases ht'; rw [hk] at hk'; cases hk'
  | bool b ht' hk' => rw [ht] at ht'; cases ht'; rw [hk] at hk'; cases hk'
  | slice nn es ht' hk' hnn hes => rw [ht] at ht'; cases ht'; rw [hk] at hk'; cases hk'; exact ⟨nn, es, rfl, hnn, hes⟩
  | struct ps ht' hk' => rw [ht] at ht'; cases ht'; rw [hk] at hk'; cases hk'

theorem Ty.struct_inv {fs : List (Nat × TypeId)} (h : Ty T t as) (ht : T t = some i) (hk : i.k = .struct fs) : ∃ ps : List (List AV), as = ps.flatten ∧ ps.length = fs.length ∧ ∀ (j : Nat) (_ : j < fs.length), Ty T (fs.getD j (0, 0)).2 (ps.getD j []) := by
  cases h with
  | int n ht' hk' hw => rw [ht] at ht'; cases ht'; rw [hk] at hk'; cases hk'
  | bool b ht' hk' => rw [ht] at ht'; cases ht'; rw [hk] at hk'; cases hk'
  | slice nn es ht' hk' => rw [ht] at ht'; cases ht'; rw [hk] at hk'; cases hk'
  | struct ps ht' hk' hl h => rw [ht] at ht'; cases ht'; rw [hk] at hk'; cases hk'; exact ⟨ps, rfl, hl, h⟩

theorem TyArg.agg_inv {a : AV} (h : TyArg T t a) (ht : T t = some i) (hg : i.agg = true) : ∃ as, a = .agg as ∧ Ty T t as := by
  obtain ⟨as, i', h1, h2, h3, h4⟩ := h
  rw [ht] at h1; cases h1
  rcases h4 with ⟨_, e⟩ | ⟨e, _⟩
  · exact ⟨as, e, h3⟩
  · rw [hg] at e; cases e

theorem TyArg.one_inv {a : AV} (h : TyArg T t a) (ht : T t = some i) (hg : i.agg = false) : Ty T t [a] := by
  obtain ⟨as, i', h1, h2, h3, h4⟩ := h
  rw [ht] at h1; cases h1
  rcases h4 with ⟨e, _⟩ | ⟨_, e⟩
  · rw [hg] at e; cases e
  · rw [← e]; exact h3

end

section
variable {H : Type} {enc : TypeId × Value → H} {P : Program} {T : Tab}

theorem trod_arg (hT : TabOk P T) {n : Nat} {t : TypeId} (hrd : rdT T n t = true) {W : World} {base : Nat} {v : Value} {d : DataW H} {ps : List MemPlace} (hok : Value.okWide P W .any base t v)
    (h : DataW.Trod enc P W 0 (fun _ => true) true t v d ps) : ∃ a, Reads W (fun b => b < W.heap.size) v a ∧ TyArg T t a := by
  obtain ⟨fuel, h⟩ := h
  obtain ⟨as, i, hi, hal, hcl, hty, hr⟩ := trod_reads hT n t hrd fuel _ _ h
  obtain ⟨nf, d', z, ok⟩ := hT.get hi
  have htk := ok.tk
  have hu := ok.und
  have hone : ∀ u : Value, v = u → u.cells = #[u] → i.agg = false → i.size = 1 → ∃ a, Reads W (fun b => b < W.heap.size) v a ∧ TyArg T t a := by
    intro u e1 e2 hag hs1
    subst e1
    match as, hal, hty, hr with
    | [a], hal, hty, hr =>
      refine ⟨a, ?_, [a], i, hi, hal, hty, .inr ⟨hag, rfl⟩⟩
      have := hr 0 (by simp)
      rw [e2] at this
      exact this
    | [], hal, _, _ => rw [hs1] at hal; simp at hal
    | _ :: _ :: _, hal, _, _ => rw [hs1] at hal; simp at hal
  have hsz : v.cells.toList.length = i.size := hcl
  unfold rdT at hrd
  cases n with
  | zero => simp at hrd
  | succ n =>
    simp only [hi] at hrd
    split at hrd
    · rename_i k hk
      have hd : d' = .int k := by rw [hk] at htk; cases d' <;> simp_all [tkOk]
      rw [hd] at hu
      obtain ⟨m, e⟩ := okWide_int hu hok
      exact hone _ e rfl (by unfold TI.agg; rw [hk]) (by simpa using hrd)
    · rename_i hk
      have hd : d' = .bool := by rw [hk] at htk; cases d' <;> simp_all [tkOk]
      rw [hd] at hu
      obtain ⟨m, e⟩ := okWide_bool hu hok
      exact hone _ e rfl (by unfold TI.agg; rw [hk]) (by simpa using hrd)
    · rename_i e hk
      have hd : d' = .slice e := by rw [hk] at htk; cases d' <;> simp_all [tkOk]
      rw [hd] at hu
      obtain ⟨a, len, cap, e⟩ := okWide_slice hu hok
      simp only [Bool.and_eq_true, beq_iff_eq] at hrd
      exact hone _ e rfl (by unfold TI.agg; rw [hk]) hrd.1.1
    · rename_i fs hk
      obtain ⟨gs, hgs⟩ : ∃ gs, d' = .struct gs := by rw [hk] at htk; cases d' <;> simp_all [tkOk]
      rw [hgs] at hu
      obtain ⟨cs, e, hcs⟩ := okWide_struct hu hok
      subst e
      have hcs' : cs.size = as.length := by rw [hal]; rw [← hsz]; rfl
      refine ⟨.agg as, .agg cs as hcs' (fun j hj => ?_), as, i, hi, hal, hty, .inl ⟨by unfold TI.agg; rw [hk], rfl⟩⟩
      have := hr j hj
      rwa [show (Value.agg cs).cells = cs from rfl, arr_getD] at this
    · cases hrd

theorem trod_args (hT : TabOk P T) {n : Nat} {W : World} {base : Nat} : ∀ (ts : List TypeId) (vs : List Value) (ds : List (DataW H)) (ps : List MemPlace), ts.all (rdT T n) = true →
    (∀ (j : Nat) t v, ts[j]? = some t → vs[j]? = some v → Value.okWide P W .any base t v) → DataW.TrodAll enc P W 0 (fun _ => true) true ts vs ds ps →
    ∃ as : List AV, as.length = vs.length ∧ ds.length = ts.length ∧ TyArgs T ts as ∧ ∀ (j : Nat) (_ : j < as.length), Reads W (fun b => b < W.heap.size) (vs.getD j undef) (as.getD j .top)
  | [], vs, ds, ps, _, _, h => by
    cases vs <;> cases ds <;> simp [DataW.TrodAll] at h
    exact ⟨[], rfl, rfl, trivial, by simp⟩
  | t :: ts, vs, ds, ps, hrd, hok, h => by
    obtain ⟨v, vs', d, ds', p, q, rfl, rfl, rfl, h1, h2⟩ := trodAll_cons h
    rw [List.all_cons, Bool.and_eq_true] at hrd
    obtain ⟨a, ha, hta⟩ := trod_arg hT hrd.1 (hok 0 t v rfl rfl) h1
    obtain ⟨as, g1, g2, g3, g4⟩ := trod_args hT ts vs' ds' q hrd.2 (fun j t v h1 h2 => hok (j + 1) t v (by simpa using h1) (by simpa using h2)) h2
    refine ⟨a :: as, by simp [g1], by simp [g2], ⟨hta, g3⟩, fun j hj => ?_⟩
    cases j with
    | zero => exact ha
    | succ j => exact g4 j (by simpa using hj)

theorem trodAll_stays (hl : laidOutB P = true) {W W' : World} {sp : Nat → Bool} (hb : Below W.heap.size W W') : ∀ (ts : List TypeId) (vs : List Value) (ds : List (DataW H)) (ps : List MemPlace),
    (ts.all fun t => P.readableRec t && decide (t < P.types.size)) = true → DataW.TrodAll enc P W 0 (fun _ => true) true ts vs ds ps → (∀ p ∈ ps, p.block < W.heap.size) → (∀ p ∈ ps, sp p.block = true) →
    DataW.TrodAll enc P W' 0 sp true ts vs ds ps
  | [], vs, ds, ps, _, h, _, _ => by
    cases vs <;> cases ds <;> simp [DataW.TrodAll] at h ⊢
    exact h
  | t :: ts, vs, ds, ps, hr, h, hlt, hsp => by
    obtain ⟨v, vs', d, ds', p, q, rfl, rfl, rfl, h1, h2⟩ := trodAll_cons h
    simp only [List.all_cons, Bool.and_eq_true, decide_eq_true_eq] at hr
    refine ⟨p, q, ?_, trodAll_stays hl hb ts vs' ds' q hr.2 h2 (fun x hx => hlt x (List.mem_append.2 (.inr hx))) (fun x hx => hsp x (List.mem_append.2 (.inr hx))), rfl⟩
    exact WideElems.Trod_stays hl hr.1.1 hr.1.2 h1 (fun x hx => hb.same (hlt x (List.mem_append.2 (.inl hx)))) (fun x hx => hsp x (List.mem_append.2 (.inl hx)))

/-- 'post' where below the heap's old size nothing has turned. -/
theorem post_of_below {f : Func} {s : ChangeSpec} {apart fresh handsOn again : Bool} {W W' : World} {args : Array Value} {v : Value} {ds gs : List (DataW H)} {before pa pv : List MemPlace}
    (hW : DataW.Whole enc P f.params.toList s.vars apart W args.toList ds gs before)
    (hres : ∀ (b : Nat) (sp : Nat → Bool) (hd : Bool), DataW.TrodAll enc P W' b sp hd f.resultTypes.toList (v.resultList f.resultTypes.size) (s.fn H (ds ++ gs)).results [])
    (hargs : ∀ sp : Nat → Bool, (∀ p ∈ before, sp p.block = true) → DataW.TrodAll enc P W' 0 sp true f.params.toList args.toList (s.fn H (ds ++ gs)).args pa)
    (hvars : ∀ sp : Nat → Bool, (∀ p ∈ before, sp p.block = true) → DataW.TrodVars enc P W' sp s.vars (s.fn H (ds ++ gs)).vars pv)
    (hps : before = pa ++ pv) (hb : Below W.heap.size W W')
    (hok : ∀ (j : Nat) (t : TypeId) (r : Value), f.resultTypes[j]? = some t → (v.resultList f.resultTypes.size)[j]? = some r → Value.okWide P W' .any 0 t r) :
    s.post enc P f apart fresh handsOn again W args v W' := by
  have hlt : ∀ p ∈ before, p.block < W.heap.size := fun p hp => hW.lt p hp
  have hold : ∀ p ∈ before, (fun b => decide (b < W.heap.size)) p.block = true := fun p hp => by simpa using hlt p hp
  refine ⟨ds, gs, before, [], pa, pv, hW, hres _ _ _, hargs _ hold, hvars _ hold, World.keptBut_mono (fun p hp => ⟨hp, ?_⟩) (hb.frame (· ∈ before)), fun _ => ?_⟩
  · rw [hps, List.mem_append] at hp
    exact Or.inr hp
  · obtain ⟨_, _, _, _, _, hz, hn⟩ := hW
    refine ⟨hok, _, _, ([] ++ pa) ++ pv, ⟨[] ++ pa, pv, trodAll_append (hargs _ (fun _ _ => rfl)) (hres _ _ _), hvars _ (fun _ _ => rfl), rfl, ?_, ?_⟩, ?_⟩
    · intro b off hp
      have hin : MemPlace.cell b off ∈ before := by rw [hps]; simpa using hp
      rw [hb.frozen (hlt _ hin)]
      exact hz b off hin
    · intro ha
      have := hn ha
      rw [hps] at this
      simpa using this
    · intro p hp _
      rw [hps]
      simpa using hp

/-- A law: whatever the arguments, it returns true, and what was there reads as it did. -/
theorem law_calls (hT : TabOk P T) (hl : laidOutB P = true) (n : Nat) {k : FuncId} {f : Func} {s : ChangeSpec} {tb : TypeId} {apart fresh handsOn again : Bool} {W : World} {base : Nat} {args : Array Value} {ds gs : List (DataW H)} {before : List MemPlace}
    (hval : ∀ (j : Nat) t v, f.params[j]? = some t → args[j]? = some v → Value.okWide P W .any base t v)
    (hW : DataW.Whole enc P f.params.toList s.vars apart W args.toList ds gs before)
    (hvars : s.vars = []) (hrd : f.params.toList.all (rdT T n) = true) (hrr : (f.params.toList.all fun t => P.readableRec t && decide (t < P.types.size)) = true)
    (hres : f.resultTypes = #[tb]) (hbool : P.underlying tb = some .bool)
    (hfn : ∀ ds' : List (DataW H), ds'.length = f.params.toList.length → s.fn H ds' = { results := [.lit (.bool true)], args := ds' })
    (hlaw : ∀ as, TyArgs T f.params.toList as → Det P k as (.bool true)) :
    Calls P k args W fun e W' => ∃ v, e = .returned v ∧ s.post enc P f apart fresh handsOn again W args v W' := by
  have hW' := hW
  obtain ⟨p, q, hA, hV, rfl, hfz, hnd⟩ := hW
  rw [hvars] at hV
  obtain ⟨rfl, rfl⟩ := trodVars_none hV
  obtain ⟨as, g1, g2, g3, g4⟩ := trod_args hT (n := n) _ _ _ _ hrd (fun j t v h1 h2 => hval j t v (by simpa using h1) (by simpa using h2)) hA
  obtain ⟨_, hspec⟩ := hlaw as g3
  refine (hspec W (fun b => b < W.heap.size) args 0 (fun _ _ => False) (by rw [g1, Array.length_toList]) (fun i hi => .inl (by have := g4 i hi; rwa [arr_getD] at this)) (fun e => by cases e) (fun x hx => by cases hx.1)).mono ?_
  rintro e W' ⟨v, r, bx', F, BF', rfl, rfl, hF, hR, -, -, -⟩
  have hv : v = .bool true := by
    cases hR with
    | part v a F h => cases h with
      | cell v a F h => cases h with
        | pure a F h hF => cases h; rfl
  subst hv
  have hb : Below W.heap.size W W' := ⟨hF.os, hF.tape, hF.output, hF.size, fun x hx => hF.heap x hx (fun e => by cases e.1)⟩
  have hfn' := hfn (ds ++ []) (by rw [List.append_nil]; exact g2)
  refine ⟨_, rfl, post_of_below (pa := p) (pv := []) hW' ?_ ?_ ?_ rfl hb ?_⟩
  · intro b sp hd
    rw [hfn', hres]
    exact trodAll_mk1 (shut_bool hbool true)
  · intro sp hsp
    rw [hfn']
    show DataW.TrodAll enc P W' 0 sp true f.params.toList args.toList (ds ++ []) p
    rw [List.append_nil]
    rw [List.append_nil] at hsp
    exact trodAll_stays hl hb _ _ _ _ hrr hA (fun x hx => hW'.lt x (by simpa using hx)) hsp
  · intro sp _
    rw [hvars, hfn']
    rfl
  · exact ok_one hres rfl (okWide_bool_mk hbool true)

end

end Go.Proofs.Ytdaemhaecjldaaa
