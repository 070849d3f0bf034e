/- Small operations on values: parts of tuples, aggregates, conversions. -/
import Derived.Test.YtdaemhaecjldaaaAi15
namespace Go.Proofs.Ytdaemhaecjldaaa
open Go Go.RowKit

def extractK (x : AV) (i : Nat) (K : AV → Prop) : Prop :=
  match x with
  | .tup vs => i < vs.length ∧ K (vs.getD i .top)
  | _ => False

/-- The kind of integers of a type. -/
def intKd (T : Tab) (t : TypeId) : Option IntKind := match T t with
  | some i => (match i.k with | .int k => some k | _ => none)
  | none => none

def convertK (T : Tab) (src dst : TypeId) (x : AV) (K : AV → Prop) : Prop :=
  match x, intKd T dst, T src with
  | .int _ n, some k, some _ => K (.int k (k.wrap n))
  | _, _, _ => False

def fieldK (T : Tab) (t : TypeId) (x : AV) (f : Nat) (K : AV → Prop) : Prop :=
  match x with
  | .agg cs => (match T t with
    | some i => (match i.k with
      | .struct fs => (match fs[f]? with
        | some (o, ft) => (match tyShape T ft with
          | some (true, size, _) => o + size ≤ cs.length ∧ K (.agg ((cs.drop o).take size))
          | some (false, _, _) => o < cs.length ∧ K (cs.getD o .top)
          | none => False)
        | none => False)
      | _ => False)
    | none => False)
  | _ => False

/-- The type of an array's element: is it an aggregate, its cells; and the array's length. -/
def arrShape (T : Tab) (t : TypeId) : Option (Nat × Bool × Nat) := match T t with
  | some i => (match i.k with | .arr n e => (tyShape T e).map fun q => (n, q.1, q.2.1) | _ => none)
  | none => none

def indexK (T : Tab) (t : TypeId) (x y : AV) (K : AV → Prop) : Prop :=
  match x, y with
  | .agg cs, .int _ n => (match arrShape T t with
    | some (m, true, sz) => (0 ≤ n ∧ n < m) ∧ n.toNat * sz + sz ≤ cs.length ∧ K (.agg ((cs.drop (n.toNat * sz)).take sz))
    | some (m, false, sz) => (0 ≤ n ∧ n < m) ∧ n.toNat * sz < cs.length ∧ K (cs.getD (n.toNat * sz) .top)
    | none => False)
  | _, _ => False

def buildL (T : Tab) (s : AState) (t : TypeId) : List AV → List (Nat × Operand) → (List AV → Prop) → Prop
  | cs, [], K => K cs
  | cs, (f, x) :: r, K => (match fieldOff T t f, partCells (s.ev x) with
    | some (o, sz), some vs => vs.length = sz ∧ o + sz ≤ cs.length ∧ buildL T s t (setCells cs o vs) r K
    | _, _ => False)

def buildK (T : Tab) (s : AState) (t : TypeId) (parts : List (Nat × Operand)) (K : AV → Prop) : Prop :=
  match T t with
  | some i => (match i.k with
    | .struct _ => buildL T s t i.zc parts fun cs => K (.agg cs)
    | _ => False)
  | none => False

def maxK : AV → List AV → (AV → Prop) → Prop
  | x, [], K => K x
  | .int k a, .int k' b :: r, K => k = k' ∧ maxK (.int k (if b > a then b else a)) r K
  | _, _, _ => False

def minK : AV → List AV → (AV → Prop) → Prop
  | x, [], K => K x
  | .int k a, .int k' b :: r, K => k = k' ∧ minK (.int k (if b < a then b else a)) r K
  | _, _, _ => False

theorem extractK_sound {P : Program} {X : Ctx} {kd : Nat → Kd} {w : World} {x : AV} {i : Nat} {v : Value} {K : AV → Prop} (hx : VRel X kd w v x) (h : extractK x i K) :
    ∃ r ar, (Instr.extract v i).run P w = .ok r w ∧ VRel X kd w r ar ∧ K ar := by
  unfold extractK at h
  split at h
  · rename_i vs
    obtain ⟨us, rfl, h1, h2⟩ := hx.tup_inv
    have hi : i < us.size := by omega
    have h3 := h2 i h.1
    rw [Array.getD_eq_getD_getElem?, Array.getElem?_eq_getElem hi, Option.getD_some] at h3
    exact ⟨us[i], _, by simp [Instr.extract, hi], h3, h.2⟩
  · exact h.elim

theorem convertK_sound {P : Program} {T : Tab} (hT : TabOk P T) {X : Ctx} {kd : Nat → Kd} {w : World} {src dst : TypeId} {x : AV} {v : Value} {K : AV → Prop} (hx : VRel X kd w v x) (h : convertK T src dst x K) :
    ∃ r ar, (convert src dst v).run P w = .ok r w ∧ VRel X kd w r ar ∧ K ar := by
  unfold convertK at h
  split at h
  · rename_i k0 n k i hk hi
    cases hx.int_inv
    obtain ⟨nf, d, z, ok⟩ := hT.get hi
    have hd : P.underlying dst = some (.int k) := by
      unfold intKd at hk
      split at hk
      · rename_i j hj
        obtain ⟨nf', d', z', ok'⟩ := hT.get hj
        have := ok'.tk
        split at hk
        · rename_i k' hk'
          rw [hk'] at this
          cases hk
          rw [ok'.und]
          cases d' <;> simp_all [tkOk]
        · cases hk
      · cases hk
    have hin : P.intKind dst = k := by simp [Program.intKind, hd]
    have := run_convert_int (P := P) w src dst k0 n (by rw [ok.und]; rfl) (by rw [hin]; exact hd)
    rw [hin] at this
    exact ⟨_, _, this, .pure (.int _ _), h⟩
  · exact h.elim

theorem fill_foldl (v : Array Value) (o : Nat) (cells : Array Value) (h : o + v.size ≤ cells.size) :
    (v.zipIdx.foldl (fun cs (c, j) => cs.setIfInBounds (o + j) c) cells).size = cells.size ∧
    ∀ j, (v.zipIdx.foldl (fun cs (c, j) => cs.setIfInBounds (o + j) c) cells).getD j undef = if o ≤ j ∧ j < o + v.size then v.getD (j - o) undef else cells.getD j undef := by
  have key : ∀ (l : List Value) (k : Nat) (cells : Array Value), o + k + l.length ≤ cells.size →
      ((l.zipIdx k).foldl (fun cs (c, j) => cs.setIfInBounds (o + j) c) cells).size = cells.size ∧
      ∀ j, ((l.zipIdx k).foldl (fun cs (c, j) => cs.setIfInBounds (o + j) c) cells).getD j undef = if o + k ≤ j ∧ j < o + k + l.length then l.getD (j - (o + k)) undef else cells.getD j undef := by
    intro l
    induction l with
    | nil => intro k cells _; exact ⟨rfl, fun j => by rw [if_neg (by simp)]; rfl⟩
    | cons x l ih =>
      intro k cells hk
      simp only [List.length_cons] at hk
      obtain ⟨h1, h2⟩ := ih (k + 1) (cells.setIfInBounds (o + k) x) (by simp; omega)
      refine ⟨by simpa using h1, fun j => ?_⟩
      simp only [List.zipIdx_cons, List.foldl_cons, List.length_cons]
      rw [h2 j]
      by_cases hj : o + (k + 1) ≤ j ∧ j < o + (k + 1) + l.length
      · rw [if_pos hj, if_pos (by omega), show j - (o + k) = (j - (o + (k + 1))) + 1 by omega, getD_succ]
      · rw [if_neg hj]
        by_cases hj2 : j = o + k
        · subst hj2
          rw [if_pos (by omega), Nat.sub_self, getD_zero]
          simp [Array.getD_eq_getD_getElem?, show o + k < cells.size by omega]
        · rw [if_neg (by omega)]
          simp only [Array.getD_eq_getD_getElem?]
          rw [Array.getElem?_setIfInBounds_ne (fun e => hj2 e.symm)]
  have hv := key v.toList 0 cells (by simpa using h)
  have e : v.zipIdx.foldl (fun cs (c, j) => cs.setIfInBounds (o + j) c) cells = (v.toList.zipIdx 0).foldl (fun cs (c, j) => cs.setIfInBounds (o + j) c) cells := by
    rw [← Array.foldl_toList, Array.toList_zipIdx]
  rw [e]
  refine ⟨hv.1, fun j => ?_⟩
  rw [hv.2 j]
  simp only [Nat.add_zero, Array.length_toList, arr_getD]

theorem mapM_get {α β : Type} (g : α → Option β) : ∀ (l : List α) (ps : List β), l.mapM g = some ps → ∀ (f : Nat) (x : α), l[f]? = some x → ∀ y, g x = some y → ps[f]? = some y
  | [], ps, h, f, x, hx, _, _ => by simp at hx
  | z :: l, ps, h, f, x, hx, y, hy => by
    rw [List.mapM_cons] at h
    cases hz : g z with
    | none => simp [hz] at h
    | some q =>
      cases hl : l.mapM g with
      | none => simp [hz, hl] at h
      | some qs =>
        simp only [hz, hl, Option.bind_eq_bind, Option.bind_some, Option.pure_def, Option.some.injEq] at h
        subst h
        cases f with
        | zero =>
          simp only [List.getElem?_cons_zero, Option.some.injEq] at hx
          subst hx
          rw [hz] at hy
          simpa using hy
        | succ f =>
          rw [List.getElem?_cons_succ] at hx ⊢
          exact mapM_get g l qs hl f x hx y hy

theorem buildL_sound {P : Program} {T : Tab} (hT : TabOk P T) {X : Ctx} {s : AState} {a : Act} {w : World} {t : TypeId} {fields : Array Field} {places : List (Nat × Nat)} (h : R X s a w) (hu : P.underlying t = some (.struct fields))
    (hpl : fields.toList.mapM (fun f => (P.info? f.type).map fun i => (f.offset, i.size)) = some places) :
    ∀ (parts : List (Nat × Operand)) (cs : List AV) (cells : Array Value) (K : List AV → Prop), cells.size = cs.length → (∀ (i : Nat) (_ : i < cs.length), VRel X s.kds w (cells.getD i undef) (cs.getD i .top)) → buildL T s t cs parts K →
    ∃ (cells' : Array Value) (cs' : List AV), Instr.fill (places.toArray[·]?) cells (parts.map fun (i, x) => (i, a.eval x)) = some cells' ∧ cells'.size = cs'.length ∧
      (∀ (i : Nat) (_ : i < cs'.length), VRel X s.kds w (cells'.getD i undef) (cs'.getD i .top)) ∧ K cs'
  | [], cs, cells, K, hl, hr, hK => ⟨cells, cs, rfl, hl, hr, hK⟩
  | (f, x) :: r, cs, cells, K, hl, hr, hK => by
    unfold buildL at hK
    split at hK
    · rename_i o sz vs hf hc
      obtain ⟨h1, h2, hK⟩ := hK
      obtain ⟨fs, fd, fi, nf, d, z, hu', hfd, ho, hsz, ok⟩ := fieldOff_und hT hf
      rw [hu] at hu'; cases hu'
      obtain ⟨g1, g2⟩ := (h.ev x).cells hc
      have hplace : places.toArray[f]? = some (o, sz) := by
        have := mapM_get _ _ _ hpl f fd (by simpa using hfd) (o, sz) (by rw [ok.info, Option.map_some, ho, ok.size, hsz])
        simpa using this
      obtain ⟨k1, k2⟩ := fill_foldl (a.eval x).cells o cells (by omega)
      obtain ⟨cells', cs', m1, m2, m3, m4⟩ := buildL_sound hT h hu hpl r (setCells cs o vs) ((a.eval x).cells.zipIdx.foldl (fun cs (c, j) => cs.setIfInBounds (o + j) c) cells) K (by rw [k1, setCells_length]; exact hl) (fun i hi => by
        rw [setCells_length] at hi
        rw [k2 i, setCells_getD _ _ _ _ (by omega), g1]
        split
        · exact g2 _ (by omega)
        · exact hr i hi) hK
      refine ⟨cells', cs', ?_, m2, m3, m4⟩
      simp only [List.map_cons, Instr.fill, hplace]
      rw [if_neg (by simp; omega)]
      exact m1
    · exact hK.elim

theorem mapM_ex {α β : Type} (g : α → Option β) : ∀ (l : List α), (∀ x, x ∈ l → (g x).isSome = true) → ∃ ps, l.mapM g = some ps
  | [], _ => ⟨[], rfl⟩
  | z :: l, h => by
    obtain ⟨y, hy⟩ := Option.isSome_iff_exists.1 (h z (by simp))
    obtain ⟨ps, hp⟩ := mapM_ex g l (fun x hx => h x (by simp [hx]))
    exact ⟨y :: ps, by rw [List.mapM_cons, hy, hp]; rfl⟩

theorem buildK_sound {P : Program} {T : Tab} (hT : TabOk P T) {X : Ctx} {s : AState} {a : Act} {w : World} {t : TypeId} {parts : Array (Nat × Operand)} {K : AV → Prop} (h : R X s a w) (hK : buildK T s t parts.toList K) :
    ∃ r ar, (Instr.build t (parts.map fun (i, x) => (i, a.eval x))).run P w = .ok r w ∧ VRel X s.kds w r ar ∧ K ar := by
  unfold buildK at hK
  split at hK
  · rename_i i hi
    obtain ⟨nf, d, z, ok⟩ := hT.get hi
    split at hK
    · rename_i gs hk
      have htk := ok.tk
      rw [hk] at htk
      obtain ⟨fields, hd⟩ : ∃ fields, d = .struct fields := by
        cases d <;> simp_all [tkOk]
      subst hd
      obtain ⟨places, hpl⟩ := mapM_ex (fun f : Field => (P.info? f.type).map fun i => (f.offset, i.size)) fields.toList (fun f hf => by
        have := ok.fields fields rfl f hf
        rw [Option.isSome_map]; exact this)
      obtain ⟨g1, g2⟩ := zCells_rel _ _ ok.zc X s.kds w
      obtain ⟨cells', cs', m1, m2, m3, m4⟩ := buildL_sound hT h ok.und hpl parts.toList i.zc z.cells _ (by simpa using g1) (fun j hj => by have := g2 j hj; rwa [arr_getD] at this) hK
      refine ⟨.agg cells', .agg cs', ?_, .agg _ _ m2 m3, m4⟩
      refine run_build w t _ cells' ?_
      unfold Program.built
      rw [ok.info, ok.und]
      simp only [ok.zero, hpl]
      simpa using m1
    · exact hK.elim
  · exact hK.elim

theorem maxK_sound {P : Program} {X : Ctx} {kd : Nat → Kd} {w : World} : ∀ (vs : List Value) (as : List AV) (v : Value) (x : AV) (K : AV → Prop), VRel X kd w v x → vs.length = as.length → (∀ (i : Nat) (_ : i < as.length), VRel X kd w (vs.getD i undef) (as.getD i .top)) → maxK x as K →
    ∃ r ar, (vs.foldlM Builtin.max2 v).run P w = .ok r w ∧ VRel X kd w r ar ∧ K ar
  | [], [], v, x, K, hx, _, _, hK => ⟨v, x, rfl, hx, hK⟩
  | [], _ :: _, _, _, _, _, hl, _, _ => by simp at hl
  | _ :: _, [], _, _, _, _, hl, _, _ => by simp at hl
  | u :: vs, y :: as, v, x, K, hx, hl, hv, hK => by
    have h0 := hv 0 (by simp)
    rw [getD_zero, getD_zero] at h0
    have hK2 : ∃ k a b, x = .int k a ∧ y = .int k b ∧ maxK (.int k (if b > a then b else a)) as K := by
      cases x <;> cases y <;> first | exact hK.elim | exact ⟨_, _, _, rfl, by rw [hK.1], hK.2⟩
    clear hK
    obtain ⟨k, p, q, rfl, rfl, hK⟩ := hK2
    · cases hx.int_inv
      cases h0.int_inv
      obtain ⟨r, ar, h1, h2, h3⟩ := maxK_sound vs as (.int k (if q > p then q else p)) (.int k (if q > p then q else p)) K (.pure (.int _ _)) (by simpa using hl) (fun i hi => by
        have := hv (i + 1) (by simp; omega)
        rwa [getD_succ, getD_succ] at this) hK
      refine ⟨r, ar, ?_, h2, h3⟩
      rw [List.foldlM_cons, Sem.run_bind]
      exact h1

theorem minK_sound {P : Program} {X : Ctx} {kd : Nat → Kd} {w : World} : ∀ (vs : List Value) (as : List AV) (v : Value) (x : AV) (K : AV → Prop), VRel X kd w v x → vs.length = as.length → (∀ (i : Nat) (_ : i < as.length), VRel X kd w (vs.getD i undef) (as.getD i .top)) → minK x as K →
    ∃ r ar, (vs.foldlM Builtin.min2 v).run P w = .ok r w ∧ VRel X kd w r ar ∧ K ar
  | [], [], v, x, K, hx, _, _, hK => ⟨v, x, rfl, hx, hK⟩
  | [], _ :: _, _, _, _, _, hl, _, _ => by simp at hl
  | _ :: _, [], _, _, _, _, hl, _, _ => by simp at hl
  | u :: vs, y :: as, v, x, K, hx, hl, hv, hK => by
    have h0 := hv 0 (by simp)
    rw [getD_zero, getD_zero] at h0
    have hK2 : ∃ k a b, x = .int k a ∧ y = .int k b ∧ minK (.int k (if b < a then b else a)) as K := by
      cases x <;> cases y <;> first | exact hK.elim | exact ⟨_, _, _, rfl, by rw [hK.1], hK.2⟩
    clear hK
    obtain ⟨k, p, q, rfl, rfl, hK⟩ := hK2
    · cases hx.int_inv
      cases h0.int_inv
      obtain ⟨r, ar, h1, h2, h3⟩ := minK_sound vs as (.int k (if q < p then q else p)) (.int k (if q < p then q else p)) K (.pure (.int _ _)) (by simpa using hl) (fun i hi => by
        have := hv (i + 1) (by simp; omega)
        rwa [getD_succ, getD_succ] at this) hK
      refine ⟨r, ar, ?_, h2, h3⟩
      rw [List.foldlM_cons, Sem.run_bind]
      exact h1

theorem run_part {P : Program} {T : Tab} (hT : TabOk P T) {X : Ctx} {kd : Nat → Kd} {w : World} {t : TypeId} {vs : Array Value} {cs : List AV} {o size : Nat} {ag fl : Bool} (hs : tyShape T t = some (ag, size, fl)) (hl : vs.size = cs.length)
    (hv : ∀ (i : Nat) (_ : i < cs.length), VRel X kd w (vs.getD i undef) (cs.getD i .top)) :
    (ag = true → o + size ≤ cs.length → ∃ r, (part t vs o).run P w = .ok r w ∧ VRel X kd w r (.agg ((cs.drop o).take size))) ∧
    (ag = false → o < cs.length → ∃ r, (part t vs o).run P w = .ok r w ∧ VRel X kd w r (cs.getD o .top)) := by
  unfold tyShape at hs
  cases hi : T t with
  | none => simp [hi] at hs
  | some i =>
    obtain ⟨nf, d, z, ok⟩ := hT.get hi
    simp only [hi, Option.some.injEq, Prod.mk.injEq] at hs
    obtain ⟨h1, h2, _⟩ := hs
    refine ⟨fun e hle => ?_, fun e hlt => ?_⟩
    · refine ⟨.agg (vs.extract o (o + size)), ?_, .agg _ _ (by simp; omega) (fun j hj => ?_)⟩
      · simp [part, ok.run_agg, h1, e, ok.run_size, h2]
      · have hj' : j < size := by simp at hj; omega
        rw [take_drop_getD _ _ _ _ _ hj']
        have : (vs.extract o (o + size)).getD j undef = vs.getD (o + j) undef := by
          simp only [Array.getD_eq_getD_getElem?, Array.getElem?_extract]
          rw [if_pos (by omega)]
        rw [this]
        exact hv _ (by omega)
    · have hlt' : o < vs.size := by omega
      refine ⟨vs.getD o undef, ?_, hv o hlt⟩
      simp [part, ok.run_agg, h1, e, hlt', Array.getD_eq_getD_getElem?]

theorem fieldK_sound {P : Program} {T : Tab} (hT : TabOk P T) {X : Ctx} {kd : Nat → Kd} {w : World} {t : TypeId} {x : AV} {f : Nat} {v : Value} {K : AV → Prop} (hx : VRel X kd w v x) (h : fieldK T t x f K) :
    ∃ r ar, (Instr.field t v f).run P w = .ok r w ∧ VRel X kd w r ar ∧ K ar := by
  unfold fieldK at h
  split at h
  · rename_i cs
    obtain ⟨us, rfl, hl, hv⟩ := hx.agg_inv
    split at h
    · rename_i i hi
      obtain ⟨nf, d, z, ok⟩ := hT.get hi
      have htk := ok.tk
      split at h
      · rename_i gs hk
        rw [hk] at htk
        cases d <;> simp only [tkOk, Bool.false_eq_true] at htk
        rename_i fs
        simp only [beq_iff_eq] at htk
        split at h
        · rename_i o ft hg
          rw [← htk] at hg
          simp only [List.getElem?_map, Array.getElem?_toList, Option.map_eq_some_iff, Prod.mk.injEq] at hg
          obtain ⟨fd, h1, h2, h3⟩ := hg
          have hrun : ∀ r, (part ft us o).run P w = .ok r w → (Instr.field t (.agg us) f).run P w = .ok r w := by
            intro r hr
            simp only [Instr.field, Sem.run_bind, run_underlying ok.und, Result.andThen_ok, h1, asAgg, Sem.run_pure, h2, h3, hr]
          split at h
          · rename_i size fl hs
            obtain ⟨r, hr, hvr⟩ := (run_part hT hs hl hv).1 rfl h.1
            exact ⟨r, _, hrun r hr, hvr, h.2⟩
          · rename_i size fl hs
            obtain ⟨r, hr, hvr⟩ := (run_part hT hs hl hv).2 rfl h.1
            exact ⟨r, _, hrun r hr, hvr, h.2⟩
          · exact h.elim
        · exact h.elim
      · exact h.elim
    · exact h.elim
  · exact h.elim

theorem indexK_sound {P : Program} {T : Tab} (hT : TabOk P T) {X : Ctx} {kd : Nat → Kd} {w : World} {t : TypeId} {x y : AV} {v u : Value} {K : AV → Prop} (hx : VRel X kd w v x) (hy : VRel X kd w u y) (h : indexK T t x y K) :
    ∃ r ar, (Instr.index t v u).run P w = .ok r w ∧ VRel X kd w r ar ∧ K ar := by
  unfold indexK at h
  split at h
  · rename_i cs k n
    obtain ⟨us, rfl, hl, hv⟩ := hx.agg_inv
    cases hy.int_inv
    have hsh : ∀ m ag sz, arrShape T t = some (m, ag, sz) → ∃ e fl, P.underlying t = some (.array m e) ∧ tyShape T e = some (ag, sz, fl) ∧ (sizeOf e).run P w = .ok sz w := by
      intro m ag sz hs
      unfold arrShape at hs
      split at hs
      · rename_i i hi
        obtain ⟨nf, d, z, ok⟩ := hT.get hi
        have := ok.tk
        split at hs
        · rename_i n' e hk
          rw [hk] at this
          cases hte : tyShape T e with
          | none => simp [hte] at hs
          | some q =>
            obtain ⟨ag', sz', fl⟩ := q
            simp only [hte, Option.map_some, Option.some.injEq, Prod.mk.injEq] at hs
            obtain ⟨h1, h2, h3⟩ := hs
            refine ⟨e, fl, ?_, by rw [hte, h2, h3], ?_⟩
            · rw [ok.und, ← h1]; cases d <;> simp_all [tkOk]
            · unfold tyShape at hte
              split at hte
              · rename_i ie hie
                obtain ⟨nf', d', z', ok'⟩ := hT.get hie
                simp only [Option.some.injEq, Prod.mk.injEq] at hte
                rw [ok'.run_size, hte.2.1, h3]
              · cases hte
        · cases hs
      · cases hs
    split at h
    · rename_i m sz hs
      obtain ⟨e, fl, hu, hte, hsz⟩ := hsh _ _ _ hs
      obtain ⟨hb, hle, hK⟩ := h
      obtain ⟨r, hr, hvr⟩ := (run_part hT hte hl hv).1 rfl hle
      refine ⟨r, _, ?_, hvr, hK⟩
      simp only [Instr.index, asIntOf, Sem.run_bind, Sem.run_pure, Result.andThen_ok, run_underlying hu, Sem.run_ite]
      rw [if_pos hb, hsz]
      exact hr
    · rename_i m sz hs
      obtain ⟨e, fl, hu, hte, hsz⟩ := hsh _ _ _ hs
      obtain ⟨hb, hle, hK⟩ := h
      obtain ⟨r, hr, hvr⟩ := (run_part hT hte hl hv).2 rfl hle
      refine ⟨r, _, ?_, hvr, hK⟩
      simp only [Instr.index, asIntOf, Sem.run_bind, Sem.run_pure, Result.andThen_ok, run_underlying hu, Sem.run_ite]
      rw [if_pos hb, hsz]
      exact hr
    · exact h.elim
  · exact h.elim

end Go.Proofs.Ytdaemhaecjldaaa
