/- Arguments: from the row's reading of them to abstract values. -/
import Derived.Test.YtdaemhaecjldaaaAi21
import Derived.ProofKit
namespace Go.Proofs.Ytdaemhaecjldaaa
open Go Go.RowKit Go.ChangeShapes Go.WideShapes

/-- What a reading of a type looks like. -/
inductive Ty (T : Tab) : TypeId → List AV → Prop where
  | int {t : TypeId} {i : TI} {k : IntKind} (n : Int) (ht : T t = some i) (hk : i.k = .int k) (hw : k.has n) : Ty T t [.int k n]
  | bool {t : TypeId} {i : TI} (b : Bool) (ht : T t = some i) (hk : i.k = .bool) : Ty T t [.bool b]
  | slice {t e : TypeId} {i : TI} (nn : Bool) (es : List (List AV)) (ht : T t = some i) (hk : i.k = .slice e) (hnn : es ≠ [] → nn = true) (hes : ∀ (j : Nat) (_ : j < es.length), Ty T e (es.getD j [])) : Ty T t [.sl (some nn) es]
  | struct {t : TypeId} {i : TI} {fs : List (Nat × TypeId)} (ps : List (List AV)) (ht : T t = some i) (hk : i.k = .struct fs) (hl : ps.length = fs.length)
      (h : ∀ (j : Nat) (_ : j < fs.length), Ty T (fs.getD j (0, 0)).2 (ps.getD j [])) : Ty T t ps.flatten

def contig (T : Tab) : Nat → List (Nat × TypeId) → Nat → Bool
  | o, [], size => o == size
  | o, (o', ft) :: r, size => o' == o && (match T ft with | some i => contig T (o + i.size) r size | none => false)

def rdT (T : Tab) : Nat → TypeId → Bool
  | 0, _ => false
  | n + 1, t => match T t with
    | some i => (match i.k with
      | .int _ => i.size == 1
      | .bool => i.size == 1
      | .slice e => i.size == 1 && rdT T n e && (match T e with | some ei => decide (0 < ei.size) | none => false)
      | .struct fs => contig T 0 fs i.size && fs.all fun f => rdT T n f.2
      | _ => false)
    | none => false

theorem list_ex {α : Type} (d : α) (Q : Nat → α → Prop) : ∀ (n : Nat), (∀ i, i < n → ∃ y, Q i y) → ∃ l : List α, l.length = n ∧ ∀ i, i < n → Q i (l.getD i d)
  | 0, _ => ⟨[], rfl, by simp⟩
  | n + 1, h => by
    obtain ⟨l, hl, hq⟩ := list_ex d Q n (fun i hi => h i (by omega))
    obtain ⟨y, hy⟩ := h n (by omega)
    refine ⟨l ++ [y], by simp [hl], fun i hi => ?_⟩
    by_cases e : i = n
    · subst e
      rw [getD_append_right _ _ _ _ (by omega), hl, Nat.sub_self]
      exact hy
    · rw [getD_append_left _ _ _ _ (by omega)]
      exact hq i (by omega)

theorem cells_get {w : World} {b n : Nat} {a : Addr} {cs : List Value} (h : w.cells? b a n = some cs) : cs.length = n ∧ ∀ j, j < n → w.cell? (a.add j) = some (cs.getD j undef) := by
  unfold World.cells? at h
  split at h
  · have hl := mapM_some_length h
    have hl' : cs.length = n := by simpa using hl
    refine ⟨hl', fun j hj => ?_⟩
    have := mapM_some_get h j j (by simp [hj])
    rw [this, List.getD_eq_getElem?_getD, List.getElem?_eq_getElem (by omega)]
    rfl
  · cases h

section
variable {H : Type} {enc : TypeId × Value → H} {P : Program} {T : Tab} {w : World} {held : Bool}

theorem cellsOf_ti (hT : TabOk P T) {t : TypeId} {i : TI} (ht : T t = some i) : P.cellsOf t = i.size := by
  obtain ⟨nf, d, z, ok⟩ := hT.get ht
  simp [Program.cellsOf, ok.info, ok.size]

/-- The cells of a struct, piece by piece. -/
theorem fields_glue {S : Nat → Prop} (cs : List Value) (size : Nat) : ∀ (fs : List (Nat × TypeId)) (o : Nat), contig T o fs size = true → cs.length = size →
    (∀ f, f ∈ fs → ∃ as i, T f.2 = some i ∧ as.length = i.size ∧ Ty T f.2 as ∧ ∀ j, j < as.length → Reads w S (((cs.drop f.1).take i.size).getD j undef) (as.getD j .top)) →
    ∃ ps : List (List AV), ps.length = fs.length ∧ (∀ (j : Nat) (_ : j < fs.length), Ty T (fs.getD j (0, 0)).2 (ps.getD j [])) ∧ o + ps.flatten.length = size ∧
      ∀ j, j < ps.flatten.length → Reads w S (cs.getD (o + j) undef) (ps.flatten.getD j .top)
  | [], o, hc, hl, _ => by
    simp only [contig, beq_iff_eq] at hc
    exact ⟨[], rfl, by simp, by simpa using hc, by simp⟩
  | f :: fs, o, hc, hl, h => by
    obtain ⟨o', ft⟩ := f
    obtain ⟨as, i, hi, hal, hty, hr⟩ := h (o', ft) (by simp)
    simp only [contig, hi, Bool.and_eq_true, beq_iff_eq] at hc
    obtain ⟨rfl, hc⟩ := hc
    obtain ⟨ps, h1, h2, h3, h4⟩ := fields_glue cs size fs _ hc hl (fun f hf => h f (by simp [hf]))
    refine ⟨as :: ps, by simp [h1], ?_, by simp only [List.flatten_cons, List.length_append]; omega, ?_⟩
    · intro j hj
      cases j with
      | zero => exact hty
      | succ j => exact h2 j (by simpa using hj)
    · intro j hj
      rw [List.flatten_cons] at hj ⊢
      by_cases hja : j < as.length
      · rw [getD_append_left _ _ _ _ hja]
        have := hr j hja
        have e : ((cs.drop o').take i.size).getD j undef = cs.getD (o' + j) undef := take_drop_getD cs o' i.size j undef (by omega)
        rw [e] at this
        exact this
      · rw [getD_append_right _ _ _ _ (by omega)]
        rw [List.length_append] at hj
        have := h4 (j - as.length) (by omega)
        rw [show o' + i.size + (j - as.length) = o' + j by omega] at this
        exact this

theorem trod_reads (hT : TabOk P T) : ∀ (n : Nat) (t : TypeId), rdT T n t = true → ∀ (fuel : Nat) (cs : List Value) (x : DataW H × List MemPlace), DataW.trod enc P w 0 (fun _ => true) held fuel t cs = some x →
    ∃ as i, T t = some i ∧ as.length = i.size ∧ cs.length = i.size ∧ Ty T t as ∧ ∀ j, j < as.length → Reads w (fun b => b < w.heap.size) (cs.getD j undef) (as.getD j .top)
  | 0, t, hrd, _, _, _, _ => by simp [rdT] at hrd
  | n + 1, t, hrd, fuel, cs, x, h => by
    unfold rdT at hrd
    cases hi : T t with
    | none => simp [hi] at hrd
    | some i =>
      simp only [hi] at hrd
      obtain ⟨nf, d, z, ok⟩ := hT.get hi
      have htk := ok.tk
      have hu := ok.und
      split at hrd
      · rename_i k hk
        simp only [beq_iff_eq] at hrd
        have hd : d = .int k := by rw [hk] at htk; cases d <;> simp_all [tkOk]
        rw [hd] at hu
        obtain ⟨m, rfl, _, hw⟩ := DataW.trod_int hu h
        simp only [Lit.wf, Bool.and_eq_true, decide_eq_true_eq] at hw
        refine ⟨[.int k m], i, rfl, by simp [hrd], by simp [hrd], .int m hi hk hw, fun j hj => ?_⟩
        have : j = 0 := by simp at hj; exact hj
        subst this; exact .int k m
      · rename_i hk
        simp only [beq_iff_eq] at hrd
        have hd : d = .bool := by rw [hk] at htk; cases d <;> simp_all [tkOk]
        rw [hd] at hu
        obtain ⟨b, rfl, _⟩ := DataW.trod_bool hu h
        refine ⟨[.bool b], i, rfl, by simp [hrd], by simp [hrd], .bool b hi hk, fun j hj => ?_⟩
        have : j = 0 := by simp at hj; exact hj
        subst this; exact .bool b
      · rename_i e hk
        simp only [Bool.and_eq_true, beq_iff_eq] at hrd
        obtain ⟨⟨hsz, hrde⟩, hpos⟩ := hrd
        have hd : d = .slice e := by rw [hk] at htk; cases d <;> simp_all [tkOk]
        rw [hd] at hu
        rcases DataW.trod_slice hu h with ⟨rfl, _⟩ | ⟨a, len, cap, elems, rest, m, _, rfl, _, _, hlc, _, hel, helm, _, _⟩
        · refine ⟨[.sl (some false) []], i, rfl, by simp [hsz], by simp [hsz], .slice false [] hi hk (by simp) (by simp), fun j hj => ?_⟩
          have : j = 0 := by simp at hj; exact hj
          subst this; exact .nil _ (by simp)
        · cases hei : T e with
          | none => simp [hei] at hpos
          | some ei =>
            simp only [hei, decide_eq_true_eq] at hpos
            have hsze := cellsOf_ti hT hei
            have hex : ∀ r, r < len → ∃ es : List AV, Ty T e es ∧ es.length = ei.size ∧ ∃ f : Nat → Value, ∀ j, j < ei.size → w.cell? ((a.add (r * ei.size)).add j) = some (f j) ∧ Reads w (fun b => b < w.heap.size) (f j) (es.getD j .top) := by
              intro r hr
              have h1 := helm r hr
              rw [hsze] at h1
              have h2 : elems[r]? = some (elems[r]'(by omega)) := List.getElem?_eq_getElem _
              rw [h2] at h1
              cases hc : w.cells? 0 (a.add (r * ei.size)) ei.size with
              | none => rw [hc] at h1; simp at h1
              | some cs' =>
                rw [hc, Option.bind_some] at h1
                obtain ⟨hcl, hcg⟩ := cells_get hc
                obtain ⟨as, i', hi', hal, hcl', hty, hr'⟩ := trod_reads hT n e hrde m cs' _ h1
                rw [hei] at hi'; cases hi'
                exact ⟨as, hty, hal, fun j => cs'.getD j undef, fun j hj => ⟨hcg j hj, hr' j (by omega)⟩⟩
            obtain ⟨es, hesl, hes⟩ := list_ex [] _ len hex
            refine ⟨[.sl (some true) es], i, rfl, by simp [hsz], by simp [hsz], .slice true es hi hk (fun _ => rfl) (fun j hj => (hes j (by omega)).1), fun j hj => ?_⟩
            have : j = 0 := by simp at hj; exact hj
            subst this
            show Reads w _ (.slice (some a) len cap) (.sl (some true) es)
            by_cases hl0 : len = 0
            · subst hl0
              have : es = [] := List.length_eq_zero_iff.1 hesl
              subst this
              exact .empty a cap _ (by simp)
            · obtain ⟨_, _, f0, hf0⟩ := hes 0 (by omega)
              have hc0 := (hf0 0 hpos).1
              rw [show a.add (0 * ei.size) = a by simp [Addr.add]] at hc0
              have hc0' : w.cell? a = some (f0 0) := by simpa [Addr.add] using hc0
              obtain ⟨b, o, sp⟩ := a
              have hsp : sp = none := by
                unfold World.cell? at hc0'
                split at hc0'
                · split at hc0'
                  · cases hc0'
                  · rename_i hs; simpa using hs
                · cases hc0'
              subst hsp
              have hbl : b < w.heap.size := World.block_lt_of_cell? w _ hc0'
              have hall : ∀ r, ∃ f : Nat → Value, r < len → ∀ j, j < ei.size → w.cell? ⟨b, o + r * ei.size + j, none⟩ = some (f j) ∧ Reads w (fun b => b < w.heap.size) (f j) ((es.getD r []).getD j .top) := by
                intro r
                by_cases hr : r < len
                · obtain ⟨_, _, f, hf⟩ := hes r hr
                  exact ⟨f, fun _ j hj => ⟨by have := (hf j hj).1; rwa [addr_add, addr_add] at this, (hf j hj).2⟩⟩
                · exact ⟨fun _ => undef, fun h => absurd h hr⟩
              rw [← hesl]
              refine .slice b o cap ei.size (some true) es (fun r j => Classical.choose (hall r) j) (by simp) ?_ hpos (fun _ => hbl) (by omega) ?_ ?_
              · intro r hr
                obtain ⟨k, hk1, hk2⟩ := List.getElem_of_mem hr
                have := (hes k (by omega)).2.1
                rw [List.getD_eq_getElem?_getD, List.getElem?_eq_getElem hk1, hk2] at this
                exact this
              · intro r j hr hj
                exact (Classical.choose_spec (hall r) (by omega) j hj).1
              · intro r j hr hj
                exact (Classical.choose_spec (hall r) (by omega) j hj).2
      · rename_i fs hk
        simp only [Bool.and_eq_true] at hrd
        obtain ⟨hct, hall⟩ := hrd
        obtain ⟨gs, hgs⟩ : ∃ gs, d = .struct gs := by rw [hk] at htk; cases d <;> simp_all [tkOk]
        rw [hgs] at hu htk
        rw [hk] at htk
        simp only [tkOk, beq_iff_eq] at htk
        obtain ⟨xs, m, _, _, hcl, hxl, hxs⟩ := DataW.trod_struct hu h
        have hsz := cellsOf_ti hT hi
        obtain ⟨ps, h1, h2, h3, h4⟩ := fields_glue (T := T) (w := w) (S := fun b => b < w.heap.size) cs i.size fs 0 hct (by omega) (by
          intro f hf
          have hrf := List.all_eq_true.1 hall f hf
          obtain ⟨g, hg0, hfk⟩ := List.mem_map.1 (by rw [htk]; exact hf : f ∈ gs.toList.map fun f => (f.offset, f.type))
          replace hfk := hfk.symm
          obtain ⟨k, hk1, hk2⟩ := List.getElem_of_mem hg0
          rw [Array.length_toList] at hk1
          have hg : gs[k]? = some g := by rw [Array.getElem?_eq_getElem hk1, ← hk2]; simp
          have h5 := hxs k _ hg
          have h6 : xs[k]? = some (xs[k]'(by omega)) := List.getElem?_eq_getElem _
          rw [h6] at h5
          obtain ⟨as, fi, hfi, hal, hcl', hty, hr⟩ := trod_reads hT n f.2 hrf m _ _ (by rw [hfk]; exact h5)
          have hszf := cellsOf_ti hT hfi
          rw [hfk] at hfi hty hszf ⊢
          exact ⟨as, fi, hfi, hal, hty, fun j hj => by have := hr j hj; rwa [hszf] at this⟩)
        refine ⟨ps.flatten, i, rfl, by omega, by omega, .struct ps hi hk h1 h2, fun j hj => ?_⟩
        have := h4 j hj
        rwa [Nat.zero_add] at this
      · cases hrd

end

end Go.Proofs.Ytdaemhaecjldaaa
