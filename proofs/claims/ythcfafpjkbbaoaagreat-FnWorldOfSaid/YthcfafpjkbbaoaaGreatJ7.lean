/- Shared texts J (part 7): W110, W125, W76, W121, W129, W120, W104, W128, W75, W101, W122, W123, W132, W133, W134, W135, W136, W138, Ty1, Ty4, Ty5, Ty6 -/
import Derived.Test.YthcfafpjkbbaoaaGreatJ6

set_option linter.unusedSimpArgs false
set_option linter.unusedVariables false

/- Members that keep to the rules: what is committed stays on one way: plain. -/
set_option linter.unusedSimpArgs false
set_option linter.unusedVariables false
set_option maxRecDepth 20000
set_option maxHeartbeats 4000000
namespace Go.Proofs.YthcfafpjkbbaoaaGreat
open Go Go.RowKit

theorem many0 : many 0 = 0 := by decide
theorem manyPosF : ∀ a : Fin 16, many (a.val : Int) ≥ 3 → 0 < (a.val : Int) := by decide +kernel
theorem many_pos {a : Int} (ha : 0 ≤ a ∧ a ≤ 15) (h : many a ≥ 3) : 0 < a := by
  have e1 : ((a.toNat : Nat) : Int) = a := by omega
  have := manyPosF ⟨a.toNat, by omega⟩
  dsimp only at this
  rw [e1] at this
  exact this h

def vt (w : Wld) (k : Nat) : Int := w.votes.getD k 0
def cw (w : Wld) (k : Nat) : Bool := k == 0 || decide (many (vt w k) ≥ 3)
theorem vt_bd {w : Wld} (h : worldValid w = true) (k : Nat) : 0 ≤ vt w k ∧ vt w k ≤ 15 := by
  obtain ⟨_, _, _, _, h5⟩ := worldValid_parts h
  unfold vt
  by_cases hk : k < w.votes.length
  · have e : w.votes.getD k 0 = w.votes[k] := by simp [List.getD_eq_getElem?_getD, hk]
    rw [e]
    exact h5 _ (List.getElem_mem hk)
  · have e : w.votes.getD k 0 = 0 := by simp [List.getD_eq_getElem?_getD, hk]
    rw [e]; decide

theorem cw_pos {w : Wld} (h : worldValid w = true) {k : Nat} (hk : 0 < k) (hc : cw w k = true) : many (vt w k) ≥ 3 := by
  unfold cw at hc
  rw [Bool.or_eq_true] at hc
  rcases hc with e | e
  · simp at e; omega
  · exact of_decide_eq_true e

/-- What is certified stays certified. -/
structure Later (w w' : Wld) : Prop where
  tree : w'.tree = w.tree
  cert : ∀ k, cw w k = true → cw w' k = true
  bits : ∀ k q, q < 4 → hasB (vt w k) q = true → hasB (vt w' k) q = true
theorem Later.refl (w : Wld) : Later w w := ⟨rfl, fun _ h => h, fun _ _ _ h => h⟩
theorem Later.trans {a b c : Wld} (h : Later a b) (g : Later b c) : Later a c := ⟨g.tree.trans h.tree, fun k hk => g.cert k (h.cert k hk), fun k q hq hk => g.bits k q hq (h.bits k q hq hk)⟩
theorem worldOf_valid {t : Tree} (ht : TreeOk t) : worldValid (worldOf t) = true := by
  unfold worldOf
  rw [if_pos (treeValid_true ht)]
  unfold worldValid
  simp [treeValid_true ht, voterOk, voterValid, inB]
/-- The block b, with those behind it, is committed. -/
structure Three (w : Wld) (b c d : Nat) : Prop where
  hd : d < w.tree.blocks.length
  dc : w.tree.bef d = (c : Int)
  cb : w.tree.bef c = (b : Int)
  kb : cw w b = true
  kc : cw w c = true
  kd : cw w d = true
  vc : (w.tree.blk b).view + 1 = (w.tree.blk c).view
  vd : (w.tree.blk c).view + 1 = (w.tree.blk d).view

/-! What the certificates of a world certify. -/
theorem certBlock_at {w : Wld} (h : worldValid w = true) {j : Nat} (h0 : 0 < j) (hj : j < w.votes.length) (hp : 0 < vt w j) : certBlock w.tree (certAt w j) = if many (vt w j) ≥ 3 then (j : Int) else -1 := by
  obtain ⟨ht, _, _, hl, hv⟩ := worldValid_parts h
  have hjb : j < w.tree.blocks.length := by omega
  have hb := ht.valid j hjb
  have hc : certValid (certAt w j) = true := by
    unfold certValid certAt
    simp only [Bool.and_eq_true]
    exact ⟨⟨inB_iff.2 (blockSum_in hb), inB_iff.2 (view_bd hb)⟩, inB_iff.2 (vt_bd h j)⟩
  unfold certBlock certCounts
  rw [hc, Bool.true_and]
  have hf : findB w.tree.blocks (certAt w j).sum = (j : Int) := findB_blk ht hjb
  rw [hf, if_neg (by omega : ¬ ((j : Int) < 0)), Int.toNat_natCast]
  by_cases hm : many (vt w j) ≥ 3
  · have hm' : decide (many (certAt w j).signers ≥ 3) = true := decide_eq_true hm
    rw [if_pos hm', if_pos hm]
    exact if_pos rfl
  · have hm' : decide (many (certAt w j).signers ≥ 3) = false := decide_eq_false hm
    rw [hm', if_neg hm]; rfl

def certUp (w : Wld) (i : Nat) : List Bool := (List.range w.tree.blocks.length).map fun k => k == 0 || (decide (k < i) && decide (many (vt w k) ≥ 3))
theorem certUp_len (w : Wld) (i : Nat) : (certUp w i).length = w.tree.blocks.length := by simp [certUp]
theorem certUp_get (w : Wld) (i k : Nat) (hk : k < w.tree.blocks.length) : (certUp w i)[k]'(by rw [certUp_len]; exact hk) = (k == 0 || (decide (k < i) && decide (many (vt w k) ≥ 3))) := by simp [certUp]

theorem certF_certs {w : Wld} (h : worldValid w = true) : ∀ i, i ≤ w.votes.length → certF w.tree (certsTo w i) (certs0 w.tree.blocks.length) = certUp w i
  | 0, _ => by
    apply List.ext_getElem
    · simp [certF, certsTo, certs0, certUp_len]
    · intro k h1 h2
      rw [certUp_len] at h2
      rw [certUp_get w 0 k h2]
      simp only [certF, certsTo, List.foldl_nil, certs0, List.getElem_set, List.getElem_replicate]
      by_cases hk : k = 0
      · subst hk; simp
      · simp [hk, Ne.symm hk]
  | i + 1, hi => by
    have ih := certF_certs h i (by omega)
    have hl := (worldValid_parts h).2.2.2.1
    unfold certsTo
    split
    · rename_i g
      have hcb := certBlock_at h g.1 (by omega) g.2
      have e : certF w.tree (certsTo w i ++ [certAt w i]) (certs0 w.tree.blocks.length) = certStep w.tree (certUp w i) (certAt w i) := by
        unfold certF at ih ⊢
        rw [List.foldl_append, ih]; rfl
      rw [e]
      unfold certStep
      rw [hcb]
      by_cases hm : many (vt w i) ≥ 3
      · rw [if_pos hm, if_neg (by omega : ¬ ((i : Int) < 0)), Int.toNat_natCast]
        apply List.ext_getElem
        · simp [certUp_len]
        · intro k h1 h2
          rw [certUp_len] at h2
          rw [certUp_get w _ k h2, List.getElem_set]
          by_cases hk : i = k
          · subst hk; simp [hm]
          · rw [if_neg hk, certUp_get w _ k h2]
            have : decide (k < i) = decide (k < i + 1) := by
              by_cases x : k < i
              · simp [x]; omega
              · have : ¬ k < i + 1 := by omega
                simp [x, this]
            rw [this]
      · rw [if_neg hm]
        rw [if_pos (by decide : (-1 : Int) < 0)]
        apply List.ext_getElem
        · simp [certUp_len]
        · intro k h1 h2
          rw [certUp_len] at h2
          rw [certUp_get w _ k h2, certUp_get w _ k h2]
          by_cases hk : i = k
          · subst hk; simp [hm]
          · have : decide (k < i) = decide (k < i + 1) := by
              by_cases x : k < i
              · simp [x]; omega
              · have : ¬ k < i + 1 := by omega
                simp [x, this]
            rw [this]
    · rename_i g
      rw [ih]
      apply List.ext_getElem
      · simp [certUp_len]
      · intro k h1 h2
        rw [certUp_len] at h2
        rw [certUp_get w _ k h2, certUp_get w _ k h2]
        by_cases hk : i = k
        · subst hk
          by_cases h0 : i = 0
          · subst h0; simp
          · have hnm : ¬ many (vt w i) ≥ 3 := fun hm => g ⟨by omega, many_pos (vt_bd h i) hm⟩
            simp [hnm]
        · have : decide (k < i) = decide (k < i + 1) := by
            by_cases x : k < i
            · simp [x]; omega
            · have : ¬ k < i + 1 := by omega
              simp [x, this]
          rw [this]

theorem certL_world {w : Wld} (h : worldValid w = true) {k : Nat} (hk : k < w.tree.blocks.length) : (certL w.tree (certsTo w w.votes.length)).getD k false = cw w k := by
  have hl := (worldValid_parts h).2.2.2.1
  unfold certL
  rw [certF_certs h _ (Nat.le_refl _), List.getD_eq_getElem?_getD, List.getElem?_eq_getElem (by rw [certUp_len]; exact hk), certUp_get w _ k hk]
  show (k == 0 || _) = _
  unfold cw
  rw [hl]
  simp [hk]

/-! Heads. -/
theorem fltF_mem (p : Nat → Bool) : ∀ (f i : Nat) (x : Int), x ∈ fltF p f i ↔ ∃ k : Nat, i ≤ k ∧ k < i + f ∧ p k = true ∧ x = (k : Int)
  | 0, i, x => by
    simp only [fltF, List.not_mem_nil, false_iff]
    rintro ⟨k, h1, h2, _⟩; omega
  | f + 1, i, x => by
    unfold fltF
    have ih := fltF_mem p f (i + 1) x
    split
    · rename_i hp
      rw [List.mem_cons, ih]
      constructor
      · rintro (rfl | ⟨k, h1, h2, h3, h4⟩)
        · exact ⟨i, Nat.le_refl _, by omega, hp, rfl⟩
        · exact ⟨k, by omega, by omega, h3, h4⟩
      · rintro ⟨k, h1, h2, h3, h4⟩
        by_cases e : k = i
        · left; rw [h4, e]
        · right; exact ⟨k, by omega, by omega, h3, h4⟩
    · rename_i hp
      rw [ih]
      constructor
      · rintro ⟨k, h1, h2, h3, h4⟩; exact ⟨k, by omega, by omega, h3, h4⟩
      · rintro ⟨k, h1, h2, h3, h4⟩
        by_cases e : k = i
        · subst e; exact absurd h3 hp
        · exact ⟨k, by omega, by omega, h3, h4⟩

theorem headsTo_mem (t : Tree) (ce : List Bool) (b : Nat) : ∀ i, (headsTo t ce i).getD b false = true → ∃ d c : Nat, d < i ∧ t.bef d = (c : Int) ∧ t.bef c = (b : Int) ∧ threeB t ce b c d = true
  | 0, h => by
    unfold headsTo at h
    rw [List.getD_eq_getElem?_getD, List.getElem?_replicate] at h
    split at h <;> cases h
  | i + 1, h => by
    unfold headsTo headStep at h
    split at h
    · obtain ⟨d, c, h1, h2⟩ := headsTo_mem t ce b i h
      exact ⟨d, c, by omega, h2⟩
    · rename_i g1
      split at h
      · obtain ⟨d, c, h1, h2⟩ := headsTo_mem t ce b i h
        exact ⟨d, c, by omega, h2⟩
      · rename_i g2
        split at h
        · rename_i g3
          by_cases e : (t.bef (t.bef i).toNat).toNat = b
          · rw [e] at g3
            exact ⟨i, (t.bef i).toNat, by omega, by omega, by omega, g3⟩
          · rw [List.getD_eq_getElem?_getD, List.getElem?_set_ne e, ← List.getD_eq_getElem?_getD] at h
            obtain ⟨d, c, h1, h2⟩ := headsTo_mem t ce b i h
            exact ⟨d, c, by omega, h2⟩
        · obtain ⟨d, c, h1, h2⟩ := headsTo_mem t ce b i h
          exact ⟨d, c, by omega, h2⟩

theorem headsTo_mono (t : Tree) (ce : List Bool) (b : Nat) (i : Nat) : ∀ k, (headsTo t ce i).getD b false = true → (headsTo t ce (i + k)).getD b false = true
  | 0, h => h
  | k + 1, h => by
    have ih := headsTo_mono t ce b i k h
    show (headStep t ce (headsTo t ce (i + k)) (i + k)).getD b false = true
    unfold headStep
    split
    · exact ih
    · split
      · exact ih
      · split
        · exact getD_set_true _ _ _ ih
        · exact ih
theorem headsTo_has {t : Tree} (ht : TreeOk t) {ce : List Bool} {b c d : Nat} (hd : d < t.blocks.length) (h1 : t.bef d = (c : Int)) (h2 : t.bef c = (b : Int)) (h3 : threeB t ce b c d = true) : (headsTo t ce t.blocks.length).getD b false = true := by
  have e : t.blocks.length = d + 1 + (t.blocks.length - (d + 1)) := by omega
  rw [e]
  refine headsTo_mono t ce b (d + 1) _ ?_
  show (headStep t ce (headsTo t ce d) d).getD b false = true
  have hd0 : d ≠ 0 := fun x => by rw [x, ht.bef0] at h1; omega
  have hcd : c < d := by have := (ht.link d (by omega) hd).hi; rw [h1] at this; omega
  have hc0 : c ≠ 0 := fun x => by rw [x, ht.bef0] at h2; omega
  have hbc : b < c := by have := (ht.link c (by omega) (by omega)).hi; rw [h2] at this; omega
  unfold headStep
  rw [h1, Int.toNat_natCast, h2, Int.toNat_natCast, if_neg (by omega), if_neg (by omega), if_pos h3, List.getD_eq_getElem?_getD, List.getElem?_set_self (by rw [headsTo_len]; omega)]
  rfl

theorem heads_iff {t : Tree} (ht : TreeOk t) (ce : List Bool) (x : Int) : x ∈ headsL t ce ↔ ∃ b c d : Nat, x = (b : Int) ∧ d < t.blocks.length ∧ t.bef d = (c : Int) ∧ t.bef c = (b : Int) ∧ threeB t ce b c d = true := by
  unfold headsL
  rw [fltF_mem]
  constructor
  · rintro ⟨b, _, _, h3, rfl⟩
    obtain ⟨d, c, h4, h5, h6, h7⟩ := headsTo_mem t ce b _ h3
    exact ⟨b, c, d, rfl, h4, h5, h6, h7⟩
  · rintro ⟨b, c, d, rfl, h4, h5, h6, h7⟩
    have hd0 : d ≠ 0 := fun x => by rw [x, ht.bef0] at h5; omega
    have hcd : c < d := by have := (ht.link d (by omega) h4).hi; rw [h5] at this; omega
    have hc0 : c ≠ 0 := fun x => by rw [x, ht.bef0] at h6; omega
    have hbc : b < c := by have := (ht.link c (by omega) (by omega)).hi; rw [h6] at this; omega
    exact ⟨b, by omega, by omega, headsTo_has ht h4 h5 h6 h7, rfl⟩

theorem threeB_iff (t : Tree) (ce : List Bool) (b c d : Nat) : threeB t ce b c d = true ↔ ce.getD b false = true ∧ ce.getD c false = true ∧ ce.getD d false = true ∧ (t.blk b).view + 1 = (t.blk c).view ∧ (t.blk c).view + 1 = (t.blk d).view := by
  unfold threeB
  simp only [Bool.and_eq_true, beq_iff_eq]

/-- The heads of a world. -/
theorem headsW_iff {w : Wld} (h : worldValid w = true) (x : Int) : x ∈ headsL w.tree (certL w.tree (certsTo w w.votes.length)) ↔ ∃ b c d : Nat, x = (b : Int) ∧ Three w b c d := by
  have ht := (worldValid_parts h).1
  rw [heads_iff ht]
  constructor
  · rintro ⟨b, c, d, rfl, h4, h5, h6, h7⟩
    have hd0 : d ≠ 0 := fun x => by rw [x, ht.bef0] at h5; omega
    have hcd : c < d := by have := (ht.link d (by omega) h4).hi; rw [h5] at this; omega
    have hc0 : c ≠ 0 := fun x => by rw [x, ht.bef0] at h6; omega
    have hbc : b < c := by have := (ht.link c (by omega) (by omega)).hi; rw [h6] at this; omega
    obtain ⟨g1, g2, g3, g4, g5⟩ := (threeB_iff _ _ _ _ _).1 h7
    rw [certL_world h (by omega)] at g1 g2 g3
    exact ⟨b, c, d, rfl, ⟨h4, h5, h6, g1, g2, g3, g4, g5⟩⟩
  · rintro ⟨b, c, d, rfl, ⟨h4, h5, h6, g1, g2, g3, g4, g5⟩⟩
    have hd0 : d ≠ 0 := fun x => by rw [x, ht.bef0] at h5; omega
    have hcd : c < d := by have := (ht.link d (by omega) h4).hi; rw [h5] at this; omega
    have hc0 : c ≠ 0 := fun x => by rw [x, ht.bef0] at h6; omega
    have hbc : b < c := by have := (ht.link c (by omega) (by omega)).hi; rw [h6] at this; omega
    refine ⟨b, c, d, rfl, h4, h5, h6, (threeB_iff _ _ _ _ _).2 ⟨?_, ?_, ?_, g4, g5⟩⟩
    · rw [certL_world h (by omega)]; exact g1
    · rw [certL_world h (by omega)]; exact g2
    · rw [certL_world h (by omega)]; exact g3

theorem certsTo_30 {w : Wld} (h : worldValid w = true) : treeValid w.tree = true ∧ (certsTo w w.votes.length).length ≤ 30 := by
  obtain ⟨ht, _, _, hl, _⟩ := worldValid_parts h
  have h1 := certsTo_len w w.votes.length
  have h2 := ht.len
  exact ⟨treeValid_true ht, by omega⟩

theorem headW_yes {w : Wld} (h : worldValid w = true) : headW w = bestF w.tree (headsL w.tree (certL w.tree (certsTo w w.votes.length))) 0 := by
  unfold headW; rw [committedTo_yes (certsTo_30 h)]

end Go.Proofs.YthcfafpjkbbaoaaGreat

/- FnCommittedTo. -/
set_option linter.unusedSimpArgs false
set_option linter.unusedVariables false
set_option maxRecDepth 20000
set_option maxHeartbeats 4000000
namespace Go.Proofs.YthcfafpjkbbaoaaGreat
open Go Go.RowKit

end Go.Proofs.YthcfafpjkbbaoaaGreat

/- Contracts: worlds that grow. -/
set_option linter.unusedSimpArgs false
set_option linter.unusedVariables false
set_option maxRecDepth 20000
set_option maxHeartbeats 4000000
namespace Go.Proofs.YthcfafpjkbbaoaaGreat
open Go Go.RowKit

noncomputable def worldGrow (w : Wld) (n v : Int) (l : List Action) : Wld × Bool :=
  if worldValid w then (if (growTree w.tree n v l).2 then (⟨(growTree w.tree n v l).1, w.voters, w.votes ++ [0]⟩, true) else (w, false)) else (noW, false)

theorem worldGrow_wsz (w : Wld) (n v : Int) (l : List Action) : wsz (worldGrow w n v l).1 ≤ wsz w + l.length + 3 := by
  unfold worldGrow
  split
  · split
    · have := growTree_tsz w.tree n v l
      unfold wsz; simp; omega
    · show wsz w ≤ _; omega
  · unfold noW wsz tsz; simp [lsum]

theorem c_impl_WorldGrow (n1 n2 n3 n4 n5 n6 : Option Bool) (w : Wld) (n v : Int) (l : List Action) (hx : WldSz w) (hl : l.length < 2 ^ 32) :
    Det Tryz.prog 57 [.agg (encW n1 n2 n3 n4 n5 w), .int .i64 n, .int .i64 v, .sl n6 (rows encA l)] (.tup [.agg (encWF (worldGrow w n v l).1), .bool (worldGrow w n v l).2]) := by
  refine fspec_det tab_ok Tryz.call57 Tryz.func57 rfl 40 Tryz.ntmps57 (of_decide_eq_true rfl) fun B => codeK_sound tab_ok _ _ _ ?_
  unfold worldGrow
  simp (config := { maxSteps := 4000000 }) only [go_sem, simprocAttr, ↓dnA, Tryz.f57, rows_length, encW]
  refine CallTo.det (c_impl_WorldValid n1 n2 n3 n4 n5 w hx) fun _ => ?_
  cases h0 : worldValid w with
  | false => simp (config := { maxSteps := 4000000 }) only [go_sem, simprocAttr, ↓dnA, Tryz.f57, rows_length, encW, h0, encWF, noW, rows_nil]
  | true =>
    have hs := worldOk_s32 h0
    obtain ⟨ht, h4, hvo, hvl, hvs⟩ := worldValid_parts h0
    have hlen := ht.len
    simp (config := { maxSteps := 4000000 }) only [go_sem, simprocAttr, ↓dnA, Tryz.f57, rows_length, encW, h0]
    refine CallTo.det (c_impl_World_clone n1 n2 n3 n4 n5 w hs.tree hs.voters hs.votes) fun _ => ?_
    simp (config := { maxSteps := 4000000 }) only [go_sem, simprocAttr, ↓dnA, Tryz.f57, rows_length, encW, h0, encWF]
    refine CallTo.det (c_impl_GrowTree n6 n1 n2 n3 w.tree n v l hs.tree hl) fun _ => ?_
    have hgo := growTree_ok ht n v l
    generalize growTree w.tree n v l = g at hgo
    obtain ⟨g, ok⟩ := g
    dsimp only at hgo ⊢
    cases ok with
    | false => simp (config := { maxSteps := 4000000 }) only [go_sem, simprocAttr, ↓dnA, Tryz.f57, rows_length, encW, h0, encWF, encTF]
    | true =>
      have hgs := tb_s32 hgo
      have tk2 : (rows encI w.votes).take w.votes.length = rows encI w.votes := by rw [List.take_of_length_le]; rw [rows_length]; omega
      have e2 : rows encI w.votes ++ [[AV.int IntKind.i64 0]] = rows encI (w.votes ++ [0]) := by
        rw [← rows_snoc]; rfl
      have l2 : (w.votes ++ [(0 : Int)]).length = w.votes.length + 1 := by simp
      have hc := c_impl_World_clone none none none none (some true) ⟨g, w.voters, w.votes ++ [0]⟩ hgs hs.voters (by show (w.votes ++ [(0 : Int)]).length < _; rw [l2]; omega)
      have hf : encWF ⟨g, w.voters, w.votes ++ [0]⟩ = [.osl false 2 (rows encE g.base), .osl false 6 (rows encB1 g.blocks), .osl false 1 (rows encI g.before), .osl false 2 (rows encV w.voters), .osl false 1 (rows encI (w.votes ++ [0]))] := rfl
      simp (config := { maxSteps := 4000000 }) only [go_sem, simprocAttr, ↓dnA, Tryz.f57, rows_length, encW, h0, encWF, encTF, tk2, e2, l2]
      repeat refine And.intro (by first | omega | (simp; done) | (simp; omega) | assumption) ?_
      refine CallTo.det hc fun _ => ?_
      simp (config := { maxSteps := 4000000 }) only [go_sem, simprocAttr, ↓dnA, Tryz.f57, rows_length, encW, h0, hf, encWF, encTF, tk2, e2, l2]

theorem c_spec_WorldGrow (n1 n2 n3 n4 n5 n6 : Option Bool) (w : Wld) (n v : Int) (l : List Action) (hx : WldSz w) (hl : l.length < 2 ^ 32) :
    Det Tryz.prog 58 [.agg (encW n1 n2 n3 n4 n5 w), .int .i64 n, .int .i64 v, .sl n6 (rows encA l)] (.tup [.agg (encWF (worldGrow w n v l).1), .bool (worldGrow w n v l).2]) := by
  refine fspec_det tab_ok Tryz.call58 Tryz.func58 rfl 39 Tryz.ntmps58 (of_decide_eq_true rfl) fun B => codeK_sound tab_ok _ _ _ ?_
  unfold worldGrow
  simp (config := { maxSteps := 4000000 }) only [go_sem, simprocAttr, ↓dnA, Tryz.f58, rows_length, encW]
  refine CallTo.det (c_spec_WorldValid n1 n2 n3 n4 n5 w hx) fun _ => ?_
  cases h0 : worldValid w with
  | false => simp (config := { maxSteps := 4000000 }) only [go_sem, simprocAttr, ↓dnA, Tryz.f58, rows_length, encW, h0, encWF, noW, rows_nil]
  | true =>
    have hs := worldOk_s32 h0
    obtain ⟨ht, h4, hvo, hvl, hvs⟩ := worldValid_parts h0
    have hlen := ht.len
    simp (config := { maxSteps := 4000000 }) only [go_sem, simprocAttr, ↓dnA, Tryz.f58, rows_length, encW, h0]
    refine CallTo.det (c_spec_l18Copy n1 n2 n3 n4 n5 w hs.tree hs.voters hs.votes) fun _ => ?_
    simp (config := { maxSteps := 4000000 }) only [go_sem, simprocAttr, ↓dnA, Tryz.f58, rows_length, encW, h0, encWF]
    refine CallTo.det (c_spec_GrowTree n1 n2 n3 n6 w.tree n v l hs.tree hl) fun _ => ?_
    have hgo := growTree_ok ht n v l
    generalize growTree w.tree n v l = g at hgo
    obtain ⟨g, ok⟩ := g
    dsimp only at hgo ⊢
    cases ok with
    | false => simp (config := { maxSteps := 4000000 }) only [go_sem, simprocAttr, ↓dnA, Tryz.f58, rows_length, encW, h0, encWF, encTF]
    | true =>
      have hgs := tb_s32 hgo
      have tk2 : (rows encI w.votes).take w.votes.length = rows encI w.votes := by rw [List.take_of_length_le]; rw [rows_length]; omega
      have e2 : rows encI w.votes ++ [[AV.int IntKind.i64 0]] = rows encI (w.votes ++ [0]) := by
        rw [← rows_snoc]; rfl
      have l2 : (w.votes ++ [(0 : Int)]).length = w.votes.length + 1 := by simp
      simp (config := { maxSteps := 4000000 }) only [go_sem, simprocAttr, ↓dnA, Tryz.f58, rows_length, encW, h0, encWF, encTF, tk2, e2, l2]
      repeat refine And.intro (by first | omega | (simp; done) | (simp; omega) | assumption) ?_
      omega

end Go.Proofs.YthcfafpjkbbaoaaGreat

/- New worlds, grown worlds: what is committed in them: plain. -/
set_option linter.unusedSimpArgs false
set_option linter.unusedVariables false
set_option maxRecDepth 20000
set_option maxHeartbeats 4000000
namespace Go.Proofs.YthcfafpjkbbaoaaGreat
open Go Go.RowKit

theorem certsTo_zero (w : Wld) (h : ∀ k, w.votes.getD k 0 = 0) : ∀ n, certsTo w n = []
  | 0 => rfl
  | n + 1 => by rw [certsTo_no (fun g => by rw [h] at g; omega), certsTo_zero w h n]
theorem worldOf_vt {t : Tree} (ht : TreeOk t) (k : Nat) : vt (worldOf t) k = 0 := by
  unfold vt worldOf
  rw [if_pos (treeValid_true ht)]
  simp only [List.getD_eq_getElem?_getD, List.getElem?_replicate]
  split <;> rfl
theorem worldOf_certs {t : Tree} (ht : TreeOk t) : worldCerts (worldOf t) = [] := by
  rw [worldCerts_yes (worldOf_valid ht), certsTo_zero _ (fun k => worldOf_vt ht k)]
theorem worldOf_head {t : Tree} (ht : TreeOk t) : headW (worldOf t) = 0 := by
  have hv := worldOf_valid ht
  have e : headsL (worldOf t).tree (certL (worldOf t).tree (certsTo (worldOf t) (worldOf t).votes.length)) = [] := by
    rw [List.eq_nil_iff_forall_not_mem]
    intro x hx
    obtain ⟨b, c, d, _, h3⟩ := (headsW_iff hv x).1 hx
    have hc0 : 0 < c := by
      rcases Nat.eq_zero_or_pos c with rfl | h
      · have := h3.cb
        rw [(worldValid_parts hv).1.bef0] at this; omega
      · exact h
    have := cw_pos hv hc0 h3.kc
    rw [worldOf_vt ht, many0] at this
    omega
  rw [headW_yes hv, e]; rfl

theorem fltF_congr {p q : Nat → Bool} : ∀ (f i : Nat), (∀ k, i ≤ k → k < i + f → p k = q k) → fltF p f i = fltF q f i
  | 0, _, _ => rfl
  | f + 1, i, h => by
    have h1 := h i (Nat.le_refl _) (by omega)
    have h2 := fltF_congr (p := p) (q := q) f (i + 1) fun k hk hk' => h k (by omega) (by omega)
    unfold fltF
    rw [h1, h2]
theorem fltF_snoc (p : Nat → Bool) : ∀ (f i : Nat), p (i + f) = false → fltF p (f + 1) i = fltF p f i
  | 0, i, h => by
    unfold fltF
    rw [if_neg (by rw [Nat.add_zero] at h; rw [h]; decide)]
    rfl
  | f + 1, i, h => by
    have ih := fltF_snoc p f (i + 1) (by rw [show i + 1 + f = i + (f + 1) by omega]; exact h)
    show (if p i = true then (i : Int) :: fltF p (f + 1) (i + 1) else fltF p (f + 1) (i + 1)) = (if p i = true then (i : Int) :: fltF p f (i + 1) else fltF p f (i + 1))
    rw [ih]

theorem headsB_iff {w : Wld} (h : worldValid w = true) (b : Nat) : headsB w.tree (certL w.tree (certsTo w w.votes.length)) b = true ↔ ∃ c d : Nat, Three w b c d := by
  have ht := (worldValid_parts h).1
  have hm : (b : Int) ∈ headsL w.tree (certL w.tree (certsTo w w.votes.length)) ↔ ∃ b' c d : Nat, (b : Int) = (b' : Int) ∧ Three w b' c d := headsW_iff h (b : Int)
  constructor
  · intro hb
    by_cases hl : b < w.tree.blocks.length
    · obtain ⟨b', c, d, e, h3⟩ := hm.1 ((fltF_mem _ _ _ _).2 ⟨b, by omega, by omega, hb, rfl⟩)
      have : b' = b := by omega
      subst this
      exact ⟨c, d, h3⟩
    · unfold headsB at hb
      rw [List.getD_eq_getElem?_getD, List.getElem?_eq_none (by rw [headsTo_len]; omega)] at hb
      cases hb
  · rintro ⟨c, d, h3⟩
    obtain ⟨k, _, _, hk, e⟩ := (fltF_mem _ _ _ _).1 (hm.2 ⟨b, c, d, rfl, h3⟩)
    have : k = b := by omega
    subst this
    exact hk

theorem bestF_congr {t u : Tree} (m : Nat) (h : ∀ k, k < m → t.blk k = u.blk k) : ∀ (l : List Int) (b : Int), (∀ x, x ∈ l → 0 ≤ x ∧ x < (m : Int)) → 0 ≤ b ∧ b < (m : Int) → bestF t l b = bestF u l b
  | [], b, _, _ => rfl
  | x :: r, b, hl, hb => by
    have hx := hl x (List.mem_cons_self ..)
    unfold bestF
    rw [h x.toNat (by omega), h b.toNat (by omega)]
    refine bestF_congr m h r _ (fun y hy => hl y (List.mem_cons_of_mem _ hy)) ?_
    split
    · exact hx
    · exact hb

/-- A world with a further block, for which nobody has voted. -/
theorem grown_head {w : Wld} {b : Block} (hv : worldValid w = true) (ht' : TreeOk (putT w.tree b)) (hv' : worldValid ⟨putT w.tree b, w.voters, w.votes ++ [0]⟩ = true) :
    headW ⟨putT w.tree b, w.voters, w.votes ++ [0]⟩ = headW w := by
  obtain ⟨ht, _, _, hl, _⟩ := worldValid_parts hv
  have hlen := putT_len w.tree b
  have hvt : ∀ k, k < w.votes.length → vt ⟨putT w.tree b, w.voters, w.votes ++ [0]⟩ k = vt w k := fun k hk => by
    unfold vt
    simp only [List.getD_eq_getElem?_getD]
    rw [List.getElem?_append_left hk]
  have hnew : vt ⟨putT w.tree b, w.voters, w.votes ++ [0]⟩ w.votes.length = 0 := by
    unfold vt
    simp [List.getD_eq_getElem?_getD]
  have hcw : ∀ k, k < w.votes.length → cw ⟨putT w.tree b, w.voters, w.votes ++ [0]⟩ k = cw w k := fun k hk => by
    unfold cw; rw [hvt k hk]
  have hcn : cw ⟨putT w.tree b, w.voters, w.votes ++ [0]⟩ w.votes.length = false := by
    unfold cw
    rw [hnew, many0]
    have := ht.len
    rw [beq_eq_false_iff_ne.2 (show w.votes.length ≠ 0 by omega)]
    rfl
  have hthree : ∀ i c d : Nat, Three ⟨putT w.tree b, w.voters, w.votes ++ [0]⟩ i c d ↔ Three w i c d := by
    intro i c d
    constructor
    · rintro ⟨h1, h2, h3, h4, h5, h6, h7, h8⟩
      dsimp only at h1 h2 h3 h7 h8
      have hd : d < w.tree.blocks.length := by
        rcases Nat.lt_or_ge d w.tree.blocks.length with h | h
        · exact h
        · have : d = w.votes.length := by omega
          subst this
          rw [hcn] at h6; cases h6
      rw [putT_befOld ht hd] at h2
      have hc : c < w.tree.blocks.length := by
        have hd0 : d ≠ 0 := fun x => by rw [x, ht.bef0] at h2; omega
        have := (ht.link d (by omega) hd).hi; omega
      rw [putT_befOld ht hc] at h3
      have hi : i < w.tree.blocks.length := by
        have hc0 : c ≠ 0 := fun x => by rw [x, ht.bef0] at h3; omega
        have := (ht.link c (by omega) hc).hi; omega
      rw [hcw _ (by omega)] at h4 h5 h6
      rw [putT_old hi, putT_old hc] at h7
      rw [putT_old hc, putT_old hd] at h8
      exact ⟨hd, h2, h3, h4, h5, h6, h7, h8⟩
    · rintro ⟨hd, h2, h3, h4, h5, h6, h7, h8⟩
      have hc : c < w.tree.blocks.length := by
        have hd0 : d ≠ 0 := fun x => by rw [x, ht.bef0] at h2; omega
        have := (ht.link d (by omega) hd).hi; omega
      have hi : i < w.tree.blocks.length := by
        have hc0 : c ≠ 0 := fun x => by rw [x, ht.bef0] at h3; omega
        have := (ht.link c (by omega) hc).hi; omega
      refine ⟨by dsimp only; omega, ?_, ?_, ?_, ?_, ?_, ?_, ?_⟩
      · dsimp only; rw [putT_befOld ht hd]; exact h2
      · dsimp only; rw [putT_befOld ht hc]; exact h3
      · rw [hcw _ (by omega)]; exact h4
      · rw [hcw _ (by omega)]; exact h5
      · rw [hcw _ (by omega)]; exact h6
      · dsimp only; rw [putT_old hi, putT_old hc]; exact h7
      · dsimp only; rw [putT_old hc, putT_old hd]; exact h8
  have hB : ∀ i, headsB (putT w.tree b) (certL (putT w.tree b) (certsTo ⟨putT w.tree b, w.voters, w.votes ++ [0]⟩ (w.votes ++ [0]).length)) i = headsB w.tree (certL w.tree (certsTo w w.votes.length)) i := by
    intro i
    have h1 := headsB_iff hv' i
    have h2 := headsB_iff hv i
    dsimp only at h1
    rw [Bool.eq_iff_iff, h1, h2]
    exact ⟨fun ⟨c, d, h⟩ => ⟨c, d, (hthree i c d).1 h⟩, fun ⟨c, d, h⟩ => ⟨c, d, (hthree i c d).2 h⟩⟩
  have hlast : headsB w.tree (certL w.tree (certsTo w w.votes.length)) (0 + w.tree.blocks.length) = false := by
    unfold headsB
    rw [List.getD_eq_getElem?_getD, List.getElem?_eq_none (by rw [headsTo_len]; omega)]
    rfl
  have hL : headsL (putT w.tree b) (certL (putT w.tree b) (certsTo ⟨putT w.tree b, w.voters, w.votes ++ [0]⟩ (w.votes ++ [0]).length)) = headsL w.tree (certL w.tree (certsTo w w.votes.length)) := by
    unfold headsL
    rw [fltF_congr _ _ (fun k _ _ => hB k), hlen]
    exact fltF_snoc _ _ _ hlast
  rw [headW_yes hv', headW_yes hv]
  dsimp only
  rw [hL]
  exact bestF_congr w.tree.blocks.length (fun k hk => putT_old hk) _ _ (fun x hx => headsL_bd _ _ x hx) (by have := ht.len; omega)

theorem growTree_is {t : Tree} {n v : Int} {l : List Action} (h : (growTree t n v l).2 = true) :
    TreeOk t ∧ (0 ≤ n ∧ n < t.blocks.length) ∧ ∃ b, (nextBlock (t.blk n.toNat) (storeOf t n) v l) = (b, true) ∧ TreeOk (putT t b) ∧ (growTree t n v l).1 = putT t b := by
  unfold growTree at h ⊢
  split at h
  · rename_i g1
    rw [if_pos g1]
    split at h
    · rename_i g2
      rw [if_pos g2]
      split at h
      · rename_i g3
        rw [if_pos g3]
        obtain ⟨k1, k2, k3⟩ := putBlock_is h
        have hn := inB_iff.1 g2
        refine ⟨k1, by omega, (nextBlock (t.blk n.toNat) (storeOf t n) v l).1, ?_, k2, k3⟩
        rw [← g3]
      · cases h
    · cases h
  · cases h

theorem worldGrow_facts {w : Wld} {n v : Int} {l : List Action} (h : (worldGrow w n v l).2 = true) :
    worldValid w = true ∧ worldValid (worldGrow w n v l).1 = true ∧ headW (worldGrow w n v l).1 = headW w ∧ (worldGrow w n v l).1.votes = w.votes ++ [0] := by
  unfold worldGrow at h ⊢
  split at h
  · rename_i hv
    rw [if_pos hv]
    split at h
    · rename_i hg
      rw [if_pos hg]
      obtain ⟨ht, _, b, _, ht', e⟩ := growTree_is hg
      obtain ⟨_, h4, hvo, hl, hvt⟩ := worldValid_parts hv
      have hv' : worldValid ⟨putT w.tree b, w.voters, w.votes ++ [0]⟩ = true := by
        unfold worldValid
        simp only [Bool.and_eq_true, decide_eq_true_eq, List.all_eq_true]
        refine ⟨⟨⟨⟨treeValid_true ht', h4⟩, hvo⟩, ?_⟩, fun x hx => ?_⟩
        · rw [List.length_append, putT_len, hl]; rfl
        · rcases List.mem_append.1 hx with hx | hx
          · exact inB_iff.2 (hvt x hx)
          · rw [List.mem_singleton] at hx; subst hx; decide
      rw [e]
      exact ⟨hv, hv', grown_head hv ht' hv', rfl⟩
    · cases h
  · cases h

end Go.Proofs.YthcfafpjkbbaoaaGreat

/- Contracts: stores that are the same. -/
set_option linter.unusedSimpArgs false
set_option linter.unusedVariables false
set_option maxRecDepth 20000
set_option maxHeartbeats 4000000
namespace Go.Proofs.YthcfafpjkbbaoaaGreat
open Go Go.RowKit

theorem c_laws_sameStore (n1 n2 : Option Bool) (xs : List Entry) (hx : xs.length < 2 ^ 62) : Det Tryz.prog 50 [.sl n1 (rows encE xs), .sl n2 (rows encE xs)] (.bool true) := by
  refine fspec_det tab_ok Tryz.call50 Tryz.func50 rfl 26 Tryz.ntmps50 (of_decide_eq_true rfl) fun B => codeK_sound tab_ok _ _ _ ?_
  have hne : ((xs.length : Int) != (xs.length : Int)) = false := by simp
  simp (config := { maxSteps := 4000000 }) only [go_sem, simprocAttr, ↓dnA, Tryz.f50, rows_length, hne]
  refine semL_for tab_ok (fun i : Nat => ⟨26, [(0, .sl n1 (rows encE xs)), (1, .sl n2 (rows encE xs)), (5, .int .i64 i)], []⟩) (fun i => xs.length - i)
    (fun i => i ≤ xs.length) 0 [] (Weak.of (by rfl) ?_ ?_ (by rfl)) (by omega) ?_
  · trivial
  · simp (config := { maxSteps := 4000000 }) only [go_sem, simprocAttr, ↓dnA, Tryz.f50, rows_length, frW, wk2, wk1, wkL, wkB, hpW, List.mem_cons, Prod.mk.injEq, exists_eq_left, exists_eq_right, exists_eq]
    try rfl
  · rintro i hi
    by_cases h : i < xs.length
    · have hw : IntKind.i64.wrap ((i : Int) + 1) = ((i + 1 : Nat) : Int) := wsucc h (by omega)
      simp (config := { maxSteps := 4000000 }) only [go_sem, simprocAttr, ↓dnA, Tryz.f50, rows_length, nlt h, h, rows_get _ _ _ h, encE, nn0, hw]
      refine semL_draw tab_ok mixed_ rfl (ord := [(0, []), (1, []), (2, []), (3, []), (4, []), (5, []), (6, []), (7, []), (8, [])]) (by dsimp only; decide +kernel) ?_
      simp (config := { maxSteps := 4000000 }) only [go_sem, simprocAttr, ↓dnA, Tryz.f50, rows_length, nlt h, h, rows_get _ _ _ h, encE, nn0, hw]
      simp only [eqCellsK, BEq.rfl, Bool.and_true, Bool.not_true, Bool.false_eq_true, false_implies, true_implies, true_and, forall_const]
      refine ⟨i + 1, [], by omega, by dsimp only; omega, Weak.of (by rfl) ?_ ?_ (by rfl)⟩
      · trivial
      · simp (config := { maxSteps := 4000000 }) only [go_sem, simprocAttr, ↓dnA, Tryz.f50, rows_length, frW, wk2, wk1, wkL, wkB, hpW, List.mem_cons, Prod.mk.injEq, exists_eq_left, exists_eq_right, exists_eq]
    · have hi' : i = xs.length := by omega
      subst hi'
      simp (config := { maxSteps := 4000000 }) only [go_sem, simprocAttr, ↓dnA, Tryz.f50, rows_length, nlf h]

end Go.Proofs.YthcfafpjkbbaoaaGreat

/- Contracts: blocks that are found. -/
set_option linter.unusedSimpArgs false
set_option linter.unusedVariables false
set_option maxRecDepth 20000
set_option maxHeartbeats 4000000
namespace Go.Proofs.YthcfafpjkbbaoaaGreat
open Go Go.RowKit

end Go.Proofs.YthcfafpjkbbaoaaGreat

/- Contracts: what the laws call the same; FindBlock, BlockRight. -/
set_option linter.unusedSimpArgs false
set_option linter.unusedVariables false
set_option maxRecDepth 20000
set_option maxHeartbeats 4000000
namespace Go.Proofs.YthcfafpjkbbaoaaGreat
open Go Go.RowKit

theorem c_laws_sameInts (n1 n2 : Option Bool) (xs : List Int) (hx : xs.length < 2 ^ 62) : Det Tryz.prog 16 [.sl n1 (rows encI xs), .sl n2 (rows encI xs)] (.bool true) := by
  refine fspec_det tab_ok Tryz.call16 Tryz.func16 rfl 26 Tryz.ntmps16 (of_decide_eq_true rfl) fun B => codeK_sound tab_ok _ _ _ ?_
  have hne : ((xs.length : Int) != (xs.length : Int)) = false := by simp
  simp (config := { maxSteps := 4000000 }) only [go_sem, simprocAttr, ↓dnA, Tryz.f16, rows_length, hne]
  refine semL_for tab_ok (fun i : Nat => ⟨26, [(0, .sl n1 (rows encI xs)), (1, .sl n2 (rows encI xs)), (5, .int .i64 i)], []⟩) (fun i => xs.length - i)
    (fun i => i ≤ xs.length) 0 [] (Weak.of (by rfl) ?_ ?_ (by rfl)) (by omega) ?_
  · trivial
  · simp (config := { maxSteps := 4000000 }) only [go_sem, simprocAttr, ↓dnA, Tryz.f16, rows_length, frW, wk2, wk1, wkL, wkB, hpW, List.mem_cons, Prod.mk.injEq, exists_eq_left, exists_eq_right, exists_eq]
    try rfl
  · rintro i hi
    by_cases h : i < xs.length
    · have hw : IntKind.i64.wrap ((i : Int) + 1) = ((i + 1 : Nat) : Int) := wsucc h (by omega)
      have hxx : (xs[i] != xs[i]) = false := by simp
      simp (config := { maxSteps := 4000000 }) only [go_sem, simprocAttr, ↓dnA, Tryz.f16, rows_length, nlt h, h, rows_get _ _ _ h, encI, nn0, hw, hxx]
      refine semL_draw tab_ok mixed_ rfl (ord := [(0, []), (1, []), (2, []), (3, []), (4, []), (5, []), (6, []), (7, []), (8, [])]) (by dsimp only; decide +kernel) ?_
      simp (config := { maxSteps := 4000000 }) only [go_sem, simprocAttr, ↓dnA, Tryz.f16, rows_length, nlt h, h, rows_get _ _ _ h, encI, nn0, hw, hxx]
      refine ⟨i + 1, [], by omega, by dsimp only; omega, Weak.of (by rfl) ?_ ?_ (by rfl)⟩
      · trivial
      · simp (config := { maxSteps := 4000000 }) only [go_sem, simprocAttr, ↓dnA, Tryz.f16, rows_length, frW, wk2, wk1, wkL, wkB, hpW, List.mem_cons, Prod.mk.injEq, exists_eq_left, exists_eq_right, exists_eq]
    · have hi' : i = xs.length := by omega
      subst hi'
      simp (config := { maxSteps := 4000000 }) only [go_sem, simprocAttr, ↓dnA, Tryz.f16, rows_length, nlf h]

theorem c_laws_sameBlock (n1 n2 : Option Bool) (b : Block) (hx : b.list.length < 2 ^ 62) : Det Tryz.prog 94 [.agg (encBk n1 b), .agg (encBk n2 b)] (.bool true) := by
  refine fspec_det tab_ok Tryz.call94 Tryz.func94 rfl 66 Tryz.ntmps94 (of_decide_eq_true rfl) fun B => codeK_sound tab_ok _ _ _ ?_
  obtain ⟨be, he, vi, xs, ro, ef⟩ := b
  dsimp only at hx
  have hne : ((xs.length : Int) != (xs.length : Int)) = false := by simp
  have h1 : (be != be) = false := by simp
  have h2 : (he != he) = false := by simp
  have h3 : (vi != vi) = false := by simp
  have h4 : (ro != ro) = false := by simp
  have h5 : (ef != ef) = false := by simp
  simp (config := { maxSteps := 4000000 }) only [go_sem, simprocAttr, ↓dnA, Tryz.f94, rows_length, hne, encBk, h1, h2, h3, h4, h5]
  refine semL_for tab_ok (fun i : Nat => ⟨66, [(2, .loc 2 0), (3, .loc 3 0), (5, .int .i64 i)], [(2, .var (encBk n1 ⟨be, he, vi, xs, ro, ef⟩)), (3, .var (encBk n2 ⟨be, he, vi, xs, ro, ef⟩))]⟩) (fun i => xs.length - i)
    (fun i => i ≤ xs.length) 0 [(2, 2), (3, 3)] (Weak.of (by rfl) ?_ ?_ (by rfl)) (by omega) ?_
  · simp (config := { maxSteps := 4000000 }) only [go_sem, simprocAttr, ↓dnA, Tryz.f94, rows_length, encBk, frW, wk2, wk1, wkL, wkB, hpW, List.mem_cons, Prod.mk.injEq, exists_eq_left, exists_eq_right, exists_eq]
    try rfl
  · simp (config := { maxSteps := 4000000 }) only [go_sem, simprocAttr, ↓dnA, Tryz.f94, rows_length, encBk, frW, wk2, wk1, wkL, wkB, hpW, List.mem_cons, Prod.mk.injEq, exists_eq_left, exists_eq_right, exists_eq]
    try rfl
  · rintro i hi
    by_cases h : i < xs.length
    · have hw : IntKind.i64.wrap ((i : Int) + 1) = ((i + 1 : Nat) : Int) := wsucc h (by omega)
      simp (config := { maxSteps := 4000000 }) only [go_sem, simprocAttr, ↓dnA, Tryz.f94, rows_length, encBk, nlt h, h, rows_get _ _ _ h, encA, nn0, hw]
      refine semL_draw tab_ok mixed_ rfl (ord := [(0, []), (1, []), (2, []), (3, []), (4, []), (5, []), (6, []), (7, []), (8, []), (9, []), (10, [])]) (by dsimp only; decide +kernel) ?_
      simp (config := { maxSteps := 4000000 }) only [go_sem, simprocAttr, ↓dnA, Tryz.f94, rows_length, encBk, nlt h, h, rows_get _ _ _ h, encA, nn0, hw]
      simp only [eqCellsK, BEq.rfl, Bool.and_true, Bool.not_true, Bool.false_eq_true, false_implies, true_implies, true_and, forall_const]
      refine ⟨i + 1, [(2, 2), (3, 3)], by omega, by dsimp only; omega, Weak.of (by rfl) ?_ ?_ (by rfl)⟩
      · simp (config := { maxSteps := 4000000 }) only [go_sem, simprocAttr, ↓dnA, Tryz.f94, rows_length, encBk, frW, wk2, wk1, wkL, wkB, hpW, List.mem_cons, Prod.mk.injEq, exists_eq_left, exists_eq_right, exists_eq]
        try rfl
      · simp (config := { maxSteps := 4000000 }) only [go_sem, simprocAttr, ↓dnA, Tryz.f94, rows_length, encBk, frW, wk2, wk1, wkL, wkB, hpW, List.mem_cons, Prod.mk.injEq, exists_eq_left, exists_eq_right, exists_eq]
        try rfl
    · have hi' : i = xs.length := by omega
      subst hi'
      simp (config := { maxSteps := 4000000 }) only [go_sem, simprocAttr, ↓dnA, Tryz.f94, rows_length, encBk, nlf h]

theorem c_laws_sameTree (n1 n2 n3 m1 m2 m3 : Option Bool) (t : Tree) (hx : TreeSz t) : Det Tryz.prog 31 [.agg (encT n1 n2 n3 t), .agg (encT m1 m2 m3 t)] (.bool true) := by
  refine fspec_det tab_ok Tryz.call31 Tryz.func31 rfl 48 Tryz.ntmps31 (of_decide_eq_true rfl) fun B => codeK_sound tab_ok _ _ _ ?_
  have hx1 := hx.base
  have hx2 := hx.blocks
  have hx3 := hx.before
  have hne : ((t.blocks.length : Int) != (t.blocks.length : Int)) = false := by simp
  simp (config := { maxSteps := 4000000 }) only [go_sem, simprocAttr, ↓dnA, Tryz.f31, rows_length, encT]
  refine CallTo.det (c_laws_sameStore n1 m1 t.base hx1) fun _ => ?_
  simp (config := { maxSteps := 4000000 }) only [go_sem, simprocAttr, ↓dnA, Tryz.f31, rows_length, encT]
  refine CallTo.det (c_laws_sameInts n3 m3 t.before hx3) fun _ => ?_
  simp (config := { maxSteps := 4000000 }) only [go_sem, simprocAttr, ↓dnA, Tryz.f31, rows_length, encT, hne]
  refine semL_for tab_ok (fun i : Nat => ⟨48, [(2, .loc 2 0), (3, .loc 3 0), (5, .int .i64 i)], [(2, .var (encT n1 n2 n3 t)), (3, .var (encT m1 m2 m3 t))]⟩) (fun i => t.blocks.length - i)
    (fun i => i ≤ t.blocks.length) 0 [(2, 2), (3, 3)] (Weak.of (by rfl) ?_ ?_ (by rfl)) (by omega) ?_
  · simp (config := { maxSteps := 4000000 }) only [go_sem, simprocAttr, ↓dnA, Tryz.f31, rows_length, encT, frW, wk2, wk1, wkL, wkB, hpW, List.mem_cons, Prod.mk.injEq, exists_eq_left, exists_eq_right, exists_eq]
    try rfl
  · simp (config := { maxSteps := 4000000 }) only [go_sem, simprocAttr, ↓dnA, Tryz.f31, rows_length, encT, frW, wk2, wk1, wkL, wkB, hpW, List.mem_cons, Prod.mk.injEq, exists_eq_left, exists_eq_right, exists_eq]
    try rfl
  · rintro i hi
    by_cases h : i < t.blocks.length
    · have hw : IntKind.i64.wrap ((i : Int) + 1) = ((i + 1 : Nat) : Int) := wsucc h (by omega)
      simp (config := { maxSteps := 4000000 }) only [go_sem, simprocAttr, ↓dnA, Tryz.f31, rows_length, encT, nlt h, h, rows_get _ _ _ h, encB1, encBk, nn0, hw]
      refine semL_draw tab_ok mixed_ rfl (ord := [(0, []), (1, []), (2, []), (3, []), (4, []), (5, []), (6, []), (7, []), (8, []), (9, []), (10, []), (11, [])]) (by dsimp only; decide +kernel) ?_
      simp (config := { maxSteps := 4000000 }) only [go_sem, simprocAttr, ↓dnA, Tryz.f31, rows_length, encT, nlt h, h, rows_get _ _ _ h, encB1, encBk, nn0, hw]
      refine CallTo.det (c_laws_sameBlock none none t.blocks[i] (hx.list _ (List.getElem_mem h))) fun _ => ?_
      simp (config := { maxSteps := 4000000 }) only [go_sem, simprocAttr, ↓dnA, Tryz.f31, rows_length, encT, nlt h, h, rows_get _ _ _ h, encB1, encBk, nn0, hw]
      refine ⟨i + 1, [(2, 2), (3, 3)], by omega, by dsimp only; omega, Weak.of (by rfl) ?_ ?_ (by rfl)⟩
      · simp (config := { maxSteps := 4000000 }) only [go_sem, simprocAttr, ↓dnA, Tryz.f31, rows_length, encT, frW, wk2, wk1, wkL, wkB, hpW, List.mem_cons, Prod.mk.injEq, exists_eq_left, exists_eq_right, exists_eq]
        try rfl
      · simp (config := { maxSteps := 4000000 }) only [go_sem, simprocAttr, ↓dnA, Tryz.f31, rows_length, encT, frW, wk2, wk1, wkL, wkB, hpW, List.mem_cons, Prod.mk.injEq, exists_eq_left, exists_eq_right, exists_eq]
        try rfl
    · have hi' : i = t.blocks.length := by omega
      subst hi'
      simp (config := { maxSteps := 4000000 }) only [go_sem, simprocAttr, ↓dnA, Tryz.f31, rows_length, encT, nlf h]

end Go.Proofs.YthcfafpjkbbaoaaGreat

/- Contracts: worlds that are the same. -/
set_option linter.unusedSimpArgs false
set_option linter.unusedVariables false
set_option maxRecDepth 20000
set_option maxHeartbeats 4000000
namespace Go.Proofs.YthcfafpjkbbaoaaGreat
open Go Go.RowKit

theorem c_laws_sameWorld (n1 n2 n3 n4 n5 m1 m2 m3 m4 m5 : Option Bool) (w : Wld) (hx : WldSz w) : Det Tryz.prog 22 [.agg (encW n1 n2 n3 n4 n5 w), .agg (encW m1 m2 m3 m4 m5 w)] (.bool true) := by
  refine fspec_det tab_ok Tryz.call22 Tryz.func22 rfl 47 Tryz.ntmps22 (of_decide_eq_true rfl) fun B => codeK_sound tab_ok _ _ _ ?_
  have hx2 := hx.voters
  have hx3 := hx.votes
  have hne : ((w.voters.length : Int) != (w.voters.length : Int)) = false := by simp
  simp (config := { maxSteps := 4000000 }) only [go_sem, simprocAttr, ↓dnA, Tryz.f22, rows_length, encW]
  refine CallTo.det (c_laws_sameTree n1 n2 n3 m1 m2 m3 w.tree hx.tree) fun _ => ?_
  simp (config := { maxSteps := 4000000 }) only [go_sem, simprocAttr, ↓dnA, Tryz.f22, rows_length, encW]
  refine CallTo.det (c_laws_sameInts n5 m5 w.votes hx3) fun _ => ?_
  simp (config := { maxSteps := 4000000 }) only [go_sem, simprocAttr, ↓dnA, Tryz.f22, rows_length, encW, hne]
  refine semL_for tab_ok (fun i : Nat => ⟨47, [(2, .loc 2 0), (3, .loc 3 0), (5, .int .i64 i)], [(2, .var (encW n1 n2 n3 n4 n5 w)), (3, .var (encW m1 m2 m3 m4 m5 w))]⟩) (fun i => w.voters.length - i)
    (fun i => i ≤ w.voters.length) 0 [(2, 2), (3, 3)] (Weak.of (by rfl) ?_ ?_ (by rfl)) (by omega) ?_
  · simp (config := { maxSteps := 4000000 }) only [go_sem, simprocAttr, ↓dnA, Tryz.f22, rows_length, encW, frW, wk2, wk1, wkL, wkB, hpW, List.mem_cons, Prod.mk.injEq, exists_eq_left, exists_eq_right, exists_eq]
    try rfl
  · simp (config := { maxSteps := 4000000 }) only [go_sem, simprocAttr, ↓dnA, Tryz.f22, rows_length, encW, frW, wk2, wk1, wkL, wkB, hpW, List.mem_cons, Prod.mk.injEq, exists_eq_left, exists_eq_right, exists_eq]
    try rfl
  · rintro i hi
    by_cases h : i < w.voters.length
    · have hw : IntKind.i64.wrap ((i : Int) + 1) = ((i + 1 : Nat) : Int) := wsucc h (by omega)
      simp (config := { maxSteps := 4000000 }) only [go_sem, simprocAttr, ↓dnA, Tryz.f22, rows_length, encW, nlt h, h, rows_get _ _ _ h, encV, nn0, hw]
      refine semL_draw tab_ok mixed_ rfl (ord := [(0, []), (1, []), (2, []), (3, []), (4, []), (5, []), (6, []), (7, []), (8, []), (9, []), (10, [])]) (by dsimp only; decide +kernel) ?_
      simp (config := { maxSteps := 4000000 }) only [go_sem, simprocAttr, ↓dnA, Tryz.f22, rows_length, encW, nlt h, h, rows_get _ _ _ h, encV, nn0, hw]
      simp only [eqCellsK, BEq.rfl, Bool.and_true, Bool.not_true, Bool.false_eq_true, false_implies, true_implies, true_and, forall_const]
      refine ⟨i + 1, [(2, 2), (3, 3)], by omega, by dsimp only; omega, Weak.of (by rfl) ?_ ?_ (by rfl)⟩
      · simp (config := { maxSteps := 4000000 }) only [go_sem, simprocAttr, ↓dnA, Tryz.f22, rows_length, encW, frW, wk2, wk1, wkL, wkB, hpW, List.mem_cons, Prod.mk.injEq, exists_eq_left, exists_eq_right, exists_eq]
        try rfl
      · simp (config := { maxSteps := 4000000 }) only [go_sem, simprocAttr, ↓dnA, Tryz.f22, rows_length, encW, frW, wk2, wk1, wkL, wkB, hpW, List.mem_cons, Prod.mk.injEq, exists_eq_left, exists_eq_right, exists_eq]
        try rfl
    · have hi' : i = w.voters.length := by omega
      subst hi'
      simp (config := { maxSteps := 4000000 }) only [go_sem, simprocAttr, ↓dnA, Tryz.f22, rows_length, encW, nlf h]

end Go.Proofs.YthcfafpjkbbaoaaGreat

/- Contracts: what is committed in a world: its actions, its store. -/
set_option linter.unusedSimpArgs false
set_option linter.unusedVariables false
set_option maxRecDepth 20000
set_option maxHeartbeats 4000000
namespace Go.Proofs.YthcfafpjkbbaoaaGreat
open Go Go.RowKit

end Go.Proofs.YthcfafpjkbbaoaaGreat

/- Contracts: the store that is committed in a world. -/
set_option linter.unusedSimpArgs false
set_option linter.unusedVariables false
set_option maxRecDepth 20000
set_option maxHeartbeats 4000000
namespace Go.Proofs.YthcfafpjkbbaoaaGreat
open Go Go.RowKit

end Go.Proofs.YthcfafpjkbbaoaaGreat

/- Blocks that are right over their stores; the store behind a way: plain. -/
set_option linter.unusedSimpArgs false
set_option linter.unusedVariables false
set_option maxRecDepth 20000
set_option maxHeartbeats 4000000
namespace Go.Proofs.YthcfafpjkbbaoaaGreat
open Go Go.RowKit

/-! The store behind a block. -/
/-! A tree with a further block. -/
/-! All actions on a way, one after the other. -/
end Go.Proofs.YthcfafpjkbbaoaaGreat

/- Votes and runs of votes: plain. -/
set_option linter.unusedSimpArgs false
set_option linter.unusedVariables false
set_option maxRecDepth 20000
set_option maxHeartbeats 4000000
namespace Go.Proofs.YthcfafpjkbbaoaaGreat
open Go Go.RowKit

theorem ScOk.take {sc : List Int} (h : ScOk sc) (k : Nat) : ScOk (sc.take k) := by
  refine ⟨by rw [List.length_take]; have := h.1; omega, List.all_eq_true.2 fun x hx => ?_⟩
  exact List.all_eq_true.1 h.2 x (List.mem_of_mem_take hx)
theorem ScOk.drop {sc : List Int} (h : ScOk sc) (k : Nat) : ScOk (sc.drop k) := by
  refine ⟨by rw [List.length_drop]; have := h.1; omega, List.all_eq_true.2 fun x hx => ?_⟩
  exact List.all_eq_true.1 h.2 x (List.mem_of_mem_drop hx)

end Go.Proofs.YthcfafpjkbbaoaaGreat

/- Contracts: the way to a block, an action's effect, a store with what an effect writes (the program's). -/
set_option linter.unusedSimpArgs false
set_option linter.unusedVariables false
set_option maxRecDepth 20000
set_option maxHeartbeats 4000000
namespace Go.Proofs.YthcfafpjkbbaoaaGreat
open Go Go.RowKit

end Go.Proofs.YthcfafpjkbbaoaaGreat

/- Contracts: the values ahead of a block; which blocks are right (the program's). -/
set_option linter.unusedSimpArgs false
set_option linter.unusedVariables false
set_option maxRecDepth 20000
set_option maxHeartbeats 4000000
namespace Go.Proofs.YthcfafpjkbbaoaaGreat
open Go Go.RowKit

end Go.Proofs.YthcfafpjkbbaoaaGreat

/- Heads: where they stand in the list of blocks; marks of a view: plain. -/
namespace Go.Proofs.YthcfafpjkbbaoaaGreat
open Go Go.RowKit

end Go.Proofs.YthcfafpjkbbaoaaGreat

/- The committed store: the serial run of what is committed: plain. -/
namespace Go.Proofs.YthcfafpjkbbaoaaGreat
open Go Go.RowKit

end Go.Proofs.YthcfafpjkbbaoaaGreat

/- Results of several parts that are owned, taken as read only. -/
namespace Go.Proofs.YthcfafpjkbbaoaaGreat
open Go Go.RowKit

end Go.Proofs.YthcfafpjkbbaoaaGreat

/- Drawn runs of votes. -/
set_option linter.unusedSimpArgs false
set_option linter.unusedVariables false
set_option maxRecDepth 20000
set_option maxHeartbeats 4000000
namespace Go.Proofs.YthcfafpjkbbaoaaGreat
open Go Go.RowKit

end Go.Proofs.YthcfafpjkbbaoaaGreat

/- Arguments of the laws, by their types. -/
set_option linter.unusedSimpArgs false
namespace Go.Proofs.YthcfafpjkbbaoaaGreat
open Go Go.ChangeShapes Go.WideShapes Go.ChangeAt Go.RowKit

theorem own_ : ownKnob Tryz.prog.godebug = none := by kernel_rfl
theorem laidOut_ : laidOutB Tryz.prog = true := by kernel_rfl

/-- The cells of one value read as the cells of a datum. -/
def Leqs (r c : List AV) : Prop := r.length = c.length ∧ ∀ (j : Nat) (_ : j < c.length), Leq (r.getD j .top) (c.getD j .top)
theorem Leqs.refl (c : List AV) : Leqs c c := ⟨rfl, fun _ _ => Leq.refl _⟩
theorem Leqs.agg {r c : List AV} (h : Leqs r c) : Leq (.agg r) (.agg c) := Leq.agg h.1 h.2

theorem Leqs.cons {a b : AV} {r c : List AV} (h : Leq a b) (h' : Leqs r c) : Leqs (a :: r) (b :: c) := by
  refine ⟨by simp [h'.1], fun j hj => ?_⟩
  cases j with
  | zero => exact h
  | succ j => exact h'.2 j (by simpa using hj)

theorem Leqs.one {r : List AV} {b : AV} (h : Leqs r [b]) : ∃ a, r = [a] ∧ Leq a b := by
  obtain ⟨h1, h2⟩ := h
  match r, h1 with
  | [a], _ => exact ⟨a, rfl, h2 0 (by simp)⟩

end Go.Proofs.YthcfafpjkbbaoaaGreat

/- Arguments of the laws, by their types: slices of entries, of actions. -/
set_option linter.unusedSimpArgs false
namespace Go.Proofs.YthcfafpjkbbaoaaGreat
open Go Go.RowKit

end Go.Proofs.YthcfafpjkbbaoaaGreat

/- Arguments of the laws, by their types: blocks. -/
set_option linter.unusedSimpArgs false
namespace Go.Proofs.YthcfafpjkbbaoaaGreat
open Go Go.RowKit

end Go.Proofs.YthcfafpjkbbaoaaGreat

/- Arguments of the laws, by their types: codes. -/
set_option linter.unusedSimpArgs false
namespace Go.Proofs.YthcfafpjkbbaoaaGreat
open Go Go.RowKit

/-- A slice of elements that read as data. -/
theorem ty_rowsC {α : Type} (e : α → List AV) {et : TypeId} {es : List (List AV)} (h : ∀ (j : Nat) (_ : j < es.length), Ty tab et (es.getD j [])) (hx : ∀ r, Ty tab et r → ∃ x, r.length = (e x).length ∧ ∀ (j : Nat) (_ : j < (e x).length), Leq (r.getD j .top) ((e x).getD j .top)) :
    ∃ xs : List α, es.length = xs.length ∧ ∀ nn, Leq (.sl nn es) (.sl nn (rows e xs)) := by
  have key : ∃ xs : List α, es.length = xs.length ∧ ∀ (i : Nat) (hi : i < xs.length), (es.getD i []).length = (e (xs[i]'hi)).length ∧ ∀ (j : Nat) (_ : j < (e (xs[i]'hi)).length), Leq ((es.getD i []).getD j .top) ((e (xs[i]'hi)).getD j .top) := by
    induction es with
    | nil => exact ⟨[], rfl, fun i hi => absurd hi (by simp)⟩
    | cons r rs ih =>
      obtain ⟨x, hx1, hx2⟩ := hx r (h 0 (by simp))
      obtain ⟨xs, h1, h2⟩ := ih (fun j hj => h (j + 1) (by simpa using hj))
      refine ⟨x :: xs, by simp [h1], fun i hi => ?_⟩
      cases i with
      | zero => exact ⟨hx1, hx2⟩
      | succ i => exact h2 i (by simpa using hi)
  obtain ⟨xs, h1, h2⟩ := key
  refine ⟨xs, h1, fun nn => Leq.sl (by rw [rows_length, h1]) (fun i hi => ?_) (fun i j hi hj => ?_)⟩
  · rw [rows_length] at hi
    rw [rows_get _ _ _ hi]
    exact (h2 i hi).1
  · rw [rows_length] at hi
    rw [rows_get _ _ _ hi] at hj ⊢
    exact (h2 i hi).2 j hj

theorem ty_code {a : AV} (h : TyArg tab 22 a) : ∃ nb bs, Leq a (.sl nb (rows encB bs)) ∧ ∀ b, b ∈ bs → 0 ≤ b ∧ b ≤ 255 := by
  obtain ⟨nn, es, e1, _, _, he⟩ := (h.one_inv tabAt_22 rfl).slice_inv tabAt_22 rfl
  have hx : ∀ r, Ty tab 5 r → ∃ x : { n : Int // 0 ≤ n ∧ n ≤ 255 }, r.length = (encB x.1).length ∧ ∀ (j : Nat) (_ : j < (encB x.1).length), Leq (r.getD j .top) ((encB x.1).getD j .top) := by
    intro r hr
    obtain ⟨n, e, hn⟩ := hr.int_inv tabAt_5 rfl
    have hn' : 0 ≤ n ∧ n ≤ 255 := hn
    exact ⟨⟨n, hn'⟩, by rw [e]; rfl, fun j _ => by rw [e]; exact Leq.refl _⟩
  obtain ⟨xs, h1, h2⟩ := ty_rowsC (fun x : { n : Int // 0 ≤ n ∧ n ≤ 255 } => encB x.1) he hx
  have ea : a = .sl (some nn) es := by simpa using e1
  refine ⟨some nn, xs.map (·.1), ?_, fun b hb => ?_⟩
  · rw [ea]
    have := h2 (some nn)
    have e3 : rows (fun x : { n : Int // 0 ≤ n ∧ n ≤ 255 } => encB x.1) xs = rows encB (xs.map (·.1)) := by simp [rows]
    rwa [e3] at this
  · obtain ⟨x, _, rfl⟩ := List.mem_map.1 hb
    exact x.2

/-- A law of a code. -/
theorem law_code {k : FuncId} (h : ∀ nb bs, (∀ b, b ∈ bs → 0 ≤ b ∧ b ≤ 255) → Det Tryz.prog k [.sl nb (rows encB bs)] (.bool true)) {cs : List AV} (hc : TyArgs tab [22] cs) : Det Tryz.prog k cs (.bool true) := by
  match cs, hc with
  | [a], hc =>
    obtain ⟨nb, bs, h1, h2⟩ := ty_code hc.1
    refine FSpec.args (h nb bs h2) rfl fun i hi => ?_
    have : i = 0 := by simp at hi; exact hi
    subst this
    exact h1

end Go.Proofs.YthcfafpjkbbaoaaGreat

