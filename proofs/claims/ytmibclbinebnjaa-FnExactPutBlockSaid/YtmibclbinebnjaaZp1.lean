/- FnExactPutBlock (part 1): W89, C89, Ty1, Ty4, Ty5 -/
import Derived.Test.YtmibclbinebnjaaRows
import Derived.ProofKit
import Derived.Test.YtmibclbinebnjaaR2

/- Contracts: FnExactPutBlock. -/
set_option linter.unusedSimpArgs false
set_option linter.unusedVariables false
set_option maxRecDepth 20000
set_option maxHeartbeats 4000000
namespace Go.Proofs.Ytmibclbinebnjaa
open Go Go.RowKit

theorem c_laws_FnExactPutBlock (n00 n01 n02 n10 : Option Bool) (t : Tree) (b : Block) (ht : TreeLen t) (hb : b.list.length ≤ 9223372036854775807) :
    Det Try.prog 8 [.agg (encT n00 n01 n02 t), .agg (encBk n10 b)] (.bool true) := by
  refine fspec_det tab_ok Try.call8 Try.func8 rfl 119 Try.ntmps8 (of_decide_eq_true rfl) fun B => codeK_sound tab_ok _ _ _ ?_
  have hle0 : (0 : Int) ≤ 1048576 ∧ (1048576 : Int) ≤ 1048576 := by omega
  obtain ⟨r0, hr0, hr0b, hT0, hE0⟩ := c_laws_szBlockTree n00 n01 n02 t 1048576 ht hle0
  simp (config := { maxSteps := 4000000 }) only [go_sem, simprocAttr, ↓dnA, Try.f8, encBk, encBkO, encBkF, encT, encTO, encTF, List.nodup_cons, rows_length, markS_length]
  refine CallTo.det hr0 fun _ => ?_
  cases d0 : decide (r0 < 0) with
  | true => simp (config := { maxSteps := 4000000 }) only [go_sem, simprocAttr, ↓dnA, Try.f8, encBk, encBkO, encBkF, encT, encTO, encTF, List.nodup_cons, rows_length, markS_length, d0]
  | false =>
  have d0' := of_decide_eq_false d0
  have hst := hT0 (by omega)
  have hle1 : 0 ≤ r0 ∧ r0 ≤ 1048576 := by omega
  have hmt := stT_small hst
  have hr1b := szI_bd (left := r0) (n := b.list.length) hle1.2
  simp (config := { maxSteps := 4000000 }) only [go_sem, simprocAttr, ↓dnA, Try.f8, encBk, encBkO, encBkF, encT, encTO, encTF, List.nodup_cons, rows_length, markS_length, d0]
  refine CallTo.det (c_laws_szBlock n10 b _ hb hle1) fun _ => ?_
  cases d1 : decide (szI r0 b.list.length < 0) with
  | true => simp (config := { maxSteps := 4000000 }) only [go_sem, simprocAttr, ↓dnA, Try.f8, encBk, encBkO, encBkF, encT, encTO, encTF, List.nodup_cons, rows_length, markS_length, d0, d1]
  | false =>
  have d1' := of_decide_eq_false d1
  have hle2 : 0 ≤ szI r0 b.list.length ∧ szI r0 b.list.length ≤ 1048576 := by omega
  have qb : b.list.length ≤ 1048576 := by have := hr1b.2 (by omega); omega
  have eb := stepS_const stA 4 (fun _ => rfl) b.list
  have hgt : tsz (putBlock t b).1 ≤ 4194304 := by have := putBlock_tsz t b; have := hst.sum; omega
  have hS := c_spec_PutBlock (some true) (some true) (some true) (some true) t b hst (by omega)
  have hN := c_impl_PutBlock (some true) (some true) (some true) (some true) t b hst (by omega)
  generalize putBlock t b = g0 at hS hN hgt
  obtain ⟨g0, g1⟩ := g0
  dsimp only at hS hN hgt
  have hgz := tsz_sz hgt (by omega)
  have hgm := stT_le g0
  have ml0 : (mkT g0 1).base.length = g0.base.length := markS_length ..
  have ml1 : (mkT g0 1).blocks.length = g0.blocks.length := markS_length ..
  have ml2 : (mkT g0 1).before.length = g0.before.length := markS_length ..
  have eg : decide (g0 = g0) = true := by simp
  have dm : decide (1 + (stT g0 : Int) < 0) = false := by simp; omega
  have eo : (g1 != g1) = false := by simp
  have dk : decide (1 + (stT t : Int) + (stepS stA b.list : Int) < 0) = false := by simp; omega
  have ett : decide (t = t) = true := by simp
  have ebb : decide (b = b) = true := by simp
  simp (config := { maxSteps := 4000000 }) only [go_sem, simprocAttr, ↓dnA, Try.f8, encBk, encBkO, encBkF, encT, encTO, encTF, List.nodup_cons, rows_length, markS_length, d0, d1, ml0, ml1, ml2, eg, dm, eo, dk, ett, ebb]
  refine semL_draw tab_ok mixed_ rfl (ord := [(0, []), (2, []), (1, [2]), (3, []), (4, []), (5, []), (6, []), (7, []), (8, [0, 2, 5, 6, 7]), (9, [7]), (10, [])]) (by dsimp only; decide +kernel) ?_
  simp (config := { maxSteps := 4000000 }) only [go_sem, simprocAttr, ↓dnA, Try.f8, encBk, encBkO, encBkF, encT, encTO, encTF, List.nodup_cons, rows_length, markS_length, d0, d1, ml0, ml1, ml2, eg, dm, eo, dk, ett, ebb]
  refine CallTo.det (c_laws_toBlockTree n00 n01 n02 t hst) fun _ => ?_
  simp (config := { maxSteps := 4000000 }) only [go_sem, simprocAttr, ↓dnA, Try.f8, encBk, encBkO, encBkF, encT, encTO, encTF, List.nodup_cons, rows_length, markS_length, d0, d1, ml0, ml1, ml2, eg, dm, eo, dk, ett, ebb]
  refine CallTo.det (c_laws_toBlock n10 b (by omega)) fun _ => ?_
  simp (config := { maxSteps := 4000000 }) only [go_sem, simprocAttr, ↓dnA, Try.f8, encBk, encBkO, encBkF, encT, encTO, encTF, List.nodup_cons, rows_length, markS_length, d0, d1, ml0, ml1, ml2, eg, dm, eo, dk, ett, ebb]
  refine CallTo.det hS fun _ => ?_
  simp (config := { maxSteps := 4000000 }) only [go_sem, simprocAttr, ↓dnA, Try.f8, encBk, encBkO, encBkF, encT, encTO, encTF, List.nodup_cons, rows_length, markS_length, d0, d1, ml0, ml1, ml2, eg, dm, eo, dk, ett, ebb]
  refine CallTo.det (c_laws_toBlockTree n00 n01 n02 t hst) fun _ => ?_
  simp (config := { maxSteps := 4000000 }) only [go_sem, simprocAttr, ↓dnA, Try.f8, encBk, encBkO, encBkF, encT, encTO, encTF, List.nodup_cons, rows_length, markS_length, d0, d1, ml0, ml1, ml2, eg, dm, eo, dk, ett, ebb]
  refine CallTo.det (c_laws_toBlock n10 b (by omega)) fun _ => ?_
  simp (config := { maxSteps := 4000000 }) only [go_sem, simprocAttr, ↓dnA, Try.f8, encBk, encBkO, encBkF, encT, encTO, encTF, List.nodup_cons, rows_length, markS_length, d0, d1, ml0, ml1, ml2, eg, dm, eo, dk, ett, ebb]
  refine CallTo.det hN fun _ => ?_
  simp (config := { maxSteps := 4000000 }) only [go_sem, simprocAttr, ↓dnA, Try.f8, encBk, encBkO, encBkF, encT, encTO, encTF, List.nodup_cons, rows_length, markS_length, d0, d1, ml0, ml1, ml2, eg, dm, eo, dk, ett, ebb]
  refine CallTo.det (c_laws_eqBlockTree _ _ _ _ _ _ g0 g0 hgz hgz) fun _ => ?_
  simp (config := { maxSteps := 4000000 }) only [go_sem, simprocAttr, ↓dnA, Try.f8, encBk, encBkO, encBkF, encT, encTO, encTF, List.nodup_cons, rows_length, markS_length, d0, d1, ml0, ml1, ml2, eg, dm, eo, dk, ett, ebb]
  refine semL_draw tab_ok mixed_ rfl (ord := [(0, []), (1, []), (2, [0]), (3, []), (4, [])]) (by dsimp only; decide +kernel) ?_
  simp (config := { maxSteps := 4000000 }) only [go_sem, simprocAttr, ↓dnA, Try.f8, encBk, encBkO, encBkF, encT, encTO, encTF, List.nodup_cons, rows_length, markS_length, d0, d1, ml0, ml1, ml2, eg, dm, eo, dk, ett, ebb]
  refine CallTo.det (c_laws_toBlockTree n00 n01 n02 t hst) fun _ => ?_
  simp (config := { maxSteps := 4000000 }) only [go_sem, simprocAttr, ↓dnA, Try.f8, encBk, encBkO, encBkF, encT, encTO, encTF, List.nodup_cons, rows_length, markS_length, d0, d1, ml0, ml1, ml2, eg, dm, eo, dk, ett, ebb]
  refine CallTo.det (c_laws_eqBlockTree _ _ _ _ _ _ t t hst.sz hst.sz) fun _ => ?_
  simp (config := { maxSteps := 4000000 }) only [go_sem, simprocAttr, ↓dnA, Try.f8, encBk, encBkO, encBkF, encT, encTO, encTF, List.nodup_cons, rows_length, markS_length, d0, d1, ml0, ml1, ml2, eg, dm, eo, dk, ett, ebb]
  refine semL_draw tab_ok mixed_ rfl (ord := [(0, []), (1, []), (2, [0]), (3, []), (4, [])]) (by dsimp only; decide +kernel) ?_
  simp (config := { maxSteps := 4000000 }) only [go_sem, simprocAttr, ↓dnA, Try.f8, encBk, encBkO, encBkF, encT, encTO, encTF, List.nodup_cons, rows_length, markS_length, d0, d1, ml0, ml1, ml2, eg, dm, eo, dk, ett, ebb]
  refine CallTo.det (c_laws_toBlock n10 b (by omega)) fun _ => ?_
  simp (config := { maxSteps := 4000000 }) only [go_sem, simprocAttr, ↓dnA, Try.f8, encBk, encBkO, encBkF, encT, encTO, encTF, List.nodup_cons, rows_length, markS_length, d0, d1, ml0, ml1, ml2, eg, dm, eo, dk, ett, ebb]
  refine CallTo.det (c_laws_eqBlock _ _ b b (by omega) (by omega)) fun _ => ?_
  simp (config := { maxSteps := 4000000 }) only [go_sem, simprocAttr, ↓dnA, Try.f8, encBk, encBkO, encBkF, encT, encTO, encTF, List.nodup_cons, rows_length, markS_length, d0, d1, ml0, ml1, ml2, eg, dm, eo, dk, ett, ebb]
  refine CallMTo.of (c_laws_markBlockTree true true true t _ hst.sz ⟨by omega, by omega⟩) ?_
  rintro r ls' ⟨rfl, rfl⟩
  simp (config := { maxSteps := 4000000 }) only [go_sem, simprocAttr, ↓dnA, Try.f8, encBk, encBkO, encBkF, encT, encTO, encTF, List.nodup_cons, rows_length, markS_length, d0, d1, ml0, ml1, ml2, eg, dm, eo, dk, ett, ebb]
  refine CallMTo.of (c_laws_markBlock true b _ (by omega) ⟨by omega, by omega⟩) ?_
  rintro r ls' ⟨rfl, rfl⟩
  simp (config := { maxSteps := 4000000 }) only [go_sem, simprocAttr, ↓dnA, Try.f8, encBk, encBkO, encBkF, encT, encTO, encTF, List.nodup_cons, rows_length, markS_length, d0, d1, ml0, ml1, ml2, eg, dm, eo, dk, ett, ebb]
  refine CallTo.det (c_laws_eqBlockTree _ _ _ _ _ _ g0 g0 hgz hgz) fun _ => ?_
  simp (config := { maxSteps := 4000000 }) only [go_sem, simprocAttr, ↓dnA, Try.f8, encBk, encBkO, encBkF, encT, encTO, encTF, List.nodup_cons, rows_length, markS_length, d0, d1, ml0, ml1, ml2, eg, dm, eo, dk, ett, ebb]
  refine CallMTo.of (c_laws_markBlockTree false false false g0 _ hgz ⟨by omega, by omega⟩) ?_
  rintro r ls' ⟨rfl, rfl⟩
  simp (config := { maxSteps := 4000000 }) only [go_sem, simprocAttr, ↓dnA, Try.f8, encBk, encBkO, encBkF, encT, encTO, encTF, List.nodup_cons, rows_length, markS_length, d0, d1, ml0, ml1, ml2, eg, dm, eo, dk, ett, ebb]
  refine CallTo.det (c_laws_heldBlockTree _ _ _ g0 1 hgz ⟨by omega, by omega⟩) fun _ => ?_
  simp (config := { maxSteps := 4000000 }) only [go_sem, simprocAttr, ↓dnA, Try.f8, encBk, encBkO, encBkF, encT, encTO, encTF, List.nodup_cons, rows_length, markS_length, d0, d1, ml0, ml1, ml2, eg, dm, eo, dk, ett, ebb]
  refine semL_draw tab_ok mixed_ rfl (ord := [(0, []), (2, []), (1, [2]), (3, []), (4, []), (5, []), (6, []), (7, []), (8, [0, 2, 5, 6, 7]), (9, [7]), (10, [])]) (by dsimp only; decide +kernel) ?_
  simp (config := { maxSteps := 4000000 }) only [go_sem, simprocAttr, ↓dnA, Try.f8, encBk, encBkO, encBkF, encT, encTO, encTF, List.nodup_cons, rows_length, markS_length, d0, d1, ml0, ml1, ml2, eg, dm, eo, dk, ett, ebb]
  refine CallTo.det (c_laws_toBlockTree n00 n01 n02 t hst) fun _ => ?_
  simp (config := { maxSteps := 4000000 }) only [go_sem, simprocAttr, ↓dnA, Try.f8, encBk, encBkO, encBkF, encT, encTO, encTF, List.nodup_cons, rows_length, markS_length, d0, d1, ml0, ml1, ml2, eg, dm, eo, dk, ett, ebb]
  refine CallTo.det (c_laws_toBlock n10 b (by omega)) fun _ => ?_
  simp (config := { maxSteps := 4000000 }) only [go_sem, simprocAttr, ↓dnA, Try.f8, encBk, encBkO, encBkF, encT, encTO, encTF, List.nodup_cons, rows_length, markS_length, d0, d1, ml0, ml1, ml2, eg, dm, eo, dk, ett, ebb]
  refine CallTo.det hN fun _ => ?_
  simp (config := { maxSteps := 4000000 }) only [go_sem, simprocAttr, ↓dnA, Try.f8, encBk, encBkO, encBkF, encT, encTO, encTF, List.nodup_cons, rows_length, markS_length, d0, d1, ml0, ml1, ml2, eg, dm, eo, dk, ett, ebb]
  refine CallTo.det (c_laws_eqBlockTree _ _ _ _ _ _ g0 g0 hgz hgz) fun _ => ?_
  simp (config := { maxSteps := 4000000 }) only [go_sem, simprocAttr, ↓dnA, Try.f8, encBk, encBkO, encBkF, encT, encTO, encTF, List.nodup_cons, rows_length, markS_length, d0, d1, ml0, ml1, ml2, eg, dm, eo, dk, ett, ebb]
  refine CallTo.det (c_laws_heldBlockTree _ _ _ g0 1 hgz ⟨by omega, by omega⟩) fun _ => ?_
  simp (config := { maxSteps := 4000000 }) only [go_sem, simprocAttr, ↓dnA, Try.f8, encBk, encBkO, encBkF, encT, encTO, encTF, List.nodup_cons, rows_length, markS_length, d0, d1, ml0, ml1, ml2, eg, dm, eo, dk, ett, ebb]

end Go.Proofs.Ytmibclbinebnjaa

/- The closed facts of the row of FnExactPutBlock. -/
namespace Go.Proofs.Ytmibclbinebnjaa
open Go Go.ChangeShapes Go.WideShapes Go.ChangeAt Go.RowKit

theorem fnExactPutBlock_named : Try.pinned.checked.prog.funcNamed Rows.fnExactPutBlockRow.func = some 8 := by kernel_rfl
theorem fnExactPutBlock_inst : Try.f8.isInstance Try.pinned.checked.prog Rows.fnExactPutBlockRow.origin Rows.fnExactPutBlockRow.targs := of_decide_eq_true (by kernel_rfl)
theorem fnExactPutBlock_wrap : Try.f8.isWrapper Try.pinned.checked.prog Rows.fnExactPutBlockRow.wrapper Rows.fnExactPutBlockRow.mainSum := by
  unfold Func.isWrapper; first | (rw [if_pos (by decide +kernel)]; kernel_rfl) | (rw [if_neg (by decide +kernel)]; exact ⟨rfl, rfl⟩)
set_option maxRecDepth 100000 in
theorem fnExactPutBlock_closed : joinedFacts Try.pinned.checked.prog 8 Try.f8 Rows.fnExactPutBlockSpec Rows.fnExactPutBlockRow = true := by kernel_rfl

end Go.Proofs.Ytmibclbinebnjaa

/- Arguments of the laws, by their types. -/
set_option linter.unusedSimpArgs false
namespace Go.Proofs.Ytmibclbinebnjaa
open Go Go.ChangeShapes Go.WideShapes Go.ChangeAt Go.RowKit

theorem own_ : ownKnob Try.prog.godebug = none := by kernel_rfl
theorem laidOut_ : laidOutB Try.prog = true := by kernel_rfl

theorem ty_int {cs : List AV} (h : Ty tab 3 cs) : ∃ n, cs = [.int .i64 n] ∧ IntKind.i64.has n := h.int_inv tabAt_3 rfl
theorem ty_bool {cs : List AV} (h : Ty tab 4 cs) : ∃ b, cs = [.bool b] := h.bool_inv tabAt_4 rfl
theorem ty_intA {a : AV} (h : TyArg tab 3 a) : ∃ n, a = .int .i64 n := by
  obtain ⟨n, e, _⟩ := ty_int (h.one_inv tabAt_3 rfl)
  exact ⟨n, by simpa using e⟩

/-- The cells of one value read as the cells of a datum. -/
def Leqs (r c : List AV) : Prop := r.length = c.length ∧ ∀ (j : Nat) (_ : j < c.length), Leq (r.getD j .top) (c.getD j .top)
theorem Leqs.refl (c : List AV) : Leqs c c := ⟨rfl, fun _ _ => Leq.refl _⟩
theorem Leqs.of_eq {r c : List AV} (h : r = c) : Leqs r c := h ▸ Leqs.refl _
theorem Leqs.agg {r c : List AV} (h : Leqs r c) : Leq (.agg r) (.agg c) := Leq.agg h.1 h.2

/-- A slice of elements that read as data. -/
theorem ty_rows {α : Type} (e : α → List AV) (Q : α → Prop) {et : TypeId} {es : List (List AV)} (h : ∀ (j : Nat) (_ : j < es.length), Ty tab et (es.getD j [])) (hx : ∀ r, Ty tab et r → ∃ x, Q x ∧ Leqs r (e x)) :
    ∃ xs : List α, es.length = xs.length ∧ (∀ x, x ∈ xs → Q x) ∧ ∀ nn, Leq (.sl nn es) (.sl nn (rows e xs)) := by
  have key : ∃ xs : List α, es.length = xs.length ∧ (∀ x, x ∈ xs → Q x) ∧ ∀ (i : Nat) (hi : i < xs.length), Leqs (es.getD i []) (e (xs[i]'hi)) := by
    induction es with
    | nil => exact ⟨[], rfl, fun x hx => (by cases hx), fun i hi => absurd hi (by simp)⟩
    | cons r rs ih =>
      obtain ⟨x, hq, hx1⟩ := hx r (h 0 (by simp))
      obtain ⟨xs, h1, h2, h3⟩ := ih (fun j hj => h (j + 1) (by simpa using hj))
      refine ⟨x :: xs, by simp [h1], fun y hy => ?_, fun i hi => ?_⟩
      · rcases List.mem_cons.1 hy with rfl | hy
        · exact hq
        · exact h2 y hy
      · cases i with
        | zero => exact hx1
        | succ i => exact h3 i (by simpa using hi)
  obtain ⟨xs, h1, h2, h3⟩ := key
  refine ⟨xs, h1, h2, fun nn => Leq.sl (by rw [rows_length, h1]) (fun i hi => ?_) (fun i j hi hj => ?_)⟩
  · rw [rows_length] at hi
    rw [rows_get _ _ _ hi]
    exact (h3 i hi).1
  · rw [rows_length] at hi
    rw [rows_get _ _ _ hi] at hj ⊢
    exact (h3 i hi).2 j hj

/-- A slice, as one cell. -/
theorem ty_slice {α : Type} (e : α → List AV) (Q : α → Prop) {t et : TypeId} {ti : TI} {cs : List AV} (h : Ty tab t cs) (ht : tab t = some ti) (hk : ti.k = .slice et) (hx : ∀ r, Ty tab et r → ∃ x, Q x ∧ Leqs r (e x)) :
    ∃ (n : Option Bool) (xs : List α), xs.length ≤ 9223372036854775807 ∧ (∀ x, x ∈ xs → Q x) ∧ Leqs cs [.sl n (rows e xs)] ∧ Leqs cs [.sl none (rows e xs)] := by
  obtain ⟨nn, es, rfl, _, hl, he⟩ := h.slice_inv ht hk
  obtain ⟨xs, h1, h2, h3⟩ := ty_rows e Q he hx
  refine ⟨some nn, xs, by omega, h2, ⟨rfl, fun j hj => ?_⟩, ⟨rfl, fun j hj => ?_⟩⟩
  · have : j = 0 := by simpa using hj
    subst this; exact h3 _
  · have : j = 0 := by simpa using hj
    subst this; exact (h3 (some nn)).trans Leq.slN

theorem ty_bools {a : AV} (h : TyArg tab 45 a) : ∃ (n : Option Bool) (bs : List Bool), Leq a (.sl n (boolRows bs)) ∧ bs.length ≤ 9223372036854775807 := by
  obtain ⟨n, xs, h1, _, h2, _⟩ := ty_slice (fun b : Bool => [AV.bool b]) (fun _ => True) (h.one_inv tabAt_45 rfl) tabAt_45 rfl fun r hr => by
    obtain ⟨b, rfl⟩ := ty_bool hr
    exact ⟨b, trivial, Leqs.refl _⟩
  exact ⟨n, xs, h2.2 0 (by simp), h1⟩

theorem ty_entry {cs : List AV} (h : Ty tab 168 cs) : ∃ e : Entry, cs = encE e := by
  obtain ⟨ps, rfl, hl, hp⟩ := h.struct_inv tabAt_168 rfl
  match ps, hl with
  | [p, q], _ =>
    obtain ⟨x, hx, _⟩ := ty_int (hp 0 (by decide))
    obtain ⟨y, hy, _⟩ := ty_int (hp 1 (by decide))
    have hx : p = _ := hx
    have hy : q = _ := hy
    subst hx; subst hy
    exact ⟨⟨x, y⟩, rfl⟩

theorem ty_action {cs : List AV} (h : Ty tab 170 cs) : ∃ e : Action, cs = encA e := by
  obtain ⟨ps, rfl, hl, hp⟩ := h.struct_inv tabAt_170 rfl
  match ps, hl with
  | [p, q, r, s], _ =>
    obtain ⟨x, hx, _⟩ := ty_int (hp 0 (by decide))
    obtain ⟨y, hy, _⟩ := ty_int (hp 1 (by decide))
    obtain ⟨z, hz, _⟩ := ty_int (hp 2 (by decide))
    obtain ⟨w, hw, _⟩ := ty_int (hp 3 (by decide))
    have hx : p = _ := hx
    have hy : q = _ := hy
    have hz : r = _ := hz
    have hw : s = _ := hw
    subst hx; subst hy; subst hz; subst hw
    exact ⟨⟨x, y, z, w⟩, rfl⟩

theorem Leqs.cons {a b : AV} {r c : List AV} (h : Leq a b) (h' : Leqs r c) : Leqs (a :: r) (b :: c) := by
  refine ⟨by simp [h'.1], fun j hj => ?_⟩
  cases j with
  | zero => exact h
  | succ j => exact h'.2 j (by simpa using hj)

theorem Leqs.one {r : List AV} {b : AV} (h : Leqs r [b]) : ∃ a, r = [a] ∧ Leq a b := by
  obtain ⟨h1, h2⟩ := h
  match r, h1 with
  | [a], _ => exact ⟨a, rfl, h2 0 (by simp)⟩

theorem ty_block {cs : List AV} (h : Ty tab 74 cs) : ∃ b : Block, b.list.length ≤ 9223372036854775807 ∧ Leqs cs (encB1 b) := by
  obtain ⟨ps, rfl, hl, hp⟩ := h.struct_inv tabAt_74 rfl
  match ps, hl with
  | [p1, p2, p3, p4, p5, p6], _ =>
    obtain ⟨x1, h1, _⟩ := ty_int (hp 0 (by decide))
    obtain ⟨x2, h2, _⟩ := ty_int (hp 1 (by decide))
    obtain ⟨x3, h3, _⟩ := ty_int (hp 2 (by decide))
    obtain ⟨_, x4, hl4, _, _, h4⟩ := ty_slice encA (fun _ => True) (hp 3 (by decide)) tabAt_72 rfl fun r hr => by
      obtain ⟨a, rfl⟩ := ty_action hr
      exact ⟨a, trivial, Leqs.refl _⟩
    obtain ⟨x5, h5, _⟩ := ty_int (hp 4 (by decide))
    obtain ⟨x6, h6, _⟩ := ty_int (hp 5 (by decide))
    have h1 : p1 = _ := h1
    have h2 : p2 = _ := h2
    have h3 : p3 = _ := h3
    have h5 : p5 = _ := h5
    have h6 : p6 = _ := h6
    obtain ⟨a4, e4, l4⟩ := h4.one
    have e4 : p4 = _ := e4
    subst h1; subst h2; subst h3; subst h5; subst h6; subst e4
    exact ⟨⟨x1, x2, x3, x4, x5, x6⟩, hl4, .cons (.refl _) (.cons (.refl _) (.cons (.refl _) (.cons l4 (.cons (.refl _) (.cons (.refl _) (.refl [])))))) ⟩

theorem ty_treeC {cs : List AV} (h : Ty tab 71 cs) : ∃ (n1 n2 n3 : Option Bool) (t : Tree), Leqs cs (encT n1 n2 n3 t) ∧ TreeLen t := by
  obtain ⟨ps, rfl, hl, hp⟩ := h.struct_inv tabAt_71 rfl
  match ps, hl with
  | [p1, p2, p3], _ =>
    obtain ⟨n1, x1, l1, _, h1, _⟩ := ty_slice encE (fun _ => True) (hp 0 (by decide)) tabAt_68 rfl fun r hr => by
      obtain ⟨a, rfl⟩ := ty_entry hr
      exact ⟨a, trivial, Leqs.refl _⟩
    obtain ⟨n2, x2, l2, q2, h2, _⟩ := ty_slice encB1 (fun b => b.list.length ≤ 9223372036854775807) (hp 1 (by decide)) tabAt_69 rfl fun r hr => ty_block hr
    obtain ⟨n3, x3, l3, _, h3, _⟩ := ty_slice encI (fun _ => True) (hp 2 (by decide)) tabAt_35 rfl fun r hr => by
      obtain ⟨a, rfl, _⟩ := ty_int hr
      exact ⟨a, trivial, Leqs.refl _⟩
    obtain ⟨a1, e1, g1⟩ := h1.one
    obtain ⟨a2, e2, g2⟩ := h2.one
    obtain ⟨a3, e3, g3⟩ := h3.one
    have e1 : p1 = _ := e1
    have e2 : p2 = _ := e2
    have e3 : p3 = _ := e3
    subst e1; subst e2; subst e3
    exact ⟨n1, n2, n3, ⟨x1, x2, x3⟩, .cons g1 (.cons g2 (.cons g3 (.refl []))), ⟨l1, l2, l3, q2⟩⟩

theorem ty_tree {a : AV} (h : TyArg tab 71 a) : ∃ (n1 n2 n3 : Option Bool) (t : Tree), Leq a (.agg (encT n1 n2 n3 t)) ∧ TreeLen t := by
  obtain ⟨cs, rfl, h2⟩ := h.agg_inv tabAt_71 rfl
  obtain ⟨n1, n2, n3, t, h3, h4⟩ := ty_treeC h2
  exact ⟨n1, n2, n3, t, h3.agg, h4⟩

end Go.Proofs.Ytmibclbinebnjaa

/- Arguments of the laws, by their types: slices of entries, of actions. -/
set_option linter.unusedSimpArgs false
namespace Go.Proofs.Ytmibclbinebnjaa
open Go Go.RowKit

theorem ty_entries {a : AV} (h : TyArg tab 68 a) : ∃ (n : Option Bool) (xs : List Entry), Leq a (.sl n (rows encE xs)) ∧ xs.length ≤ 9223372036854775807 := by
  obtain ⟨n, xs, h1, _, h2, _⟩ := ty_slice encE (fun _ => True) (h.one_inv tabAt_68 rfl) tabAt_68 rfl fun r hr => by
    obtain ⟨b, rfl⟩ := ty_entry hr
    exact ⟨b, trivial, Leqs.refl _⟩
  exact ⟨n, xs, h2.2 0 (by simp), h1⟩

theorem ty_actions {a : AV} (h : TyArg tab 72 a) : ∃ (n : Option Bool) (xs : List Action), Leq a (.sl n (rows encA xs)) ∧ xs.length ≤ 9223372036854775807 := by
  obtain ⟨n, xs, h1, _, h2, _⟩ := ty_slice encA (fun _ => True) (h.one_inv tabAt_72 rfl) tabAt_72 rfl fun r hr => by
    obtain ⟨b, rfl⟩ := ty_action hr
    exact ⟨b, trivial, Leqs.refl _⟩
  exact ⟨n, xs, h2.2 0 (by simp), h1⟩

end Go.Proofs.Ytmibclbinebnjaa

/- Arguments of the laws, by their types: blocks. -/
set_option linter.unusedSimpArgs false
namespace Go.Proofs.Ytmibclbinebnjaa
open Go Go.RowKit

theorem ty_blockA {a : AV} (h : TyArg tab 74 a) : ∃ b : Block, Leq a (.agg (encBk none b)) ∧ b.list.length ≤ 9223372036854775807 := by
  obtain ⟨cs, rfl, h2⟩ := h.agg_inv tabAt_74 rfl
  obtain ⟨b, h3, h4⟩ := ty_block h2
  exact ⟨b, h4.agg, h3⟩

end Go.Proofs.Ytmibclbinebnjaa

