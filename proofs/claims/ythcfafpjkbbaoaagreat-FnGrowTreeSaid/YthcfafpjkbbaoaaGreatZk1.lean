/- FnGrowTree (part 1): W145, C26 -/
import Derived.Test.YthcfafpjkbbaoaaGreatRows
import Derived.ProofKit
import Derived.Test.YthcfafpjkbbaoaaGreatK7

set_option linter.unusedSimpArgs false
set_option linter.unusedVariables false

/- FnGrowTree. -/
set_option linter.unusedSimpArgs false
set_option linter.unusedVariables false
set_option maxRecDepth 20000
set_option maxHeartbeats 4000000
namespace Go.Proofs.YthcfafpjkbbaoaaGreat
open Go Go.RowKit

def AtQ (nb : Option Bool) (bs : List Int) (p : Int) (r : AV) (b : List AV) : Prop := ∃ (t : Tree) (n q : Int), r = .tup [.agg (encT none none none t), .int .i64 n] ∧ b = rd nb bs q ∧ p ≤ q ∧ q ≤ p + 6000 ∧ tsz t ≤ 300

theorem c_spec_l20At (nb : Option Bool) (bs : List Int) (p n : Int) (h : RdOk bs p) (hp : p ≤ 999970000) (hn : 0 ≤ n ∧ n ≤ 1000000) : FSpec Tryz.prog 84 [.loc 0 0, .int .i64 n] true (rd nb bs p) (AtQ nb bs p) := by
  refine fspec_rel tab_ok Tryz.call84 Tryz.func84 rfl 26 Tryz.ntmps84 (of_decide_eq_true rfl) fun B => codeK_sound tab_ok _ _ _ ?_
  unfold rd
  simp (config := { maxSteps := 4000000 }) only [go_sem, simprocAttr, ↓dnA, Tryz.f84, rows_length]
  refine CallTo.of (c_spec_l20TreeP nb bs p n h (by omega) hn) ?_
  rintro r b ⟨t, q, rfl, rfl, hq1, hq2, ht, hl1, hl2⟩
  simp (config := { maxSteps := 4000000 }) only [go_sem, simprocAttr, ↓dnA, Tryz.f84, rows_length, rd, encT]
  refine semL_draw tab_ok mixed_ rfl (ord := [(0, []), (1, []), (2, []), (3, []), (4, []), (6, []), (11, []), (5, [0, 6, 11]), (7, [0, 11]), (8, []), (9, []), (10, []), (12, [0, 8, 9, 10]), (13, []), (14, []), (15, []), (16, [8, 9, 10, 13, 14, 15]), (17, [])]) (by dsimp only; decide +kernel) ?_
  simp (config := { maxSteps := 4000000 }) only [go_sem, simprocAttr, ↓dnA, Tryz.f84, rows_length, rd, encT]
  refine CallTo.of (c_spec_pick nb bs q (t.blocks.length : Int) (h.step (q := q) (by omega) (by omega))) ?_
  rintro r b ⟨y1, rfl, rfl, hy1⟩
  simp (config := { maxSteps := 4000000 }) only [go_sem, simprocAttr, ↓dnA, Tryz.f84, rows_length, rd, encT]
  refine CallTo.of (c_spec_pick nb bs (q + 1) 12 (h.step (q := q + 1) (by omega) (by omega))) ?_
  rintro r b ⟨y2, rfl, rfl, hy2⟩
  simp (config := { maxSteps := 4000000 }) only [go_sem, simprocAttr, ↓dnA, Tryz.f84, rows_length, rd, encT]
  refine CallTo.of (c_spec_pick nb bs (q + 1 + 1) 12 (h.step (q := q + 1 + 1) (by omega) (by omega))) ?_
  rintro r b ⟨y3, rfl, rfl, hy3⟩
  simp (config := { maxSteps := 4000000 }) only [go_sem, simprocAttr, ↓dnA, Tryz.f84, rows_length, rd, encT]
  exact .same ⟨t, _, q + 1 + 1 + 1, rfl, rfl, by omega, by omega, ht⟩

def GrowQ (r : AV) (b : List AV) : Prop := ∃ (t : Tree) (n v : Int) (l : List Action), r = .tup [.agg (encT none none none t), .int .i64 n, .int .i64 v, .osl true 4 (rows encA l)] ∧ tsz t ≤ 300 ∧ l.length ≤ 20
theorem c_spec_DrawGrowTree (nb : Option Bool) (bs : List Int) (h : CodeOk bs) : FSpec Tryz.prog 28 [.sl nb (rows encB bs)] false [] GrowQ := by
  refine fspec_rel tab_ok Tryz.call28 Tryz.func28 rfl 22 Tryz.ntmps28 (of_decide_eq_true rfl) fun B => codeK_sound tab_ok _ _ _ ?_
  simp (config := { maxSteps := 4000000 }) only [go_sem, simprocAttr, ↓dnA, Tryz.f28, rows_length]
  refine CallTo.of (c_spec_l20Open nb bs h) ?_
  rintro r b rfl
  unfold rd
  simp (config := { maxSteps := 4000000 }) only [go_sem, simprocAttr, ↓dnA, Tryz.f28, rows_length]
  have h0 := code_take h
  generalize bs.take 2000 = bs at h0
  refine CallTo.of (c_spec_l20At nb bs 0 12 h0 (by omega) (by omega)) ?_
  rintro r b ⟨t, n, q, rfl, rfl, hq1, hq2, ht⟩
  simp (config := { maxSteps := 4000000 }) only [go_sem, simprocAttr, ↓dnA, Tryz.f28, rows_length, rd, encT]
  refine semL_draw tab_ok mixed_ rfl (ord := [(0, []), (1, []), (2, []), (4, []), (3, [0, 1, 4]), (5, [0, 1]), (6, [1]), (7, []), (8, []), (9, [])]) (by dsimp only; decide +kernel) ?_
  simp (config := { maxSteps := 4000000 }) only [go_sem, simprocAttr, ↓dnA, Tryz.f28, rows_length, rd, encT]
  refine CallTo.of (c_spec_pick nb bs q 9 (h0.step (q := q) (by omega) (by omega))) ?_
  rintro r b ⟨v, rfl, rfl, hv⟩
  simp (config := { maxSteps := 4000000 }) only [go_sem, simprocAttr, ↓dnA, Tryz.f28, rows_length, rd, encT]
  refine CallTo.of (c_spec_l20Actions nb bs (q + 1) 12 (h0.step (q := q + 1) (by omega) (by omega)) (by omega) (by omega)) ?_
  rintro r b ⟨l, q4, rfl, rfl, _, _, hll⟩
  simp (config := { maxSteps := 4000000 }) only [go_sem, simprocAttr, ↓dnA, Tryz.f28, rows_length, rd, encT]
  exact .same ⟨t, n, v, l, rfl, ht, hll⟩

theorem growTree_no {t : Tree} {n v : Int} {l : List Action} (h : (growTree t n v l).2 = false) : (growTree t n v l).1 = ⟨[], [], []⟩ ∨ (growTree t n v l).1 = t := by
  unfold growTree at h ⊢
  split
  · rename_i g1
    rw [if_pos g1] at h
    split
    · rename_i g2
      rw [if_pos g2] at h
      split
      · rename_i g3
        rw [if_pos g3] at h
        exact putBlock_no h
      · exact .inr rfl
    · exact .inr rfl
  · exact .inl rfl
theorem c_laws_FnGrowTree (nb : Option Bool) (bs : List Int) (h : ∀ b, b ∈ bs → 0 ≤ b ∧ b ≤ 255) : Det Tryz.prog 5 [.sl nb (rows encB bs)] (.bool true) := by
  refine fspec_det tab_ok Tryz.call5 Tryz.func5 rfl 104 Tryz.ntmps5 (of_decide_eq_true rfl) fun B => codeK_sound tab_ok _ _ _ ?_
  simp (config := { maxSteps := 4000000 }) only [go_sem, simprocAttr, ↓dnA, Tryz.f5, rows_length]
  intro hl
  have hc : CodeOk bs := ⟨h, by simp at hl; omega⟩
  refine CallTo.of (c_spec_DrawGrowTree nb bs hc) ?_
  rintro r b ⟨t, n, v, l, rfl, hw, hll⟩
  have hx : TreeS32 t := ⟨by omega⟩
  have hI := c_impl_GrowTree (some true) none none none t n v l hx (by omega)
  have hS := c_spec_GrowTree none none none (some true) t n v l hx (by omega)
  have hsz := growTree_tsz t n v l
  have hno := fun h => growTree_no (t := t) (n := n) (v := v) (l := l) h
  have hok := fun h => growTree_right (t := t) (n := n) (v := v) (l := l) h
  have his := fun h => growTree_is (t := t) (n := n) (v := v) (l := l) h
  generalize growTree t n v l = p at hI hS hsz hno hok his
  obtain ⟨x, ok⟩ := p
  dsimp only at hI hS hsz hno hok his
  have hy : TreeS32 x := ⟨by omega⟩
  have hqq : (ok != ok) = false := by simp
  have hst := c_laws_sameTree none none none none none none x hy.sz
  cases ok with
  | false =>
    have hno := hno rfl
    obtain ⟨z, hz⟩ : ∃ z, ((x.blocks.length : Int) == 0) = z := ⟨_, rfl⟩
    have hsw : z = false → x = t := fun e => by
      rcases hno with e2 | e2
      · rw [e2] at hz; rw [e] at hz; cases hz
      · exact e2
    simp (config := { maxSteps := 4000000 }) only [go_sem, simprocAttr, ↓dnA, Tryz.f5, rows_length, encT]
    refine CallTo.det hI fun _ => ?_
    simp (config := { maxSteps := 4000000 }) only [go_sem, simprocAttr, ↓dnA, Tryz.f5, rows_length, encT, encTF]
    refine CallTo.det hS fun _ => ?_
    simp (config := { maxSteps := 4000000 }) only [go_sem, simprocAttr, ↓dnA, Tryz.f5, rows_length, encT, encTF]
    refine CallTo.det hst fun _ => ?_
    cases z with
    | true =>
      simp (config := { maxSteps := 4000000 }) only [go_sem, simprocAttr, ↓dnA, Tryz.f5, rows_length, encT, encTF, hqq, hz]
      refine CallTo.det c_laws_alive fun _ => ?_
      simp (config := { maxSteps := 4000000 }) only [go_sem, simprocAttr, ↓dnA, Tryz.f5, rows_length, encT, encTF, hqq, hz]
    | false =>
      have e := hsw rfl
      have hW : Det Tryz.prog 31 [.agg (encT none none none x), .agg (encT none none none t)] (.bool true) := by rw [e]; exact c_laws_sameTree none none none none none none t hx.sz
      simp (config := { maxSteps := 4000000 }) only [go_sem, simprocAttr, ↓dnA, Tryz.f5, rows_length, encT, encTF, hqq, hz]
      refine CallTo.det hW fun _ => ?_
      simp (config := { maxSteps := 4000000 }) only [go_sem, simprocAttr, ↓dnA, Tryz.f5, rows_length, encT, encTF, hqq, hz]
      refine CallTo.det c_laws_alive fun _ => ?_
      simp (config := { maxSteps := 4000000 }) only [go_sem, simprocAttr, ↓dnA, Tryz.f5, rows_length, encT, encTF, hqq, hz]
  | true =>
    obtain ⟨hto, hlx, hbf, hrr⟩ := hok rfl
    obtain ⟨hto2, hnb, _⟩ := his rfl
    obtain ⟨k, rfl⟩ : ∃ k : Nat, n = (k : Int) := ⟨n.toNat, by omega⟩
    have hk : k < t.blocks.length := by omega
    have hV := c_impl_BlockTreeValid none none none x hy.sz
    have hR := c_impl_RightBlocks none none none x hy.sz
    have hvx := treeValid_true hto
    have hrx : rights x = rightsTo x x.blocks.length := by unfold rights; rw [hvx]; rfl
    rw [hvx] at hV
    rw [hrx] at hR
    rw [← hlx, Int.toNat_natCast] at hrr
    have hrl := rightsTo_len x x.blocks.length
    generalize rightsTo x x.blocks.length = rs at hR hrr hrl
    have htl : t.blocks.length ≤ 300 := by unfold tsz at hw; omega
    have w1 : IntKind.i64.wrap ((x.blocks.length : Int) - 1) = (t.blocks.length : Int) := by rw [wrap_small _ (by omega) (by omega)]; omega
    have w2 : IntKind.i64.wrap ((t.blocks.length : Int) + 1) = (x.blocks.length : Int) := by rw [wrap_small _ (by omega) (by omega)]; omega
    have hlb : t.blocks.length < x.before.length := by rw [hto.bef]; omega
    have g1 : (rows encI x.before).getD t.blocks.length [] = [.int .i64 (k : Nat)] := by rw [rows_get _ _ _ hlb, x.bef_get _ hlb, hbf]; rfl
    have h1r : t.blocks.length < rs.length := by omega
    have h2r : k < rs.length := by omega
    have g2 := boolRows_get rs t.blocks.length h1r
    have g3 := boolRows_get rs k h2r
    rw [hrr] at g2
    generalize rs.getD k false = br at g2 g3
    have d1 : ((t.blocks.length : Int) == (t.blocks.length : Int)) = true := by simp
    have d2 : ((k : Int) == (k : Int)) = true := by simp
    have d3 : ((x.blocks.length : Int) == (x.blocks.length : Int)) = true := by simp
    have d4 : (br == br) = true := by simp
    have hrx' : rs.length = x.blocks.length := hrl
    have h1x : t.blocks.length < x.blocks.length := by omega
    have h2x : k < x.blocks.length := by omega
    simp (config := { maxSteps := 4000000 }) only [go_sem, simprocAttr, ↓dnA, Tryz.f5, rows_length, encT]
    refine CallTo.det hI fun _ => ?_
    simp (config := { maxSteps := 4000000 }) only [go_sem, simprocAttr, ↓dnA, Tryz.f5, rows_length, encT, encTF]
    refine CallTo.det hS fun _ => ?_
    simp (config := { maxSteps := 4000000 }) only [go_sem, simprocAttr, ↓dnA, Tryz.f5, rows_length, encT, encTF]
    refine CallTo.det hst fun _ => ?_
    simp (config := { maxSteps := 4000000 }) only [go_sem, simprocAttr, ↓dnA, Tryz.f5, rows_length, encT, encTF, hqq]
    refine CallTo.det hR fun _ => ?_
    simp (config := { maxSteps := 4000000 }) only [go_sem, simprocAttr, ↓dnA, Tryz.f5, rows_length, encT, encTF, hqq, boolRows_length, hrx', w1]
    refine semL_draw tab_ok mixed_ rfl (ord := [(0, []), (1, []), (2, []), (3, []), (4, []), (5, []), (6, []), (7, []), (8, []), (9, []), (10, []), (11, []), (12, []), (13, []), (14, []), (15, []), (16, []), (17, []), (18, []), (19, []), (20, []), (21, []), (22, []), (23, []), (24, []), (25, []), (26, []), (27, []), (28, []), (29, []), (30, []), (31, []), (32, []), (33, []), (34, []), (35, []), (36, [])]) (by dsimp only; decide +kernel) ?_
    simp (config := { maxSteps := 4000000 }) only [go_sem, simprocAttr, ↓dnA, Tryz.f5, rows_length, encT, encTF, hqq, boolRows_length, hrx', w1]
    refine CallTo.det hV fun _ => ?_
    simp (config := { maxSteps := 4000000 }) only [go_sem, simprocAttr, ↓dnA, Tryz.f5, rows_length, encT, encTF, hqq, boolRows_length, hrx', w1, w2, d1, d2, d3, d4, nn0, nlt hlb, hlb, g1, nlt h1x, h1x, nlt h2x, h2x, g2, g3]

end Go.Proofs.YthcfafpjkbbaoaaGreat

/- The law FnGrowTree, and its closed facts. -/
namespace Go.Proofs.YthcfafpjkbbaoaaGreat
open Go Go.ChangeShapes Go.WideShapes Go.ChangeAt Go.RowKit

theorem fnGrowTree_named : Tryz.pinned.checked.prog.funcNamed Rows.fnGrowTreeRow.func = some 5 := by kernel_rfl
theorem fnGrowTree_inst : Tryz.f5.isInstance Tryz.pinned.checked.prog Rows.fnGrowTreeRow.origin Rows.fnGrowTreeRow.targs := of_decide_eq_true (by kernel_rfl)
theorem fnGrowTree_wrap : Tryz.f5.isWrapper Tryz.pinned.checked.prog Rows.fnGrowTreeRow.wrapper Rows.fnGrowTreeRow.mainSum := by
  unfold Func.isWrapper; first | (rw [if_pos (by decide +kernel)]; kernel_rfl) | (rw [if_neg (by decide +kernel)]; exact ⟨rfl, rfl⟩)
set_option maxRecDepth 100000 in
theorem fnGrowTree_closed : joinedFacts Tryz.pinned.checked.prog 5 Tryz.f5 Rows.fnGrowTreeSpec Rows.fnGrowTreeRow = true := by kernel_rfl

end Go.Proofs.YthcfafpjkbbaoaaGreat

