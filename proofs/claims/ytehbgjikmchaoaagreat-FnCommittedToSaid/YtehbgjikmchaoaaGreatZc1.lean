/- FnCommittedTo (part 1): W126, C22 -/
import Derived.Test.YtehbgjikmchaoaaGreatRows
import Derived.ProofKit
import Derived.Test.YtehbgjikmchaoaaGreatH6

set_option linter.unusedSimpArgs false
set_option linter.unusedVariables false

/- FnCommittedTo. -/
set_option linter.unusedSimpArgs false
set_option linter.unusedVariables false
set_option maxRecDepth 20000
set_option maxHeartbeats 4000000
namespace Go.Proofs.YtehbgjikmchaoaaGreat
open Go Go.RowKit

theorem c_laws_hasKey (n1 : Option Bool) (xs : List Int) (n : Int) (hx : xs.length < 2 ^ 62) : Det Tryz.prog 11 [.sl n1 (rows encI xs), .int .i64 n] (.bool (xs.any fun x => x == n)) := by
  refine fspec_det tab_ok Tryz.call11 Tryz.func11 rfl 18 Tryz.ntmps11 (of_decide_eq_true rfl) fun B => codeK_sound tab_ok _ _ _ ?_
  simp (config := { maxSteps := 4000000 }) only [go_sem, simprocAttr, ↓dnA, Tryz.f11, rows_length]
  refine semL_for tab_ok (fun i : Nat => ⟨18, [(0, .sl n1 (rows encI xs)), (1, .int .i64 n), (4, .bool false), (5, .int .i64 i)], []⟩) (fun i => xs.length - i)
    (fun i => i ≤ xs.length ∧ ∀ x, x ∈ xs.take i → (x == n) = false) 0 [] (Weak.of (by rfl) ?_ ?_ (by rfl)) ⟨by omega, fun x hx => by simp at hx⟩ ?_
  · trivial
  · simp (config := { maxSteps := 4000000 }) only [go_sem, simprocAttr, ↓dnA, Tryz.f11, rows_length, frW, wk2, wk1, wkL, wkB, hpW, List.mem_cons, Prod.mk.injEq, exists_eq_left, exists_eq_right, exists_eq]
    try rfl
  · rintro i ⟨hi, hf⟩
    by_cases h : i < xs.length
    · have hw : IntKind.i64.wrap ((i : Int) + 1) = ((i + 1 : Nat) : Int) := wsucc h (by omega)
      obtain ⟨z, hz⟩ : ∃ z, (xs[i] == n) = z := ⟨_, rfl⟩
      cases z with
      | true =>
        have hany : (xs.any fun x => x == n) = true := List.any_eq_true.2 ⟨xs[i], List.getElem_mem h, hz⟩
        simp (config := { maxSteps := 4000000 }) only [go_sem, simprocAttr, ↓dnA, Tryz.f11, rows_length, nlt h, h, rows_get _ _ _ h, encI, nn0, hz, hany]
      | false =>
        simp (config := { maxSteps := 4000000 }) only [go_sem, simprocAttr, ↓dnA, Tryz.f11, rows_length, nlt h, h, rows_get _ _ _ h, encI, nn0, hz, hw]
        refine ⟨i + 1, [], ⟨by omega, fun x hx => ?_⟩, by dsimp only; omega, Weak.of (by rfl) ?_ ?_ (by rfl)⟩
        · rw [take_snoc _ _ h, List.mem_append, List.mem_singleton] at hx
          rcases hx with hx | rfl
          · exact hf x hx
          · exact hz
        · trivial
        · simp (config := { maxSteps := 4000000 }) only [go_sem, simprocAttr, ↓dnA, Tryz.f11, rows_length, frW, wk2, wk1, wkL, wkB, hpW, List.mem_cons, Prod.mk.injEq, exists_eq_left, exists_eq_right, exists_eq]
    · have hi' : i = xs.length := by omega
      subst hi'
      rw [List.take_length] at hf
      have hany : (xs.any fun x => x == n) = false := by
        cases e : xs.any fun x => x == n with
        | false => rfl
        | true =>
          obtain ⟨x, hx, hy⟩ := List.any_eq_true.1 e
          rw [hf x hx] at hy; cases hy
      simp (config := { maxSteps := 4000000 }) only [go_sem, simprocAttr, ↓dnA, Tryz.f11, rows_length, nlf h, hany]

theorem c_laws_FnCommittedTo (nb : Option Bool) (bs : List Int) (h : ∀ b, b ∈ bs → 0 ≤ b ∧ b ≤ 255) : Det Tryz.prog 3 [.sl nb (rows encB bs)] (.bool true) := by
  refine fspec_det tab_ok Tryz.call3 Tryz.func3 rfl 87 Tryz.ntmps3 (of_decide_eq_true rfl) fun B => codeK_sound tab_ok _ _ _ ?_
  simp (config := { maxSteps := 4000000 }) only [go_sem, simprocAttr, ↓dnA, Tryz.f3, rows_length]
  intro hl
  have hc : CodeOk bs := ⟨h, by simp at hl; omega⟩
  refine CallTo.of (c_spec_DrawCommittedTo nb bs hc) ?_
  rintro r b ⟨t, cs, rfl, hts, hl1, hl2, hcs⟩
  have hx : TreeSz t := tsz_sz (m := 200) hts (by decide)
  have hI := c_impl_CommittedTo none none none none t cs hx
  have hS := c_spec_CommittedTo none none none none t cs hx
  by_cases hv : treeValid t = true ∧ cs.length ≤ 30
  · have hH := c_impl_CommitHeads none none none none t cs hx
    rw [committedTo_yes hv] at hI hS
    rw [commitHeads_yes hv] at hH
    have ht := treeOk_of hv.1
    have hlb := headsL_bd t (certL t cs)
    have hll : (headsL t (certL t cs)).length ≤ t.blocks.length := by unfold headsL; exact fltF_len _ _ _
    generalize headsL t (certL t cs) = l at hI hS hH hlb hll
    have hbd := bestF_bd t t.blocks.length l 0 hlb (by omega)
    obtain ⟨hin, _, hvw⟩ := bestF_facts t l 0
    obtain ⟨k, hk⟩ : ∃ k : Nat, bestF t l 0 = (k : Int) := ⟨(bestF t l 0).toNat, by omega⟩
    rw [hk] at hI hS hbd hin hvw
    have hkb : k < t.blocks.length := by omega
    have hbk : (rows encB1 t.blocks).getD k [] = encB1 (t.blk k) := rows_gd encB1 t.blocks k hkb
    rw [Int.toNat_natCast] at hvw
    have d0 : ((k : Int) != (k : Int)) = false := by simp
    have dn : ((k : Int) < 0) = False := by simp
    have d1 : decide ((k : Int) ≥ (t.blocks.length : Int)) = false := by simp; omega
    have hK := c_laws_hasKey none l (k : Int) (by omega)
    simp (config := { maxSteps := 4000000 }) only [go_sem, simprocAttr, ↓dnA, Tryz.f3, rows_length, encT]
    refine CallTo.det hI fun _ => ?_
    simp (config := { maxSteps := 4000000 }) only [go_sem, simprocAttr, ↓dnA, Tryz.f3, rows_length, encT]
    refine CallTo.det hS fun _ => ?_
    simp (config := { maxSteps := 4000000 }) only [go_sem, simprocAttr, ↓dnA, Tryz.f3, rows_length, encT, d0, dn]
    refine CallTo.det hH fun _ => ?_
    simp (config := { maxSteps := 4000000 }) only [go_sem, simprocAttr, ↓dnA, Tryz.f3, rows_length, encT, d0, dn]
    refine semL_for tab_ok (fun i : Nat => ⟨87, [(3, .loc 3 0), (5, .int .i64 (k : Nat)), (6, .row 601 l.length), (7, .int .i64 i)],
      [(3, .var (encT none none none t)), (601, .row true false 1 (rows encI l))]⟩) (fun i => l.length - i)
      (fun i => i ≤ l.length) 0 [(3, 3), (34000, 601)] (Weak.of (by rfl) ?_ ?_ (by rfl)) (by omega) ?_
    · simp (config := { maxSteps := 4000000 }) only [go_sem, simprocAttr, ↓dnA, Tryz.f3, rows_length, encT, nc0, frW, wk2, wk1, wkL, wkB, hpW, List.mem_cons, Prod.mk.injEq, exists_eq_left, exists_eq_right, exists_eq]
      try rfl
    · simp (config := { maxSteps := 4000000 }) only [go_sem, simprocAttr, ↓dnA, Tryz.f3, rows_length, encT, nc0, frW, wk2, wk1, wkL, wkB, hpW, List.mem_cons, Prod.mk.injEq, exists_eq_left, exists_eq_right, exists_eq]
      try rfl
    · rintro i hi
      by_cases h : i < l.length
      · have hwi : IntKind.i64.wrap ((i : Int) + 1) = ((i + 1 : Nat) : Int) := wsucc h (by omega)
        have hm : l[i] ∈ l := List.getElem_mem h
        have hb := hlb _ hm
        obtain ⟨j, hj⟩ : ∃ j : Nat, l[i] = (j : Int) := ⟨l[i].toNat, by omega⟩
        have hvj := hvw _ hm
        rw [hj] at hb hvj
        rw [Int.toNat_natCast] at hvj
        have hjb : j < t.blocks.length := by omega
        have hli : (rows encI l).getD i [] = [.int .i64 (j : Nat)] := by rw [rows_get _ _ _ h, hj]; rfl
        have hbj : (rows encB1 t.blocks).getD j [] = encB1 (t.blk j) := rows_gd encB1 t.blocks j hjb
        have d2 : ((j : Int) < 0) = False := by simp
        have d3 : decide ((j : Int) ≥ (t.blocks.length : Int)) = false := by simp; omega
        have d4 : decide ((t.blk j).view > (t.blk k).view) = false := by simp; omega
        simp (config := { maxSteps := 4000000 }) only [go_sem, simprocAttr, ↓dnA, Tryz.f3, rows_length, encT, nlt h]
        refine semL_draw tab_ok mixed_ rfl (ord := [(0, []), (1, []), (2, []), (3, []), (4, []), (5, []), (6, []), (7, []), (8, []), (9, []), (10, []), (11, []), (12, []), (13, []), (14, []), (15, []), (16, []), (17, []), (18, []), (19, []), (20, []), (21, []), (22, []), (23, []), (24, []), (25, []), (26, []), (27, []), (28, []), (29, []), (30, []), (31, []), (32, []), (33, []), (34, []), (35, []), (36, []), (37, []), (38, []), (39, [])]) (by dsimp only; decide +kernel) ?_
        simp (config := { maxSteps := 4000000 }) only [go_sem, simprocAttr, ↓dnA, Tryz.f3, rows_length, encT, nlt h, h, nn0, hli, hbj, hbk, encB1, encBk, d1, d2, d3, d4, nlt hjb, hjb, nlt hkb, hkb, hwi]
        refine ⟨i + 1, [(3, 3), (601, 601)], by omega, by dsimp only; omega, Weak.of (by rfl) ?_ ?_ (by rfl)⟩
        · simp (config := { maxSteps := 4000000 }) only [go_sem, simprocAttr, ↓dnA, Tryz.f3, rows_length, encT, frW, wk2, wk1, wkL, wkB, hpW, List.mem_cons, Prod.mk.injEq, exists_eq_left, exists_eq_right, exists_eq]
          try rfl
        · simp (config := { maxSteps := 4000000 }) only [go_sem, simprocAttr, ↓dnA, Tryz.f3, rows_length, encT, frW, wk2, wk1, wkL, wkB, hpW, List.mem_cons, Prod.mk.injEq, exists_eq_left, exists_eq_right, exists_eq]
          try rfl
      · have hi' : i = l.length := by omega
        subst hi'
        obtain ⟨z, hz⟩ : ∃ z, ((k : Int) == 0) = z := ⟨_, rfl⟩
        cases z with
        | true => simp (config := { maxSteps := 4000000 }) only [go_sem, simprocAttr, ↓dnA, Tryz.f3, rows_length, encT, nlf h, hz]
        | false =>
          have hany : (l.any fun x => x == (k : Int)) = true := by
            rcases hin with e | e
            · rw [e] at hz; cases hz
            · exact List.any_eq_true.2 ⟨_, e, by simp⟩
          rw [hany] at hK
          simp (config := { maxSteps := 4000000 }) only [go_sem, simprocAttr, ↓dnA, Tryz.f3, rows_length, encT, nlf h, hz]
          refine CallTo.det hK fun _ => ?_
          simp (config := { maxSteps := 4000000 }) only [go_sem, simprocAttr, ↓dnA, Tryz.f3, rows_length, encT, nlf h, hz]
  · rw [committedTo_no hv] at hI hS
    simp (config := { maxSteps := 4000000 }) only [go_sem, simprocAttr, ↓dnA, Tryz.f3, rows_length, encT]
    refine CallTo.det hI fun _ => ?_
    simp (config := { maxSteps := 4000000 }) only [go_sem, simprocAttr, ↓dnA, Tryz.f3, rows_length, encT]
    refine CallTo.det hS fun _ => ?_
    simp (config := { maxSteps := 4000000 }) only [go_sem, simprocAttr, ↓dnA, Tryz.f3, rows_length, encT]
    refine CallTo.det c_laws_alive fun _ => ?_
    simp (config := { maxSteps := 4000000 }) only [go_sem, simprocAttr, ↓dnA, Tryz.f3, rows_length, encT]

end Go.Proofs.YtehbgjikmchaoaaGreat

/- The law FnCommittedTo, and its closed facts. -/
namespace Go.Proofs.YtehbgjikmchaoaaGreat
open Go Go.ChangeShapes Go.WideShapes Go.ChangeAt Go.RowKit

theorem fnCommittedTo_named : Tryz.pinned.checked.prog.funcNamed Rows.fnCommittedToRow.func = some 3 := by kernel_rfl
theorem fnCommittedTo_inst : Tryz.f3.isInstance Tryz.pinned.checked.prog Rows.fnCommittedToRow.origin Rows.fnCommittedToRow.targs := of_decide_eq_true (by kernel_rfl)
theorem fnCommittedTo_wrap : Tryz.f3.isWrapper Tryz.pinned.checked.prog Rows.fnCommittedToRow.wrapper Rows.fnCommittedToRow.mainSum := by
  unfold Func.isWrapper; first | (rw [if_pos (by decide +kernel)]; kernel_rfl) | (rw [if_neg (by decide +kernel)]; exact ⟨rfl, rfl⟩)
set_option maxRecDepth 100000 in
theorem fnCommittedTo_closed : joinedFacts Tryz.pinned.checked.prog 3 Tryz.f3 Rows.fnCommittedToSpec Rows.fnCommittedToRow = true := by kernel_rfl

end Go.Proofs.YtehbgjikmchaoaaGreat

