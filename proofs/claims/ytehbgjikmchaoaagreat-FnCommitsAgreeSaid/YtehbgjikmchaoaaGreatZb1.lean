/- FnCommitsAgree (part 1): W127, C23 -/
import Derived.Test.YtehbgjikmchaoaaGreatRows
import Derived.ProofKit
import Derived.Test.YtehbgjikmchaoaaGreatH6

set_option linter.unusedSimpArgs false
set_option linter.unusedVariables false

/- FnCommitsAgree. -/
set_option linter.unusedSimpArgs false
set_option linter.unusedVariables false
set_option maxRecDepth 20000
set_option maxHeartbeats 4000000
namespace Go.Proofs.YtehbgjikmchaoaaGreat
open Go Go.RowKit

theorem c_laws_FnCommitsAgree (nb : Option Bool) (bs : List Int) (h : ∀ b, b ∈ bs → 0 ≤ b ∧ b ≤ 255) : Det Tryz.prog 4 [.sl nb (rows encB bs)] (.bool true) := by
  refine fspec_det tab_ok Tryz.call4 Tryz.func4 rfl 50 Tryz.ntmps4 (of_decide_eq_true rfl) fun B => codeK_sound tab_ok _ _ _ ?_
  simp (config := { maxSteps := 4000000 }) only [go_sem, simprocAttr, ↓dnA, Tryz.f4, rows_length]
  intro hl
  have hc : CodeOk bs := ⟨h, by simp at hl; omega⟩
  refine CallTo.of (c_spec_DrawCommitsAgree nb bs hc) ?_
  rintro r b ⟨t, cs, rfl, hts, hl1, hl2, hcs⟩
  have hx : TreeSz t := tsz_sz (m := 200) hts (by decide)
  have hI := c_impl_CommitsAgree none none none none t cs hx
  have hS := c_spec_CommitsAgree none none none none t cs hx
  have hT := c_impl_CommittedTo none none none none t cs hx
  have hH := c_impl_CommitHeads none none none none t cs hx
  have hno : commitsAgree t cs = true → ∃ l, committedTo t cs = bestF t l 0 ∧ commitHeads t cs = l ∧ TreeOk t ∧ AgreeAll t l ∧ (∀ x, x ∈ l → 0 ≤ x ∧ x < t.blocks.length) ∧ l.length ≤ t.blocks.length := fun h => by
    by_cases hv : treeValid t = true ∧ cs.length ≤ 30
    · refine ⟨_, committedTo_yes hv, commitHeads_yes hv, treeOk_of hv.1, ?_, headsL_bd t (certL t cs), by unfold headsL; exact fltF_len _ _ _⟩
      rw [commitsAgree_yes hv] at h
      by_cases ha : AgreeAll t (headsL t (certL t cs))
      · exact ha
      · rw [agreeAllB_no ha] at h; cases h
    · rw [commitsAgree_no hv] at h; cases h
  generalize commitsAgree t cs = ok at hI hS hno
  cases ok with
  | false =>
    simp (config := { maxSteps := 4000000 }) only [go_sem, simprocAttr, ↓dnA, Tryz.f4, rows_length, encT]
    refine CallTo.det hI fun _ => ?_
    simp (config := { maxSteps := 4000000 }) only [go_sem, simprocAttr, ↓dnA, Tryz.f4, rows_length, encT]
    refine CallTo.det hS fun _ => ?_
    simp (config := { maxSteps := 4000000 }) only [go_sem, simprocAttr, ↓dnA, Tryz.f4, rows_length, encT]
    refine CallTo.det c_laws_alive fun _ => ?_
    simp (config := { maxSteps := 4000000 }) only [go_sem, simprocAttr, ↓dnA, Tryz.f4, rows_length, encT]
  | true =>
    obtain ⟨l, e1, e2, ht, ha, hlb, hll⟩ := hno rfl
    rw [e1] at hT
    rw [e2] at hH
    clear e1 e2
    have hbd := bestF_bd t t.blocks.length l 0 hlb (by omega)
    have hbest := agree_best ht ha hlb
    obtain ⟨k, hk⟩ : ∃ k : Nat, bestF t l 0 = (k : Int) := ⟨(bestF t l 0).toNat, by omega⟩
    rw [hk] at hT hbest
    have d1 : decide ((k : Int) ≥ 0) = true := by simp
    simp (config := { maxSteps := 4000000 }) only [go_sem, simprocAttr, ↓dnA, Tryz.f4, rows_length, encT]
    refine CallTo.det hI fun _ => ?_
    simp (config := { maxSteps := 4000000 }) only [go_sem, simprocAttr, ↓dnA, Tryz.f4, rows_length, encT]
    refine CallTo.det hS fun _ => ?_
    simp (config := { maxSteps := 4000000 }) only [go_sem, simprocAttr, ↓dnA, Tryz.f4, rows_length, encT]
    refine CallTo.det hT fun _ => ?_
    simp (config := { maxSteps := 4000000 }) only [go_sem, simprocAttr, ↓dnA, Tryz.f4, rows_length, encT]
    refine CallTo.det hH fun _ => ?_
    simp (config := { maxSteps := 4000000 }) only [go_sem, simprocAttr, ↓dnA, Tryz.f4, rows_length, encT]
    refine semL_for tab_ok (fun i : Nat => ⟨50, [(3, .loc 3 0), (6, .int .i64 (k : Nat)), (7, .row 601 l.length), (8, .int .i64 i)],
      [(3, .var (encT none none none t)), (601, .row true false 1 (rows encI l))]⟩) (fun i => l.length - i)
      (fun i => i ≤ l.length) 0 [(3, 3), (34000, 601)] (Weak.of (by rfl) ?_ ?_ (by rfl)) (by omega) ?_
    · simp (config := { maxSteps := 4000000 }) only [go_sem, simprocAttr, ↓dnA, Tryz.f4, rows_length, encT, nc0, frW, wk2, wk1, wkL, wkB, hpW, List.mem_cons, Prod.mk.injEq, exists_eq_left, exists_eq_right, exists_eq]
      try rfl
    · simp (config := { maxSteps := 4000000 }) only [go_sem, simprocAttr, ↓dnA, Tryz.f4, rows_length, encT, nc0, frW, wk2, wk1, wkL, wkB, hpW, List.mem_cons, Prod.mk.injEq, exists_eq_left, exists_eq_right, exists_eq]
      try rfl
    · rintro i hi
      by_cases h : i < l.length
      · have hwi : IntKind.i64.wrap ((i : Int) + 1) = ((i + 1 : Nat) : Int) := wsucc h (by omega)
        have hB := c_impl_IsBefore none none none t l[i] (k : Int) hx
        rw [hbest i h] at hB
        simp (config := { maxSteps := 4000000 }) only [go_sem, simprocAttr, ↓dnA, Tryz.f4, rows_length, encT, nlt h]
        refine semL_draw tab_ok mixed_ rfl (ord := [(0, []), (1, []), (2, []), (3, []), (4, []), (5, []), (6, []), (7, [])]) (by dsimp only; decide +kernel) ?_
        simp (config := { maxSteps := 4000000 }) only [go_sem, simprocAttr, ↓dnA, Tryz.f4, rows_length, encT, nlt h, h, nn0, rows_get _ _ _ h, encI]
        refine CallTo.det hB fun _ => ?_
        simp (config := { maxSteps := 4000000 }) only [go_sem, simprocAttr, ↓dnA, Tryz.f4, rows_length, encT, nlt h, h, nn0, rows_get _ _ _ h, encI, hwi]
        refine ⟨i + 1, [(3, 3), (601, 601)], by omega, by dsimp only; omega, Weak.of (by rfl) ?_ ?_ (by rfl)⟩
        · simp (config := { maxSteps := 4000000 }) only [go_sem, simprocAttr, ↓dnA, Tryz.f4, rows_length, encT, frW, wk2, wk1, wkL, wkB, hpW, List.mem_cons, Prod.mk.injEq, exists_eq_left, exists_eq_right, exists_eq]
          try rfl
        · simp (config := { maxSteps := 4000000 }) only [go_sem, simprocAttr, ↓dnA, Tryz.f4, rows_length, encT, frW, wk2, wk1, wkL, wkB, hpW, List.mem_cons, Prod.mk.injEq, exists_eq_left, exists_eq_right, exists_eq]
          try rfl
      · have hi' : i = l.length := by omega
        subst hi'
        simp (config := { maxSteps := 4000000 }) only [go_sem, simprocAttr, ↓dnA, Tryz.f4, rows_length, encT, nlf h, d1]

end Go.Proofs.YtehbgjikmchaoaaGreat

/- The law FnCommitsAgree, and its closed facts. -/
namespace Go.Proofs.YtehbgjikmchaoaaGreat
open Go Go.ChangeShapes Go.WideShapes Go.ChangeAt Go.RowKit

theorem fnCommitsAgree_named : Tryz.pinned.checked.prog.funcNamed Rows.fnCommitsAgreeRow.func = some 4 := by kernel_rfl
theorem fnCommitsAgree_inst : Tryz.f4.isInstance Tryz.pinned.checked.prog Rows.fnCommitsAgreeRow.origin Rows.fnCommitsAgreeRow.targs := of_decide_eq_true (by kernel_rfl)
theorem fnCommitsAgree_wrap : Tryz.f4.isWrapper Tryz.pinned.checked.prog Rows.fnCommitsAgreeRow.wrapper Rows.fnCommitsAgreeRow.mainSum := by
  unfold Func.isWrapper; first | (rw [if_pos (by decide +kernel)]; kernel_rfl) | (rw [if_neg (by decide +kernel)]; exact ⟨rfl, rfl⟩)
set_option maxRecDepth 100000 in
theorem fnCommitsAgree_closed : joinedFacts Tryz.pinned.checked.prog 4 Tryz.f4 Rows.fnCommitsAgreeSpec Rows.fnCommitsAgreeRow = true := by kernel_rfl

end Go.Proofs.YtehbgjikmchaoaaGreat

