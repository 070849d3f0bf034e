/- Shared texts R (part 2): W55, W56, W59, W63, W71, W27, W65, W60, W61, W62, W102, W106, Ty1, Ty4, Ty5, Ty6 -/
import Derived.Test.YtmibclbinebnjaaR1

set_option linter.unusedSimpArgs false
set_option linter.unusedVariables false

/- Contracts: the sums of effects. -/
set_option linter.unusedSimpArgs false
set_option linter.unusedVariables false
set_option maxRecDepth 20000
set_option maxHeartbeats 4000000
namespace Go.Proofs.Ytmibclbinebnjaa
open Go Go.RowKit

def flatE (es : List Entry) : List Int := es.flatMap fun e => [e.key, e.value]
theorem flatE_len : ∀ es : List Entry, (flatE es).length = 2 * es.length
  | [] => rfl
  | e :: r => by
    have := flatE_len r
    simp only [flatE, List.flatMap_cons, List.length_append, List.length_cons, List.length_nil] at this ⊢
    omega
theorem flatE_take (es : List Entry) (i : Nat) (h : i < es.length) : flatE (es.take (i + 1)) = flatE (es.take i) ++ [es[i].key, es[i].value] := by
  unfold flatE
  rw [take_snoc _ _ h, List.flatMap_append]
  simp

/-- What is summed of an effect. -/
def effectL (e : Effect) : List Int := [if e.done then 1 else 0, (e.reads.length : Int)] ++ flatE (e.reads ++ e.writes)
def effectSum (e : Effect) : Int := sumOf 3 (effectL e)
def effectsSum (es : List Effect) : Int := if es.length > 10 then -1 else sumOf 4 (es.map effectSum)

theorem c_impl_EffectSum (e : Effect) (h1 : e.reads.length ≤ 100000) (h2 : e.writes.length ≤ 100000) : Det Try.prog 150 [.agg (encF1 e)] (.int .i64 (effectSum e)) := by
  refine fspec_det tab_ok Try.call150 Try.func150 rfl 35 Try.ntmps150 (of_decide_eq_true rfl) fun B => codeK_sound tab_ok _ _ _ ?_
  have hcc : [e.reads, e.writes].flatten = e.reads ++ e.writes := by simp
  have hcat := c_Concat (some true) [e.reads, e.writes] (by simp) (by rw [hcc, List.length_append]; omega)
  rw [hcc] at hcat
  obtain ⟨dn, rd, wr⟩ := e
  dsimp only at h1 h2 hcat
  have hl : (rd ++ wr).length = rd.length + wr.length := List.length_append
  have hx : effectL ⟨dn, rd, wr⟩ = (if dn then 1 else 0) :: (rd.length : Int) :: flatE (rd ++ wr) := rfl
  generalize hes : rd ++ wr = es at hcat hl hx
  generalize hd : (if dn then (1 : Int) else 0) = dv at hx
  cases dn
  all_goals (simp (config := { maxSteps := 4000000 }) only [go_sem, simprocAttr, ↓dnA, Try.f150, rows_length, encF1, encF, nn0])
  all_goals refine CallTo.det hcat fun _ => ?_
  all_goals (simp (config := { maxSteps := 4000000 }) only [go_sem, simprocAttr, ↓dnA, Try.f150, rows_length, encF1, encF, nn0])
  all_goals simp only [Bool.false_eq_true, if_false, if_true] at hd
  all_goals
   refine semL_for tab_ok (fun i : Nat => ⟨35, [(3, .row 600 (2 + 2 * i)), (19, .row 20000 es.length), (20, .int .i64 es.length), (21, .int .i64 i)],
      [(20000, .row true false 2 (rows encE es)), (600, .row true true 1 (rows encI (dv :: (rd.length : Int) :: flatE (es.take i))))]⟩) (fun i => es.length - i)
    (fun i => i ≤ es.length) 0 [(20000, 20000), (9, 600)] (Weak.of (by rfl) ?_ ?_ (by rfl)) (by omega) ?_
  · subst hd; simp (config := { maxSteps := 4000000 }) only [go_sem, simprocAttr, ↓dnA, Try.f150, rows_length, frW, wk2, wk1, wkL, wkB, hpW, List.mem_cons, Prod.mk.injEq, exists_eq_left, exists_eq_right, exists_eq]
    rfl
  · simp (config := { maxSteps := 4000000 }) only [go_sem, simprocAttr, ↓dnA, Try.f150, rows_length, frW, wk2, wk1, wkL, wkB, hpW, List.mem_cons, Prod.mk.injEq, exists_eq_left, exists_eq_right, exists_eq]
  · rintro i hi
    by_cases h : i < es.length
    · have hst := flatE_take es i h
      have hw : IntKind.i64.wrap ((i : Int) + 1) = ((i + 1 : Nat) : Int) := wsucc h (by omega)
      have hfl := flatE_len (es.take i)
      rw [List.length_take, show min i es.length = i by omega] at hfl
      generalize flatE (es.take i) = u at hst hfl
      have hlu : (rows encI (dv :: (rd.length : Int) :: u)).length = 2 + 2 * i := by rw [rows_length, List.length_cons, List.length_cons]; omega
      have htk : (rows encI (dv :: (rd.length : Int) :: u)).take (2 + 2 * i) = rows encI (dv :: (rd.length : Int) :: u) := by rw [List.take_of_length_le]; omega
      simp (config := { maxSteps := 4000000 }) only [go_sem, simprocAttr, ↓dnA, Try.f150, rows_length, nlt h, h, rows_get _ _ _ h, encE, nn0, hw, htk, hlu]
      repeat refine And.intro (by first | omega | (simp; done) | (simp; omega) | assumption) ?_
      refine ⟨i + 1, [(20000, 20000), (31, 600)], by omega, by dsimp only; omega, Weak.of (by rfl) ?_ ?_ (by rfl)⟩
      · simp (config := { maxSteps := 4000000 }) only [go_sem, simprocAttr, ↓dnA, Try.f150, rows_length, hst, frW, wk2, wk1, wkL, wkB, hpW, List.mem_cons, Prod.mk.injEq, exists_eq_left, exists_eq_right, exists_eq]
        simp [rows, encI]
      · simp (config := { maxSteps := 4000000 }) only [go_sem, simprocAttr, ↓dnA, Try.f150, rows_length, hst, frW, wk2, wk1, wkL, wkB, hpW, List.mem_cons, Prod.mk.injEq, exists_eq_left, exists_eq_right, exists_eq]
        congr 1
    · have hi' : i = es.length := by omega
      subst hi'
      rw [List.take_length]
      have hfl := flatE_len es
      have hlu : (dv :: (rd.length : Int) :: flatE es).length = 2 + 2 * es.length := by rw [List.length_cons, List.length_cons]; omega
      simp (config := { maxSteps := 4000000 }) only [go_sem, simprocAttr, ↓dnA, Try.f150, rows_length, nlf h, hlu]
      refine CallTo.det (c_impl_SumOf 3 (some true) (dv :: (rd.length : Int) :: flatE es) (by rw [hlu]; omega)) fun _ => ?_
      simp (config := { maxSteps := 4000000 }) only [go_sem, simprocAttr, ↓dnA, Try.f150, rows_length, nlf h, hlu]
      unfold effectSum
      rw [hx]
  · subst hd; simp (config := { maxSteps := 4000000 }) only [go_sem, simprocAttr, ↓dnA, Try.f150, rows_length, frW, wk2, wk1, wkL, wkB, hpW, List.mem_cons, Prod.mk.injEq, exists_eq_left, exists_eq_right, exists_eq]
    rfl
  · simp (config := { maxSteps := 4000000 }) only [go_sem, simprocAttr, ↓dnA, Try.f150, rows_length, frW, wk2, wk1, wkL, wkB, hpW, List.mem_cons, Prod.mk.injEq, exists_eq_left, exists_eq_right, exists_eq]
  · rintro i hi
    by_cases h : i < es.length
    · have hst := flatE_take es i h
      have hw : IntKind.i64.wrap ((i : Int) + 1) = ((i + 1 : Nat) : Int) := wsucc h (by omega)
      have hfl := flatE_len (es.take i)
      rw [List.length_take, show min i es.length = i by omega] at hfl
      generalize flatE (es.take i) = u at hst hfl
      have hlu : (rows encI (dv :: (rd.length : Int) :: u)).length = 2 + 2 * i := by rw [rows_length, List.length_cons, List.length_cons]; omega
      have htk : (rows encI (dv :: (rd.length : Int) :: u)).take (2 + 2 * i) = rows encI (dv :: (rd.length : Int) :: u) := by rw [List.take_of_length_le]; omega
      simp (config := { maxSteps := 4000000 }) only [go_sem, simprocAttr, ↓dnA, Try.f150, rows_length, nlt h, h, rows_get _ _ _ h, encE, nn0, hw, htk, hlu]
      repeat refine And.intro (by first | omega | (simp; done) | (simp; omega) | assumption) ?_
      refine ⟨i + 1, [(20000, 20000), (31, 600)], by omega, by dsimp only; omega, Weak.of (by rfl) ?_ ?_ (by rfl)⟩
      · simp (config := { maxSteps := 4000000 }) only [go_sem, simprocAttr, ↓dnA, Try.f150, rows_length, hst, frW, wk2, wk1, wkL, wkB, hpW, List.mem_cons, Prod.mk.injEq, exists_eq_left, exists_eq_right, exists_eq]
        simp [rows, encI]
      · simp (config := { maxSteps := 4000000 }) only [go_sem, simprocAttr, ↓dnA, Try.f150, rows_length, hst, frW, wk2, wk1, wkL, wkB, hpW, List.mem_cons, Prod.mk.injEq, exists_eq_left, exists_eq_right, exists_eq]
        congr 1
    · have hi' : i = es.length := by omega
      subst hi'
      rw [List.take_length]
      have hfl := flatE_len es
      have hlu : (dv :: (rd.length : Int) :: flatE es).length = 2 + 2 * es.length := by rw [List.length_cons, List.length_cons]; omega
      simp (config := { maxSteps := 4000000 }) only [go_sem, simprocAttr, ↓dnA, Try.f150, rows_length, nlf h, hlu]
      refine CallTo.det (c_impl_SumOf 3 (some true) (dv :: (rd.length : Int) :: flatE es) (by rw [hlu]; omega)) fun _ => ?_
      simp (config := { maxSteps := 4000000 }) only [go_sem, simprocAttr, ↓dnA, Try.f150, rows_length, nlf h, hlu]
      unfold effectSum
      rw [hx]

theorem c_spec_EffectSum (e : Effect) (h1 : e.reads.length ≤ 100000) (h2 : e.writes.length ≤ 100000) : Det Try.prog 153 [.agg (encF1 e)] (.int .i64 (effectSum e)) := by
  refine fspec_det tab_ok Try.call153 Try.func153 rfl 60 Try.ntmps153 (of_decide_eq_true rfl) fun B => codeK_sound tab_ok _ _ _ ?_
  obtain ⟨dn, rd, wr⟩ := e
  dsimp only at h1 h2
  have hx : effectL ⟨dn, rd, wr⟩ = (if dn then 1 else 0) :: (rd.length : Int) :: (flatE rd ++ flatE wr) := by
    show _ :: _ :: flatE (rd ++ wr) = _
    simp [flatE]
  generalize hd : (if dn then (1 : Int) else 0) = dv at hx
  have lr := flatE_len rd
  have lw := flatE_len wr
  cases dn
  all_goals simp only [Bool.false_eq_true, if_false, if_true] at hd
  all_goals (simp (config := { maxSteps := 4000000 }) only [go_sem, simprocAttr, ↓dnA, Try.f153, rows_length, encF1, encF, nn0])
  · refine semL_for tab_ok (fun i : Nat => ⟨60, [(1, .loc 1 0), (3, .row 600 (2 + 2 * i)), (4, .int .i64 i)],
        [(1, .var [.bool false, .sl none (rows encE rd), .sl none (rows encE wr)]), (600, .row true true 1 (rows encI (dv :: (rd.length : Int) :: flatE (rd.take i))))]⟩) (fun i => rd.length - i)
      (fun i => i ≤ rd.length) 0 [(1, 1), (9, 600)] (Weak.of (by rfl) ?_ ?_ (by rfl)) (by omega) ?_
    · subst hd; simp (config := { maxSteps := 4000000 }) only [go_sem, simprocAttr, ↓dnA, Try.f153, rows_length, frW, wk2, wk1, wkL, wkB, hpW, List.mem_cons, Prod.mk.injEq, exists_eq_left, exists_eq_right, exists_eq]
      rfl
    · simp (config := { maxSteps := 4000000 }) only [go_sem, simprocAttr, ↓dnA, Try.f153, rows_length, frW, wk2, wk1, wkL, wkB, hpW, List.mem_cons, Prod.mk.injEq, exists_eq_left, exists_eq_right, exists_eq]
    · rintro i hi
      by_cases h : i < rd.length
      · have hst := flatE_take rd i h
        have hw : IntKind.i64.wrap ((i : Int) + 1) = ((i + 1 : Nat) : Int) := wsucc h (by omega)
        have hfl := flatE_len (rd.take i)
        rw [List.length_take, show min i rd.length = i by omega] at hfl
        generalize flatE (rd.take i) = u at hst hfl
        have hlu : (rows encI (dv :: (rd.length : Int) :: u)).length = 2 + 2 * i := by rw [rows_length, List.length_cons, List.length_cons]; omega
        have htk : (rows encI (dv :: (rd.length : Int) :: u)).take (2 + 2 * i) = rows encI (dv :: (rd.length : Int) :: u) := by rw [List.take_of_length_le]; omega
        simp (config := { maxSteps := 4000000 }) only [go_sem, simprocAttr, ↓dnA, Try.f153, rows_length, nlt h, h, rows_get _ _ _ h, encE, nn0, hw, htk, hlu]
        refine semL_drawL tab_ok 15 mixed_ rfl (ord := [(0, []), (1, []), (2, []), (3, []), (4, []), (5, []), (6, []), (7, []), (8, []), (9, []), (10, []), (11, []), (12, []), (13, [0]), (14, [])]) (by dsimp only; decide +kernel) ?_
        simp (config := { maxSteps := 4000000 }) only [go_sem, simprocAttr, ↓dnA, Try.f153, rows_length, nlt h, h, rows_get _ _ _ h, encE, nn0, hw, htk, hlu]
        repeat refine And.intro (by first | omega | (simp; done) | (simp; omega) | assumption) ?_
        refine ⟨i + 1, [(1, 1), (35, 600)], by omega, by dsimp only; omega, Weak.of (by rfl) ?_ ?_ (by rfl)⟩
        · simp (config := { maxSteps := 4000000 }) only [go_sem, simprocAttr, ↓dnA, Try.f153, rows_length, hst, frW, wk2, wk1, wkL, wkB, hpW, List.mem_cons, Prod.mk.injEq, exists_eq_left, exists_eq_right, exists_eq]
          simp [rows, encI]
        · simp (config := { maxSteps := 4000000 }) only [go_sem, simprocAttr, ↓dnA, Try.f153, rows_length, hst, frW, wk2, wk1, wkL, wkB, hpW, List.mem_cons, Prod.mk.injEq, exists_eq_left, exists_eq_right, exists_eq]
          congr 1
      · have hi' : i = rd.length := by omega
        subst hi'
        rw [List.take_length]
        simp (config := { maxSteps := 4000000 }) only [go_sem, simprocAttr, ↓dnA, Try.f153, rows_length, nlf h]
        refine semL_for tab_ok (fun i : Nat => ⟨60, [(1, .loc 1 0), (3, .row 600 (2 + 2 * rd.length + 2 * i)), (5, .int .i64 i)],
            [(1, .var [.bool false, .sl none (rows encE rd), .sl none (rows encE wr)]), (600, .row true true 1 (rows encI (dv :: (rd.length : Int) :: (flatE rd ++ flatE (wr.take i)))))]⟩) (fun i => wr.length - i)
          (fun i => i ≤ wr.length) 0 [(1, 1), (600, 600)] (Weak.of (by rfl) ?_ ?_ (by rfl)) (by omega) ?_
        · simp (config := { maxSteps := 4000000 }) only [go_sem, simprocAttr, ↓dnA, Try.f153, rows_length, frW, wk2, wk1, wkL, wkB, hpW, List.mem_cons, Prod.mk.injEq, exists_eq_left, exists_eq_right, exists_eq]
          simp [flatE]
        · simp (config := { maxSteps := 4000000 }) only [go_sem, simprocAttr, ↓dnA, Try.f153, rows_length, frW, wk2, wk1, wkL, wkB, hpW, List.mem_cons, Prod.mk.injEq, exists_eq_left, exists_eq_right, exists_eq]
          try rfl
        · rintro i hi
          by_cases h : i < wr.length
          · have hst := flatE_take wr i h
            have hw : IntKind.i64.wrap ((i : Int) + 1) = ((i + 1 : Nat) : Int) := wsucc h (by omega)
            have hfl := flatE_len (wr.take i)
            rw [List.length_take, show min i wr.length = i by omega] at hfl
            generalize flatE (wr.take i) = u at hst hfl
            have hlu : (rows encI (dv :: (rd.length : Int) :: (flatE rd ++ u))).length = 2 + 2 * rd.length + 2 * i := by rw [rows_length, List.length_cons, List.length_cons, List.length_append]; omega
            have htk : (rows encI (dv :: (rd.length : Int) :: (flatE rd ++ u))).take (2 + 2 * rd.length + 2 * i) = rows encI (dv :: (rd.length : Int) :: (flatE rd ++ u)) := by rw [List.take_of_length_le]; omega
            simp (config := { maxSteps := 4000000 }) only [go_sem, simprocAttr, ↓dnA, Try.f153, rows_length, nlt h, h, rows_get _ _ _ h, encE, nn0, hw, htk, hlu]
            refine semL_drawL tab_ok 15 mixed_ rfl (ord := [(0, []), (1, []), (2, []), (3, []), (4, []), (5, []), (6, []), (7, []), (8, []), (9, []), (10, []), (11, []), (12, []), (13, [0]), (14, [])]) (by dsimp only; decide +kernel) ?_
            simp (config := { maxSteps := 4000000 }) only [go_sem, simprocAttr, ↓dnA, Try.f153, rows_length, nlt h, h, rows_get _ _ _ h, encE, nn0, hw, htk, hlu]
            repeat refine And.intro (by first | omega | (simp; done) | (simp; omega) | assumption) ?_
            refine ⟨i + 1, [(1, 1), (57, 600)], by omega, by dsimp only; omega, Weak.of (by rfl) ?_ ?_ (by rfl)⟩
            · simp (config := { maxSteps := 4000000 }) only [go_sem, simprocAttr, ↓dnA, Try.f153, rows_length, hst, frW, wk2, wk1, wkL, wkB, hpW, List.mem_cons, Prod.mk.injEq, exists_eq_left, exists_eq_right, exists_eq]
              simp [rows, encI]
            · simp (config := { maxSteps := 4000000 }) only [go_sem, simprocAttr, ↓dnA, Try.f153, rows_length, hst, frW, wk2, wk1, wkL, wkB, hpW, List.mem_cons, Prod.mk.injEq, exists_eq_left, exists_eq_right, exists_eq]
              congr 1
          · have hi' : i = wr.length := by omega
            subst hi'
            rw [List.take_length]
            have hlu : (dv :: (rd.length : Int) :: (flatE rd ++ flatE wr)).length = 2 + 2 * rd.length + 2 * wr.length := by rw [List.length_cons, List.length_cons, List.length_append]; omega
            simp (config := { maxSteps := 4000000 }) only [go_sem, simprocAttr, ↓dnA, Try.f153, rows_length, nlf h, hlu]
            refine CallTo.det (c_spec_SumOf 3 (some true) (dv :: (rd.length : Int) :: (flatE rd ++ flatE wr)) (by rw [hlu]; omega)) fun _ => ?_
            simp (config := { maxSteps := 4000000 }) only [go_sem, simprocAttr, ↓dnA, Try.f153, rows_length, nlf h, hlu]
            unfold effectSum
            rw [hx]
  · refine semL_for tab_ok (fun i : Nat => ⟨60, [(1, .loc 1 0), (3, .row 600 (2 + 2 * i)), (4, .int .i64 i)],
        [(1, .var [.bool true, .sl none (rows encE rd), .sl none (rows encE wr)]), (600, .row true true 1 (rows encI (dv :: (rd.length : Int) :: flatE (rd.take i))))]⟩) (fun i => rd.length - i)
      (fun i => i ≤ rd.length) 0 [(1, 1), (9, 600)] (Weak.of (by rfl) ?_ ?_ (by rfl)) (by omega) ?_
    · subst hd; simp (config := { maxSteps := 4000000 }) only [go_sem, simprocAttr, ↓dnA, Try.f153, rows_length, frW, wk2, wk1, wkL, wkB, hpW, List.mem_cons, Prod.mk.injEq, exists_eq_left, exists_eq_right, exists_eq]
      rfl
    · simp (config := { maxSteps := 4000000 }) only [go_sem, simprocAttr, ↓dnA, Try.f153, rows_length, frW, wk2, wk1, wkL, wkB, hpW, List.mem_cons, Prod.mk.injEq, exists_eq_left, exists_eq_right, exists_eq]
    · rintro i hi
      by_cases h : i < rd.length
      · have hst := flatE_take rd i h
        have hw : IntKind.i64.wrap ((i : Int) + 1) = ((i + 1 : Nat) : Int) := wsucc h (by omega)
        have hfl := flatE_len (rd.take i)
        rw [List.length_take, show min i rd.length = i by omega] at hfl
        generalize flatE (rd.take i) = u at hst hfl
        have hlu : (rows encI (dv :: (rd.length : Int) :: u)).length = 2 + 2 * i := by rw [rows_length, List.length_cons, List.length_cons]; omega
        have htk : (rows encI (dv :: (rd.length : Int) :: u)).take (2 + 2 * i) = rows encI (dv :: (rd.length : Int) :: u) := by rw [List.take_of_length_le]; omega
        simp (config := { maxSteps := 4000000 }) only [go_sem, simprocAttr, ↓dnA, Try.f153, rows_length, nlt h, h, rows_get _ _ _ h, encE, nn0, hw, htk, hlu]
        refine semL_drawL tab_ok 15 mixed_ rfl (ord := [(0, []), (1, []), (2, []), (3, []), (4, []), (5, []), (6, []), (7, []), (8, []), (9, []), (10, []), (11, []), (12, []), (13, [0]), (14, [])]) (by dsimp only; decide +kernel) ?_
        simp (config := { maxSteps := 4000000 }) only [go_sem, simprocAttr, ↓dnA, Try.f153, rows_length, nlt h, h, rows_get _ _ _ h, encE, nn0, hw, htk, hlu]
        repeat refine And.intro (by first | omega | (simp; done) | (simp; omega) | assumption) ?_
        refine ⟨i + 1, [(1, 1), (35, 600)], by omega, by dsimp only; omega, Weak.of (by rfl) ?_ ?_ (by rfl)⟩
        · simp (config := { maxSteps := 4000000 }) only [go_sem, simprocAttr, ↓dnA, Try.f153, rows_length, hst, frW, wk2, wk1, wkL, wkB, hpW, List.mem_cons, Prod.mk.injEq, exists_eq_left, exists_eq_right, exists_eq]
          simp [rows, encI]
        · simp (config := { maxSteps := 4000000 }) only [go_sem, simprocAttr, ↓dnA, Try.f153, rows_length, hst, frW, wk2, wk1, wkL, wkB, hpW, List.mem_cons, Prod.mk.injEq, exists_eq_left, exists_eq_right, exists_eq]
          congr 1
      · have hi' : i = rd.length := by omega
        subst hi'
        rw [List.take_length]
        simp (config := { maxSteps := 4000000 }) only [go_sem, simprocAttr, ↓dnA, Try.f153, rows_length, nlf h]
        refine semL_for tab_ok (fun i : Nat => ⟨60, [(1, .loc 1 0), (3, .row 600 (2 + 2 * rd.length + 2 * i)), (5, .int .i64 i)],
            [(1, .var [.bool true, .sl none (rows encE rd), .sl none (rows encE wr)]), (600, .row true true 1 (rows encI (dv :: (rd.length : Int) :: (flatE rd ++ flatE (wr.take i)))))]⟩) (fun i => wr.length - i)
          (fun i => i ≤ wr.length) 0 [(1, 1), (600, 600)] (Weak.of (by rfl) ?_ ?_ (by rfl)) (by omega) ?_
        · simp (config := { maxSteps := 4000000 }) only [go_sem, simprocAttr, ↓dnA, Try.f153, rows_length, frW, wk2, wk1, wkL, wkB, hpW, List.mem_cons, Prod.mk.injEq, exists_eq_left, exists_eq_right, exists_eq]
          simp [flatE]
        · simp (config := { maxSteps := 4000000 }) only [go_sem, simprocAttr, ↓dnA, Try.f153, rows_length, frW, wk2, wk1, wkL, wkB, hpW, List.mem_cons, Prod.mk.injEq, exists_eq_left, exists_eq_right, exists_eq]
          try rfl
        · rintro i hi
          by_cases h : i < wr.length
          · have hst := flatE_take wr i h
            have hw : IntKind.i64.wrap ((i : Int) + 1) = ((i + 1 : Nat) : Int) := wsucc h (by omega)
            have hfl := flatE_len (wr.take i)
            rw [List.length_take, show min i wr.length = i by omega] at hfl
            generalize flatE (wr.take i) = u at hst hfl
            have hlu : (rows encI (dv :: (rd.length : Int) :: (flatE rd ++ u))).length = 2 + 2 * rd.length + 2 * i := by rw [rows_length, List.length_cons, List.length_cons, List.length_append]; omega
            have htk : (rows encI (dv :: (rd.length : Int) :: (flatE rd ++ u))).take (2 + 2 * rd.length + 2 * i) = rows encI (dv :: (rd.length : Int) :: (flatE rd ++ u)) := by rw [List.take_of_length_le]; omega
            simp (config := { maxSteps := 4000000 }) only [go_sem, simprocAttr, ↓dnA, Try.f153, rows_length, nlt h, h, rows_get _ _ _ h, encE, nn0, hw, htk, hlu]
            refine semL_drawL tab_ok 15 mixed_ rfl (ord := [(0, []), (1, []), (2, []), (3, []), (4, []), (5, []), (6, []), (7, []), (8, []), (9, []), (10, []), (11, []), (12, []), (13, [0]), (14, [])]) (by dsimp only; decide +kernel) ?_
            simp (config := { maxSteps := 4000000 }) only [go_sem, simprocAttr, ↓dnA, Try.f153, rows_length, nlt h, h, rows_get _ _ _ h, encE, nn0, hw, htk, hlu]
            repeat refine And.intro (by first | omega | (simp; done) | (simp; omega) | assumption) ?_
            refine ⟨i + 1, [(1, 1), (57, 600)], by omega, by dsimp only; omega, Weak.of (by rfl) ?_ ?_ (by rfl)⟩
            · simp (config := { maxSteps := 4000000 }) only [go_sem, simprocAttr, ↓dnA, Try.f153, rows_length, hst, frW, wk2, wk1, wkL, wkB, hpW, List.mem_cons, Prod.mk.injEq, exists_eq_left, exists_eq_right, exists_eq]
              simp [rows, encI]
            · simp (config := { maxSteps := 4000000 }) only [go_sem, simprocAttr, ↓dnA, Try.f153, rows_length, hst, frW, wk2, wk1, wkL, wkB, hpW, List.mem_cons, Prod.mk.injEq, exists_eq_left, exists_eq_right, exists_eq]
              congr 1
          · have hi' : i = wr.length := by omega
            subst hi'
            rw [List.take_length]
            have hlu : (dv :: (rd.length : Int) :: (flatE rd ++ flatE wr)).length = 2 + 2 * rd.length + 2 * wr.length := by rw [List.length_cons, List.length_cons, List.length_append]; omega
            simp (config := { maxSteps := 4000000 }) only [go_sem, simprocAttr, ↓dnA, Try.f153, rows_length, nlf h, hlu]
            refine CallTo.det (c_spec_SumOf 3 (some true) (dv :: (rd.length : Int) :: (flatE rd ++ flatE wr)) (by rw [hlu]; omega)) fun _ => ?_
            simp (config := { maxSteps := 4000000 }) only [go_sem, simprocAttr, ↓dnA, Try.f153, rows_length, nlf h, hlu]
            unfold effectSum
            rw [hx]

def EffOk (es : List Effect) : Prop := ∀ e, e ∈ es → e.reads.length ≤ 100000 ∧ e.writes.length ≤ 100000

theorem c_impl_EffectsSum (n1 : Option Bool) (es : List Effect) (hl : es.length < 2 ^ 32) (hE : EffOk es) : Det Try.prog 84 [.sl n1 (rows encF1 es)] (.int .i64 (effectsSum es)) := by
  refine fspec_det tab_ok Try.call84 Try.func84 rfl 23 Try.ntmps84 (of_decide_eq_true rfl) fun B => codeK_sound tab_ok _ _ _ ?_
  unfold effectsSum
  have hg : decide ((es.length : Int) > 10) = decide (es.length > 10) := by simp; omega
  by_cases h10 : es.length > 10
  · have hd : decide ((es.length : Int) > 10) = true := by rw [hg]; simp [h10]
    simp (config := { maxSteps := 4000000 }) only [go_sem, simprocAttr, ↓dnA, Try.f84, rows_length, hd, h10]
  · have hd : decide ((es.length : Int) > 10) = false := by rw [hg]; simp [h10]
    rw [if_neg h10]
    simp (config := { maxSteps := 4000000 }) only [go_sem, simprocAttr, ↓dnA, Try.f84, rows_length, hd]
    refine semL_nilA 3 600 1 true (by rfl) (by rfl) (by decide) (by decide) ?_
    refine semL_for tab_ok (fun i : Nat => ⟨23, [(3, .row 600 i), (9, .sl n1 (rows encF1 es)), (10, .int .i64 es.length), (11, .int .i64 i)], [(600, .row true false 1 (rows encI ((es.take i).map effectSum)))]⟩) (fun i => es.length - i)
      (fun i => i ≤ es.length) 0 [(600, 600)] (Weak.of (by rfl) ?_ ?_ (by rfl)) (by omega) ?_
    · simp (config := { maxSteps := 4000000 }) only [go_sem, simprocAttr, ↓dnA, Try.f84, rows_length, frW, wk2, wk1, wkL, wkB, hpW, List.mem_cons, Prod.mk.injEq, exists_eq_left, exists_eq_right, exists_eq]
      try rfl
    · simp (config := { maxSteps := 4000000 }) only [go_sem, simprocAttr, ↓dnA, Try.f84, rows_length, frW, wk2, wk1, wkL, wkB, hpW, List.mem_cons, Prod.mk.injEq, exists_eq_left, exists_eq_right, exists_eq]
      try rfl
    · rintro i hi
      by_cases h : i < es.length
      · have hw : IntKind.i64.wrap ((i : Int) + 1) = ((i + 1 : Nat) : Int) := wsucc h (by omega)
        have hst : (es.take (i + 1)).map effectSum = (es.take i).map effectSum ++ [effectSum es[i]] := by rw [take_snoc _ _ h, List.map_append]; rfl
        have hlu : ((es.take i).map effectSum).length = i := by rw [List.length_map, List.length_take]; omega
        have he := hE _ (List.getElem_mem h)
        have hee : encF1 es[i] = [.bool es[i].done, .sl none (rows encE es[i].reads), .sl none (rows encE es[i].writes)] := rfl
        generalize (es.take i).map effectSum = u at hst hlu
        have htk : (rows encI u).take i = rows encI u := by rw [List.take_of_length_le]; rw [rows_length]; omega
        simp (config := { maxSteps := 4000000 }) only [go_sem, simprocAttr, ↓dnA, Try.f84, rows_length, nlt h, h, rows_get _ _ _ h, hee, nn0, hw, htk, hlu]
        refine CallTo.det (c_impl_EffectSum es[i] he.1 he.2) fun _ => ?_
        simp (config := { maxSteps := 4000000 }) only [go_sem, simprocAttr, ↓dnA, Try.f84, rows_length, nlt h, h, rows_get _ _ _ h, hee, nn0, hw, htk, hlu]
        repeat refine And.intro (by first | omega | (simp; done) | (simp; omega) | assumption) ?_
        refine ⟨i + 1, [(19, 600)], by omega, by dsimp only; omega, Weak.of (by rfl) ?_ ?_ (by rfl)⟩
        · simp (config := { maxSteps := 4000000 }) only [go_sem, simprocAttr, ↓dnA, Try.f84, rows_length, hst, frW, wk2, wk1, wkL, wkB, hpW, List.mem_cons, Prod.mk.injEq, exists_eq_left, exists_eq_right, exists_eq]
          simp [rows, encI]
        · simp (config := { maxSteps := 4000000 }) only [go_sem, simprocAttr, ↓dnA, Try.f84, rows_length, hst, frW, wk2, wk1, wkL, wkB, hpW, List.mem_cons, Prod.mk.injEq, exists_eq_left, exists_eq_right, exists_eq]
      · have hi' : i = es.length := by omega
        subst hi'
        rw [List.take_length]
        have hlu : (es.map effectSum).length = es.length := List.length_map ..
        simp (config := { maxSteps := 4000000 }) only [go_sem, simprocAttr, ↓dnA, Try.f84, rows_length, nlf h, hlu]
        refine CallTo.det (c_impl_SumOf 4 none (es.map effectSum) (by rw [hlu]; omega)) fun _ => ?_
        simp (config := { maxSteps := 4000000 }) only [go_sem, simprocAttr, ↓dnA, Try.f84, rows_length, nlf h, hlu]

theorem c_spec_EffectsSum (n1 : Option Bool) (es : List Effect) (hl : es.length < 2 ^ 32) (hE : EffOk es) : Det Try.prog 89 [.sl n1 (rows encF1 es)] (.int .i64 (effectsSum es)) := by
  refine fspec_det tab_ok Try.call89 Try.func89 rfl 25 Try.ntmps89 (of_decide_eq_true rfl) fun B => codeK_sound tab_ok _ _ _ ?_
  unfold effectsSum
  have hg : decide ((es.length : Int) > 10) = decide (es.length > 10) := by simp; omega
  simp (config := { maxSteps := 4000000 }) only [go_sem, simprocAttr, ↓dnA, Try.f89, rows_length]
  refine semL_for tab_ok (fun i : Nat => ⟨25, [(0, .sl n1 (rows encF1 es)), (3, .row 600 i), (4, .int .i64 i)], [(600, .row true true 1 (rows encI ((es.take i).map effectSum)))]⟩) (fun i => es.length - i)
    (fun i => i ≤ es.length) 0 [(5, 600)] (Weak.of (by rfl) ?_ ?_ (by rfl)) (by omega) ?_
  · simp (config := { maxSteps := 4000000 }) only [go_sem, simprocAttr, ↓dnA, Try.f89, rows_length, frW, wk2, wk1, wkL, wkB, hpW, List.mem_cons, Prod.mk.injEq, exists_eq_left, exists_eq_right, exists_eq]
    try rfl
  · simp (config := { maxSteps := 4000000 }) only [go_sem, simprocAttr, ↓dnA, Try.f89, rows_length, frW, wk2, wk1, wkL, wkB, hpW, List.mem_cons, Prod.mk.injEq, exists_eq_left, exists_eq_right, exists_eq]
    try rfl
  · rintro i hi
    by_cases h : i < es.length
    · have hw : IntKind.i64.wrap ((i : Int) + 1) = ((i + 1 : Nat) : Int) := wsucc h (by omega)
      have hst : (es.take (i + 1)).map effectSum = (es.take i).map effectSum ++ [effectSum es[i]] := by rw [take_snoc _ _ h, List.map_append]; rfl
      have hlu : ((es.take i).map effectSum).length = i := by rw [List.length_map, List.length_take]; omega
      have he := hE _ (List.getElem_mem h)
      have hee : encF1 es[i] = [.bool es[i].done, .sl none (rows encE es[i].reads), .sl none (rows encE es[i].writes)] := rfl
      generalize (es.take i).map effectSum = u at hst hlu
      have htk : (rows encI u).take i = rows encI u := by rw [List.take_of_length_le]; rw [rows_length]; omega
      simp (config := { maxSteps := 4000000 }) only [go_sem, simprocAttr, ↓dnA, Try.f89, rows_length, nlt h, h, rows_get _ _ _ h, hee, nn0, hw, htk, hlu]
      refine CallTo.det (c_spec_EffectSum es[i] he.1 he.2) fun _ => ?_
      simp (config := { maxSteps := 4000000 }) only [go_sem, simprocAttr, ↓dnA, Try.f89, rows_length, nlt h, h, rows_get _ _ _ h, hee, nn0, hw, htk, hlu]
      repeat refine And.intro (by first | omega | (simp; done) | (simp; omega) | assumption) ?_
      refine ⟨i + 1, [(19, 600)], by omega, by dsimp only; omega, Weak.of (by rfl) ?_ ?_ (by rfl)⟩
      · simp (config := { maxSteps := 4000000 }) only [go_sem, simprocAttr, ↓dnA, Try.f89, rows_length, hst, frW, wk2, wk1, wkL, wkB, hpW, List.mem_cons, Prod.mk.injEq, exists_eq_left, exists_eq_right, exists_eq]
        simp [rows, encI]
      · simp (config := { maxSteps := 4000000 }) only [go_sem, simprocAttr, ↓dnA, Try.f89, rows_length, hst, frW, wk2, wk1, wkL, wkB, hpW, List.mem_cons, Prod.mk.injEq, exists_eq_left, exists_eq_right, exists_eq]
    · have hi' : i = es.length := by omega
      subst hi'
      rw [List.take_length]
      have hlu : (es.map effectSum).length = es.length := List.length_map ..
      by_cases h10 : es.length > 10
      · have hd : decide ((es.length : Int) > 10) = true := by rw [hg]; simp [h10]
        rw [if_pos h10]
        simp (config := { maxSteps := 4000000 }) only [go_sem, simprocAttr, ↓dnA, Try.f89, rows_length, nlf h, hlu, hd]
      · have hd : decide ((es.length : Int) > 10) = false := by rw [hg]; simp [h10]
        rw [if_neg h10]
        simp (config := { maxSteps := 4000000 }) only [go_sem, simprocAttr, ↓dnA, Try.f89, rows_length, nlf h, hlu, hd]
        refine CallTo.det (c_spec_SumOf 4 _ (es.map effectSum) (by rw [hlu]; omega)) fun _ => ?_
        simp (config := { maxSteps := 4000000 }) only [go_sem, simprocAttr, ↓dnA, Try.f89, rows_length, nlf h, hlu, hd]

end Go.Proofs.Ytmibclbinebnjaa

/- Contracts: the block behind a block. -/
set_option linter.unusedSimpArgs false
set_option linter.unusedVariables false
set_option maxRecDepth 20000
set_option maxHeartbeats 4000000
namespace Go.Proofs.Ytmibclbinebnjaa
open Go Go.RowKit

/-- The block behind a block. -/
def nextBlock (b : Block) (s : List Entry) (v : Int) (l : List Action) : Block × Bool :=
  if blockValid b && (b.height != 100) && storeValid s && inB v (b.view + 1) 1000 && actionsValid l then (⟨blockSum b, b.height + 1, v, l, rootOf (runSerial s l).1, effectsSum (runSerial s l).2⟩, true) else (⟨0, 0, 0, [], 0, 0⟩, false)

theorem nextBlock_len (b : Block) (s : List Entry) (v : Int) (l : List Action) : (nextBlock b s v l).1.list.length ≤ l.length := by
  unfold nextBlock
  split
  · exact Nat.le_refl _
  · simp

theorem runE_rlen (a : Action) (v : List Int) : (runE a v).reads.length ≤ 2 := by
  show ((readsA a).map _).length ≤ 2
  rw [List.length_map]; exact readsA_len _

theorem runAllE_effOk (v : List Int) (l : List Action) : ∀ i, i ≤ l.length → EffOk (runAllE v (l.take i)).2
  | 0, _ => fun e he => by simp [runAllE] at he
  | i + 1, hi => by
    have ih := runAllE_effOk v l i (by omega)
    rw [runAllE_take _ _ _ (by omega)]
    intro e he
    unfold stepR at he
    rcases List.mem_append.1 he with he | he
    · exact ih e he
    · rw [List.mem_singleton.1 he]
      have h1 := runE_rlen l[i] (runAllE v (l.take i)).1
      have h2 := runE_wlen l[i] (runAllE v (l.take i)).1
      omega

theorem runSerial_ok {s : List Entry} {l : List Action} (h1 : storeValid s = true) (h2 : actionsValid l = true) : storeValid (runSerial s l).1 = true ∧ (runSerial s l).2.length = l.length ∧ EffOk (runSerial s l).2 := by
  obtain ⟨ha, h10⟩ := actionsValid_ok h2
  have hV := valuesL_ok h1
  have hO := runAllE_ok ha hV l.length (Nat.le_refl _)
  have hE := runAllE_effOk (valuesL s) l l.length (Nat.le_refl _)
  rw [List.take_length] at hO hE
  unfold runSerial
  rw [h1, h2]
  exact ⟨storeL_valid hO.1, hO.2, hE⟩

theorem blockValid_bd {b : Block} (h : blockValid b = true) : (0 ≤ b.height ∧ b.height ≤ 100) ∧ (0 ≤ b.view ∧ b.view ≤ 1000) ∧ b.list.length ≤ 10 := by
  unfold blockValid at h
  simp only [Bool.and_eq_true] at h
  obtain ⟨⟨⟨⟨⟨_, _⟩, _⟩, h4⟩, h5⟩, h6⟩ := h
  exact ⟨inB_iff.1 h4, inB_iff.1 h5, (actionsValid_ok h6).2⟩

theorem c_impl_NextBlock (n n1 n2 : Option Bool) (b : Block) (s : List Entry) (v : Int) (l : List Action) (hb : b.list.length < 2 ^ 32) (hs : s.length < 2 ^ 32) (hl : l.length < 2 ^ 32) :
    Det Try.prog 28 [.agg (encBk n b), .sl n1 (rows encE s), .int .i64 v, .sl n2 (rows encA l)] (.tup [.agg (encBkF (nextBlock b s v l).1), .bool (nextBlock b s v l).2]) := by
  refine fspec_det tab_ok Try.call28 Try.func28 rfl 58 Try.ntmps28 (of_decide_eq_true rfl) fun B => codeK_sound tab_ok _ _ _ ?_
  unfold nextBlock
  simp (config := { maxSteps := 4000000 }) only [go_sem, simprocAttr, ↓dnA, Try.f28, rows_length, encBk]
  refine CallTo.det (c_impl_BlockValid n b (by omega)) fun _ => ?_
  cases h1 : blockValid b with
  | false => simp (config := { maxSteps := 4000000 }) only [go_sem, simprocAttr, ↓dnA, Try.f28, rows_length, encBk, encBkF, h1, rows_nil]
  | true =>
    obtain ⟨b1, b2, b3⟩ := blockValid_bd h1
    cases h2 : (b.height == 100) with
    | true =>
      have h2' : (b.height != 100) = false := by simpa using h2
      simp (config := { maxSteps := 4000000 }) only [go_sem, simprocAttr, ↓dnA, Try.f28, rows_length, encBk, encBkF, h1, h2, h2', rows_nil]
    | false =>
      have h2' : (b.height != 100) = true := by simpa using h2
      simp (config := { maxSteps := 4000000 }) only [go_sem, simprocAttr, ↓dnA, Try.f28, rows_length, encBk, encBkF, h1, h2, h2', rows_nil]
      refine CallTo.det (c_impl_StoreValid n1 s (by omega)) fun _ => ?_
      cases h3 : storeValid s with
      | false => simp (config := { maxSteps := 4000000 }) only [go_sem, simprocAttr, ↓dnA, Try.f28, rows_length, encBk, encBkF, h1, h2, h2', h3, rows_nil]
      | true =>
        have hw : IntKind.i64.wrap (b.view + 1) = b.view + 1 := wrap_small _ (by omega) (by omega)
        simp (config := { maxSteps := 4000000 }) only [go_sem, simprocAttr, ↓dnA, Try.f28, rows_length, encBk, encBkF, h1, h2, h2', h3, hw, rows_nil]
        refine CallTo.det (c_in _ _ _) fun _ => ?_
        cases h4 : inB v (b.view + 1) 1000 with
        | false => simp (config := { maxSteps := 4000000 }) only [go_sem, simprocAttr, ↓dnA, Try.f28, rows_length, encBk, encBkF, h1, h2, h2', h3, h4, hw, rows_nil]
        | true =>
          simp (config := { maxSteps := 4000000 }) only [go_sem, simprocAttr, ↓dnA, Try.f28, rows_length, encBk, encBkF, h1, h2, h2', h3, h4, hw, rows_nil]
          refine CallTo.det (c_impl_ActionsValid n2 l (by omega)) fun _ => ?_
          cases h5 : actionsValid l with
          | false => simp (config := { maxSteps := 4000000 }) only [go_sem, simprocAttr, ↓dnA, Try.f28, rows_length, encBk, encBkF, h1, h2, h2', h3, h4, h5, hw, rows_nil]
          | true =>
            obtain ⟨r1, r2, r3⟩ := runSerial_ok h3 h5
            obtain ⟨_, h10⟩ := actionsValid_ok h5
            have r4 := store_len r1
            simp (config := { maxSteps := 4000000 }) only [go_sem, simprocAttr, ↓dnA, Try.f28, rows_length, encBk, encBkF, h1, h2, h2', h3, h4, h5, hw, rows_nil]
            refine CallTo.det (c_impl_RunSerial n1 n2 s l hs hl) fun _ => ?_
            generalize runSerial s l = p at r1 r2 r3 r4
            obtain ⟨s', es⟩ := p
            dsimp only at r1 r2 r3 r4 ⊢
            simp (config := { maxSteps := 4000000 }) only [go_sem, simprocAttr, ↓dnA, Try.f28, rows_length, encBk, encBkF, h1, h2, h2', h3, h4, h5, hw, rows_nil]
            refine semL_draw tab_ok mixed_ rfl (ord := [(0, []), (2, []), (3, []), (4, []), (5, []), (6, []), (7, []), (9, []), (1, [2, 3, 4, 5, 6, 7, 9]), (8, [2, 3, 4, 5, 6, 9]), (10, [2, 3, 4, 5, 6]), (11, []), (12, []), (13, []), (14, [])]) (by dsimp only; decide +kernel) ?_
            have w1 : IntKind.i64.wrap (b.height + 1) = b.height + 1 := wrap_small _ (by omega) (by omega)
            simp (config := { maxSteps := 4000000 }) only [go_sem, simprocAttr, ↓dnA, Try.f28, rows_length, encBk, w1]
            refine CallTo.det (c_impl_BlockSum n b (by omega)) fun _ => ?_
            simp (config := { maxSteps := 4000000 }) only [go_sem, simprocAttr, ↓dnA, Try.f28, rows_length, encBk, w1]
            refine CallTo.det (c_impl_RootOf none s' (by omega)) fun _ => ?_
            simp (config := { maxSteps := 4000000 }) only [go_sem, simprocAttr, ↓dnA, Try.f28, rows_length, encBk, w1]
            refine CallTo.det (c_impl_EffectsSum none es (by omega) r3) fun _ => ?_
            simp (config := { maxSteps := 4000000 }) only [go_sem, simprocAttr, ↓dnA, Try.f28, rows_length, encBk, w1]
            refine CallTo.det (c_impl_Block_clone n2 ⟨blockSum b, b.height + 1, v, l, rootOf s', effectsSum es⟩ hl) fun _ => ?_
            simp (config := { maxSteps := 4000000 }) only [go_sem, simprocAttr, ↓dnA, Try.f28, rows_length, encBk, encBkF, w1, h2']

theorem c_spec_NextBlock (n n1 n2 : Option Bool) (b : Block) (s : List Entry) (v : Int) (l : List Action) (hb : b.list.length < 2 ^ 32) (hs : s.length < 2 ^ 32) (hl : l.length < 2 ^ 32) :
    Det Try.prog 29 [.agg (encBk n b), .sl n1 (rows encE s), .int .i64 v, .sl n2 (rows encA l)] (.tup [.agg (encBkF (nextBlock b s v l).1), .bool (nextBlock b s v l).2]) := by
  refine fspec_det tab_ok Try.call29 Try.func29 rfl 59 Try.ntmps29 (of_decide_eq_true rfl) fun B => codeK_sound tab_ok _ _ _ ?_
  unfold nextBlock
  simp (config := { maxSteps := 4000000 }) only [go_sem, simprocAttr, ↓dnA, Try.f29, rows_length, encBk]
  refine CallTo.det (c_spec_BlockValid n b (by omega)) fun _ => ?_
  cases h1 : blockValid b with
  | false => simp (config := { maxSteps := 4000000 }) only [go_sem, simprocAttr, ↓dnA, Try.f29, rows_length, encBk, encBkF, h1, rows_nil]
  | true =>
    obtain ⟨b1, b2, b3⟩ := blockValid_bd h1
    cases h2 : (b.height == 100) with
    | true =>
      have h2' : (b.height != 100) = false := by simpa using h2
      simp (config := { maxSteps := 4000000 }) only [go_sem, simprocAttr, ↓dnA, Try.f29, rows_length, encBk, encBkF, h1, h2, h2', rows_nil]
    | false =>
      have h2' : (b.height != 100) = true := by simpa using h2
      simp (config := { maxSteps := 4000000 }) only [go_sem, simprocAttr, ↓dnA, Try.f29, rows_length, encBk, encBkF, h1, h2, h2', rows_nil]
      refine CallTo.det (c_spec_StoreValid n1 s (by omega)) fun _ => ?_
      cases h3 : storeValid s with
      | false => simp (config := { maxSteps := 4000000 }) only [go_sem, simprocAttr, ↓dnA, Try.f29, rows_length, encBk, encBkF, h1, h2, h2', h3, rows_nil]
      | true =>
        have hw : IntKind.i64.wrap (b.view + 1) = b.view + 1 := wrap_small _ (by omega) (by omega)
        simp (config := { maxSteps := 4000000 }) only [go_sem, simprocAttr, ↓dnA, Try.f29, rows_length, encBk, encBkF, h1, h2, h2', h3, hw, rows_nil]
        refine CallTo.det (c_l1In _ _ _) fun _ => ?_
        cases h4 : inB v (b.view + 1) 1000 with
        | false => simp (config := { maxSteps := 4000000 }) only [go_sem, simprocAttr, ↓dnA, Try.f29, rows_length, encBk, encBkF, h1, h2, h2', h3, h4, hw, rows_nil]
        | true =>
          simp (config := { maxSteps := 4000000 }) only [go_sem, simprocAttr, ↓dnA, Try.f29, rows_length, encBk, encBkF, h1, h2, h2', h3, h4, hw, rows_nil]
          refine CallTo.det (c_spec_ActionsValid n2 l (by omega)) fun _ => ?_
          cases h5 : actionsValid l with
          | false => simp (config := { maxSteps := 4000000 }) only [go_sem, simprocAttr, ↓dnA, Try.f29, rows_length, encBk, encBkF, h1, h2, h2', h3, h4, h5, hw, rows_nil]
          | true =>
            obtain ⟨r1, r2, r3⟩ := runSerial_ok h3 h5
            obtain ⟨_, h10⟩ := actionsValid_ok h5
            have r4 := store_len r1
            simp (config := { maxSteps := 4000000 }) only [go_sem, simprocAttr, ↓dnA, Try.f29, rows_length, encBk, encBkF, h1, h2, h2', h3, h4, h5, hw, rows_nil]
            refine CallTo.det (c_spec_RunSerial n1 n2 s l hs hl) fun _ => ?_
            generalize runSerial s l = p at r1 r2 r3 r4
            obtain ⟨s', es⟩ := p
            dsimp only at r1 r2 r3 r4 ⊢
            simp (config := { maxSteps := 4000000 }) only [go_sem, simprocAttr, ↓dnA, Try.f29, rows_length, encBk, encBkF, h1, h2, h2', h3, h4, h5, hw, rows_nil]
            refine semL_draw tab_ok mixed_ rfl (ord := [(0, []), (2, []), (3, []), (4, []), (5, []), (7, []), (9, []), (11, []), (1, [2, 3, 4, 5, 7, 9, 11]), (6, [0, 2, 3, 4, 5, 7, 9, 11]), (8, [2, 3, 4, 5, 9, 11]), (10, [2, 3, 4, 5, 11]), (12, [2, 3, 4, 5]), (13, []), (14, []), (15, [])]) (by dsimp only; decide +kernel) ?_
            have a1 := all_rows encA AV.flat (fun _ => rfl) l
            have a2 := all_rows encA AV.one (fun _ => rfl) l
            have a3 := sz0_rows encA 4 (fun _ => rfl) l
            have w1 : IntKind.i64.wrap (b.height + 1) = b.height + 1 := wrap_small _ (by omega) (by omega)
            simp (config := { maxSteps := 4000000 }) only [go_sem, simprocAttr, ↓dnA, Try.f29, rows_length, encBk, w1]
            refine CallTo.det (c_spec_BlockSum n b (by omega)) fun _ => ?_
            simp (config := { maxSteps := 4000000 }) only [go_sem, simprocAttr, ↓dnA, Try.f29, rows_length, encBk, w1]
            repeat refine And.intro (by first | omega | (simp; done) | (simp; omega) | assumption) ?_
            refine CallTo.det (c_spec_RootOf _ s' (by omega)) fun _ => ?_
            simp (config := { maxSteps := 4000000 }) only [go_sem, simprocAttr, ↓dnA, Try.f29, rows_length, encBk, w1]
            refine CallTo.det (c_spec_EffectsSum _ es (by omega) r3) fun _ => ?_
            simp (config := { maxSteps := 4000000 }) only [go_sem, simprocAttr, ↓dnA, Try.f29, rows_length, encBk, encBkF, w1, h2']

end Go.Proofs.Ytmibclbinebnjaa

/- Contracts: putting blocks, growing trees. -/
set_option linter.unusedSimpArgs false
set_option linter.unusedVariables false
set_option maxRecDepth 20000
set_option maxHeartbeats 4000000
namespace Go.Proofs.Ytmibclbinebnjaa
open Go Go.RowKit

def putT (t : Tree) (b : Block) : Tree := ⟨t.base, t.blocks ++ [b], t.before ++ [findB t.blocks b.before]⟩
open Classical in
noncomputable def putBlock (t : Tree) (b : Block) : Tree × Bool := if treeValid t then (if treeValid (putT t b) then (putT t b, true) else (t, false)) else (⟨[], [], []⟩, false)

theorem c_impl_PutBlock (n n1 n2 n3 : Option Bool) (t : Tree) (b : Block) (hx : TreeS32 t) (hb : b.list.length < 2 ^ 32) :
    Det Try.prog 35 [.agg (encT n1 n2 n3 t), .agg (encBk n b)] (.tup [.agg (encTF (putBlock t b).1), .bool (putBlock t b).2]) := by
  refine fspec_det tab_ok Try.call35 Try.func35 rfl 35 Try.ntmps35 (of_decide_eq_true rfl) fun B => codeK_sound tab_ok _ _ _ ?_
  unfold putBlock
  simp (config := { maxSteps := 4000000 }) only [go_sem, simprocAttr, ↓dnA, Try.f35, rows_length, encT, encBk]
  refine CallTo.det (c_impl_BlockTreeValid n1 n2 n3 t hx.sz) fun _ => ?_
  cases h1 : treeValid t with
  | false => simp (config := { maxSteps := 4000000 }) only [go_sem, simprocAttr, ↓dnA, Try.f35, rows_length, encT, encTF, h1, rows_nil]
  | true =>
    have ht := treeOk_of h1
    have hlen := ht.len
    have hbl := ht.bef
    simp (config := { maxSteps := 4000000 }) only [go_sem, simprocAttr, ↓dnA, Try.f35, rows_length, encT, encBk, h1]
    refine CallTo.det (c_impl_Tree_clone n1 n2 n3 t hx) fun _ => ?_
    simp (config := { maxSteps := 4000000 }) only [go_sem, simprocAttr, ↓dnA, Try.f35, rows_length, encT, encTF, encBk, h1]
    refine semL_draw tab_ok mixed_ rfl (ord := [(0, []), (1, []), (2, []), (3, [0, 1]), (4, [0, 1]), (5, []), (6, []), (7, [])]) (by dsimp only; decide +kernel) ?_
    simp (config := { maxSteps := 4000000 }) only [go_sem, simprocAttr, ↓dnA, Try.f35, rows_length, encT, encBk, h1]
    refine CallTo.det (c_impl_Block_clone n b hb) fun _ => ?_
    have tk1 : (rows encB1 t.blocks).take t.blocks.length = rows encB1 t.blocks := by rw [List.take_of_length_le]; rw [rows_length]; omega
    have tk2 : (rows encI t.before).take t.before.length = rows encI t.before := by rw [List.take_of_length_le]; rw [rows_length]; omega
    simp (config := { maxSteps := 4000000 }) only [go_sem, simprocAttr, ↓dnA, Try.f35, rows_length, encT, encBk, encBkF, h1, tk1]
    repeat refine And.intro (by first | omega | (simp; done) | (simp; omega) | assumption) ?_
    refine semL_draw tab_ok mixed_ rfl (ord := [(0, []), (1, []), (2, []), (3, []), (4, []), (5, [0, 1]), (6, [0, 1]), (7, []), (8, []), (9, [])]) (by dsimp only; decide +kernel) ?_
    simp (config := { maxSteps := 4000000 }) only [go_sem, simprocAttr, ↓dnA, Try.f35, rows_length, encT, encBk, h1]
    refine CallTo.det (c_impl_find n1 n2 n3 t b.before hx.sz) fun _ => ?_
    have e1 : rows encB1 t.blocks ++ [[AV.int IntKind.i64 b.before, AV.int IntKind.i64 b.height, AV.int IntKind.i64 b.view, AV.sl none (rows encA b.list), AV.int IntKind.i64 b.root, AV.int IntKind.i64 b.effects]] = rows encB1 (t.blocks ++ [b]) := by
      rw [← rows_snoc]; rfl
    have e2 : rows encI t.before ++ [[AV.int IntKind.i64 (findB t.blocks b.before)]] = rows encI (t.before ++ [findB t.blocks b.before]) := by
      rw [← rows_snoc]; rfl
    have l1 : (t.blocks ++ [b]).length = t.blocks.length + 1 := by simp
    have l2 : (t.before ++ [findB t.blocks b.before]).length = t.before.length + 1 := by simp
    have hu : TreeSz (putT t b) := ⟨hx.sz.base, by show (t.blocks ++ [b]).length < _; rw [l1]; omega, by show (t.before ++ [findB t.blocks b.before]).length < _; rw [l2]; omega, fun c hc => by
      rcases List.mem_append.1 hc with e | e
      · exact hx.sz.list c e
      · rw [List.mem_singleton.1 e]; omega⟩
    have hv := c_impl_BlockTreeValid none (some true) (some true) (putT t b) hu
    have hf : encTF (putT t b) = [.osl false 2 (rows encE t.base), .osl false 6 (rows encB1 (t.blocks ++ [b])), .osl false 1 (rows encI (t.before ++ [findB t.blocks b.before]))] := rfl
    simp (config := { maxSteps := 4000000 }) only [go_sem, simprocAttr, ↓dnA, Try.f35, rows_length, encT, encBk, h1, tk2, e1, e2, l1, l2]
    repeat refine And.intro (by first | omega | (simp; done) | (simp; omega) | assumption) ?_
    refine CallTo.det hv fun _ => ?_
    cases h2 : treeValid (putT t b) with
    | false =>
      simp (config := { maxSteps := 4000000 }) only [go_sem, simprocAttr, ↓dnA, Try.f35, rows_length, encT, encBk, h1, h2]
      refine CallTo.det (c_impl_Tree_clone n1 n2 n3 t hx) fun _ => ?_
      simp (config := { maxSteps := 4000000 }) only [go_sem, simprocAttr, ↓dnA, Try.f35, rows_length, encT, encTF, h1, h2]
    | true =>
      simp (config := { maxSteps := 4000000 }) only [go_sem, simprocAttr, ↓dnA, Try.f35, rows_length, encT, encBk, h1, h2, hf, tk2, e1, e2, l1, l2]

open Classical in
/-- A tree with the block behind the block n, of actions on the store there. -/
noncomputable def growTree (t : Tree) (n v : Int) (l : List Action) : Tree × Bool :=
  if treeValid t then (if inB n 0 ((t.blocks.length : Int) - 1) then (if (nextBlock (t.blk n.toNat) (storeOf t n) v l).2 then putBlock t (nextBlock (t.blk n.toNat) (storeOf t n) v l).1 else (t, false)) else (t, false)) else (⟨[], [], []⟩, false)

theorem c_impl_GrowTree (n0 n1 n2 n3 : Option Bool) (t : Tree) (n v : Int) (l : List Action) (hx : TreeS32 t) (hl : l.length < 2 ^ 32) :
    Det Try.prog 18 [.agg (encT n1 n2 n3 t), .int .i64 n, .int .i64 v, .sl n0 (rows encA l)] (.tup [.agg (encTF (growTree t n v l).1), .bool (growTree t n v l).2]) := by
  refine fspec_det tab_ok Try.call18 Try.func18 rfl 45 Try.ntmps18 (of_decide_eq_true rfl) fun B => codeK_sound tab_ok _ _ _ ?_
  unfold growTree
  simp (config := { maxSteps := 4000000 }) only [go_sem, simprocAttr, ↓dnA, Try.f18, rows_length, encT]
  refine CallTo.det (c_impl_BlockTreeValid n1 n2 n3 t hx.sz) fun _ => ?_
  cases h1 : treeValid t with
  | false => simp (config := { maxSteps := 4000000 }) only [go_sem, simprocAttr, ↓dnA, Try.f18, rows_length, encT, encTF, h1, rows_nil]
  | true =>
    have ht := treeOk_of h1
    have hlen := ht.len
    simp (config := { maxSteps := 4000000 }) only [go_sem, simprocAttr, ↓dnA, Try.f18, rows_length, encT, h1]
    refine CallTo.det (c_impl_has n1 n2 n3 t n hx.sz) fun _ => ?_
    cases h2 : inB n 0 ((t.blocks.length : Int) - 1) with
    | false =>
      simp (config := { maxSteps := 4000000 }) only [go_sem, simprocAttr, ↓dnA, Try.f18, rows_length, encT, h1, h2]
      refine CallTo.det (c_impl_Tree_clone n1 n2 n3 t hx) fun _ => ?_
      simp (config := { maxSteps := 4000000 }) only [go_sem, simprocAttr, ↓dnA, Try.f18, rows_length, encT, encTF, h1, h2]
    | true =>
      have hb := inB_iff.1 h2
      obtain ⟨k, hk⟩ : ∃ k : Nat, n = (k : Int) := ⟨n.toNat, by omega⟩
      subst hk
      have hkl : k < t.blocks.length := by omega
      have hbk := t.blk_get k hkl
      have hbl := hx.list _ (List.getElem_mem hkl)
      rw [hbk] at hbl
      have hso : (storeOf t (k : Int)).length ≤ 32 := by
        have := store_len (storeL_valid (afterV_ok ht (n := (k : Int)) (by omega)))
        unfold storeOf
        rw [h1, h2]
        exact this
      rw [Int.toNat_natCast]
      simp (config := { maxSteps := 4000000 }) only [go_sem, simprocAttr, ↓dnA, Try.f18, rows_length, encT, h1, h2]
      refine semL_draw tab_ok mixed_ rfl (ord := [(0, []), (1, []), (2, []), (3, []), (4, []), (5, []), (6, []), (8, []), (9, []), (7, [0, 1, 2, 3, 4, 8, 9]), (10, []), (11, []), (12, []), (13, []), (14, [0, 1, 2, 3, 4, 5, 6, 8, 9, 11, 12, 13]), (15, [13]), (16, [])]) (by dsimp only; decide +kernel) ?_
      simp (config := { maxSteps := 4000000 }) only [go_sem, simprocAttr, ↓dnA, Try.f18, rows_length, encT, h1, h2, nlt hkl, hkl, rows_get _ _ _ hkl, hbk, encB1, encBk, nn0]
      refine CallTo.det (c_impl_StoreOf n1 n2 n3 t k hx.sz) fun _ => ?_
      simp (config := { maxSteps := 4000000 }) only [go_sem, simprocAttr, ↓dnA, Try.f18, rows_length, encT, h1, h2, nlt hkl, hkl, rows_get _ _ _ hkl, hbk, encB1, encBk, nn0]
      have hpl := nextBlock_len (t.blk k) (storeOf t k) v l
      refine CallTo.det (c_impl_NextBlock none none n0 (t.blk k) (storeOf t k) v l hbl (by omega) hl) fun _ => ?_
      generalize nextBlock (t.blk k) (storeOf t k) v l = p at hpl
      obtain ⟨nb, ok⟩ := p
      dsimp only at hpl ⊢
      cases ok with
      | false =>
        simp (config := { maxSteps := 4000000 }) only [go_sem, simprocAttr, ↓dnA, Try.f18, rows_length, encT, h1, h2, nlt hkl, hkl, rows_get _ _ _ hkl, hbk, encB1, encBk, encBkF, nn0]
        refine CallTo.det (c_impl_Tree_clone n1 n2 n3 t hx) fun _ => ?_
        simp (config := { maxSteps := 4000000 }) only [go_sem, simprocAttr, ↓dnA, Try.f18, rows_length, encT, encTF, h1, h2, encBkF]
      | true =>
        simp (config := { maxSteps := 4000000 }) only [go_sem, simprocAttr, ↓dnA, Try.f18, rows_length, encT, h1, h2, nlt hkl, hkl, rows_get _ _ _ hkl, hbk, encB1, encBk, encBkF, nn0]
        refine CallTo.det (c_impl_PutBlock none n1 n2 n3 t nb hx (by omega)) fun _ => ?_
        simp (config := { maxSteps := 4000000 }) only [go_sem, simprocAttr, ↓dnA, Try.f18, rows_length, encT, encTF, h1, h2, encBkF]

end Go.Proofs.Ytmibclbinebnjaa

/- Trees that grow from one store: plain lemmas. -/
set_option linter.unusedSimpArgs false
set_option linter.unusedVariables false
set_option maxRecDepth 20000
set_option maxHeartbeats 4000000
namespace Go.Proofs.Ytmibclbinebnjaa
open Go Go.RowKit

theorem pairUp_bd : ∀ (l : List Int), ∀ x, x ∈ pairUp l → 0 ≤ x ∧ x ≤ 1000002
  | a :: b :: r => by
    intro x hx
    rcases List.mem_cons.1 hx with rfl | hx
    · have := moreI_bd (moreI 19 a) b
      show 0 ≤ moreI (moreI 19 a) b ∧ moreI (moreI 19 a) b ≤ 1000002
      omega
    · exact pairUp_bd r x hx
  | [] => fun x hx => by cases hx
  | [_] => fun x hx => by cases hx

theorem rootOf_bd {s : List Entry} (h : storeValid s = true) : 0 ≤ rootOf s ∧ rootOf s ≤ 1000002 := by
  unfold rootOf
  rw [if_pos h]
  have hl := upN_len1 s
  have hb := pairUp_bd (upN 4 (leaves s))
  rw [← upN_succ 4] at hb
  match hq : upN 5 (leaves s), hl with
  | [x], _ =>
    rw [hq] at hb
    exact hb x (by simp)

theorem firstBlock_valid {s : List Entry} (h : storeValid s = true) : blockValid (firstBlock s) = true := by
  have hr := rootOf_bd h
  unfold firstBlock
  rw [if_pos h]
  unfold blockValid
  simp only [Bool.and_eq_true]
  refine ⟨⟨⟨⟨⟨by decide, inB_iff.2 hr⟩, by decide⟩, by decide⟩, by decide⟩, by decide⟩

theorem treeOf_ok {s : List Entry} (h : storeValid s = true) : TreeOk (treeOf s) := by
  have ht : treeOf s = ⟨s, [firstBlock s], [-1]⟩ := by unfold treeOf; rw [if_pos h]
  rw [ht]
  refine ⟨h, ⟨by simp, by simp⟩, rfl, rfl, rfl, ?_, ?_, ?_⟩
  · intro i hi
    simp only [List.length_cons, List.length_nil] at hi
    obtain rfl : i = 0 := by omega
    exact firstBlock_valid h
  · intro i j hij hj
    simp only [List.length_cons, List.length_nil] at hj
    omega
  · intro k hk hk'
    simp only [List.length_cons, List.length_nil] at hk'
    omega

theorem lsum_le : ∀ (bs : List Block), (∀ b, b ∈ bs → b.list.length ≤ 10) → lsum bs ≤ 10 * bs.length
  | [], _ => Nat.le_refl _
  | b :: r, h => by
    have h1 := h b (List.mem_cons_self ..)
    have h2 := lsum_le r fun c hc => h c (List.mem_cons_of_mem _ hc)
    unfold lsum
    rw [List.length_cons]
    omega

theorem treeOk_s32 {t : Tree} (ht : TreeOk t) : TreeS32 t := by
  have h1 := store_len ht.store
  have h2 := ht.len
  have h3 := ht.bef
  have h4 := lsum_le t.blocks fun b hb => by
    obtain ⟨i, hi, rfl⟩ := List.getElem_of_mem hb
    rw [t.blk_get i hi]
    exact (blk_acts ht hi).2.1
  exact ⟨by unfold tsz; omega⟩

/-- A chain: each block is behind the one before it, and has one action of the list. -/
structure Chain (s : List Entry) (l : List Action) (t : Tree) (i : Nat) : Prop where
  ok : TreeOk t
  base : t.base = s
  len : t.blocks.length = i + 1
  bef : ∀ k, k ≤ i → t.bef k = (k : Int) - 1
  list : ∀ k, k < i → (t.blk (k + 1)).list = (l.drop k).take 1

theorem chain_treeOf {s : List Entry} (l : List Action) (h : storeValid s = true) : Chain s l (treeOf s) 0 := by
  have ht : treeOf s = ⟨s, [firstBlock s], [-1]⟩ := by unfold treeOf; rw [if_pos h]
  refine ⟨treeOf_ok h, by rw [ht], by rw [ht]; rfl, fun k hk => ?_, fun k hk => by omega⟩
  obtain rfl : k = 0 := by omega
  exact (treeOf_ok h).bef0

theorem chain_grow {s : List Entry} {l : List Action} {t : Tree} {i : Nat} (hc : Chain s l t i) {v : Int} (hg : (growTree t i v ((l.drop i).take 1)).2 = true) : Chain s l (growTree t i v ((l.drop i).take 1)).1 (i + 1) := by
  have h1 := treeValid_true hc.ok
  have h2 : inB (i : Int) 0 ((t.blocks.length : Int) - 1) = true := by rw [inB_iff, hc.len]; omega
  unfold growTree at hg ⊢
  rw [if_pos h1, if_pos h2, Int.toNat_natCast] at hg ⊢
  split at hg
  · rename_i hn
    rw [if_pos hn]
    unfold putBlock at hg ⊢
    rw [if_pos h1] at hg ⊢
    split at hg
    · rename_i hv
      rw [if_pos hv]
      have hok := treeOk_of hv
      generalize hnb : (nextBlock (t.blk i) (storeOf t i) v ((l.drop i).take 1)) = p at hn hok
      have hnv : p.1.before = blockSum (t.blk i) ∧ p.1.list = (l.drop i).take 1 := by
        rw [← hnb] at hn ⊢
        unfold nextBlock at hn ⊢
        split at hn
        · rename_i hh
          rw [if_pos hh]
          exact ⟨rfl, rfl⟩
        · cases hn
      have hlb := hc.ok.bef
      have hle : (putT t p.1).blocks.length = i + 2 := by show (t.blocks ++ [p.1]).length = _; rw [List.length_append, hc.len]; rfl
      have hold : ∀ k, k ≤ i → (putT t p.1).blk k = t.blk k := fun k hk => by
        show (t.blocks ++ [p.1]).getD k default = t.blocks.getD k default
        rw [List.getD_eq_getElem?_getD, List.getD_eq_getElem?_getD, List.getElem?_append_left (by rw [hc.len]; omega)]
      have hnew : (putT t p.1).blk (i + 1) = p.1 := by
        show (t.blocks ++ [p.1]).getD (i + 1) default = p.1
        rw [List.getD_eq_getElem?_getD, List.getElem?_append_right (by rw [hc.len]; omega), hc.len]
        simp
      have hbold : ∀ k, k ≤ i → (putT t p.1).bef k = t.bef k := fun k hk => by
        show (t.before ++ [findB t.blocks p.1.before]).getD k 0 = t.before.getD k 0
        rw [List.getD_eq_getElem?_getD, List.getD_eq_getElem?_getD, List.getElem?_append_left (by rw [hlb, hc.len]; omega)]
      refine ⟨hok, hc.base, hle, fun k hk => ?_, fun k hk => ?_⟩
      · by_cases hk' : k ≤ i
        · rw [hbold k hk']; exact hc.bef k hk'
        · obtain rfl : k = i + 1 := by omega
          have hL := hok.link (i + 1) (by omega) (by rw [hle]; omega)
          have hlo := hL.lo
          have hhi := hL.hi
          obtain ⟨m, hm⟩ : ∃ m : Nat, (putT t p.1).bef (i + 1) = (m : Int) := ⟨((putT t p.1).bef (i + 1)).toNat, by omega⟩
          have hsum := hL.sum
          rw [hm, Int.toNat_natCast, hnew, hnv.1, ← hold i (Nat.le_refl _)] at hsum
          rw [hm] at hhi ⊢
          by_cases hmi : m = i
          · rw [hmi]; omega
          · exact absurd hsum (hok.dist m i (by omega) (by rw [hle]; omega))
      · by_cases hk' : k < i
        · rw [hold (k + 1) (by omega)]; exact hc.list k hk'
        · obtain rfl : k = i := by omega
          rw [hnew]; exact hnv.2
    · cases hg
  · cases hg

theorem wayV_append (t : Tree) (v : List Int) (p q : List Int) : wayV t v (p ++ q) = wayV t (wayV t v p) q := by
  unfold wayV; rw [List.foldl_append]

theorem chain_way {s : List Entry} {l : List Action} {t : Tree} {i : Nat} (hc : Chain s l t i) (hl : i ≤ l.length) : ∀ k, k ≤ i → wayV t (valuesL s) (pathL t (k : Int)) = (runAllE (valuesL s) (l.take k)).1
  | 0, _ => by
    obtain ⟨h1, _, _⟩ := back_cons hc.ok 0 (by rw [hc.len]; omega)
    have hp : pathL t ((0 : Nat) : Int) = [0] := by
      unfold pathL
      rw [h1, hc.bef 0 (by omega), back_neg _ _ (by omega)]
      rfl
    rw [hp]
    show (runAllE (valuesL s) (t.blk 0).list).1 = _
    rw [hc.ok.first, firstBlock_list]
    rfl
  | k + 1, hk => by
    have ih := chain_way hc hl k (by omega)
    obtain ⟨h1, _, _⟩ := back_cons hc.ok (k + 1) (by rw [hc.len]; omega)
    have hp : pathL t ((k + 1 : Nat) : Int) = pathL t (k : Int) ++ [((k + 1 : Nat) : Int)] := by
      unfold pathL
      rw [h1, hc.bef (k + 1) hk, show (((k + 1 : Nat) : Int) - 1) = (k : Int) by omega, List.reverse_cons]
    rw [hp, wayV_append, ih]
    show (runAllE _ (t.blk (((k + 1 : Nat) : Int)).toNat).list).1 = _
    rw [Int.toNat_natCast, hc.list k (by omega)]
    have hd : (l.drop k).take 1 = [l[k]] := by
      rw [List.drop_eq_getElem_cons (by omega)]
      rfl
    rw [hd, runAllE_take _ _ _ (by omega)]
    rfl

theorem chain_store {s : List Entry} {l : List Action} {t : Tree} (hc : Chain s l t l.length) (h1 : storeValid s = true) (h2 : actionsValid l = true) : storeOf t (l.length : Int) = (runSerial s l).1 := by
  have hv := treeValid_true hc.ok
  have hb : inB (l.length : Int) 0 ((t.blocks.length : Int) - 1) = true := by rw [inB_iff, hc.len]; omega
  unfold storeOf runSerial storeAt afterV
  rw [hv, hb, h1, h2, hc.base, chain_way hc (Nat.le_refl _) l.length (Nat.le_refl _), List.take_length]
  rfl

end Go.Proofs.Ytmibclbinebnjaa

/- Contracts: the reference's copies of trees, putting blocks. -/
set_option linter.unusedSimpArgs false
set_option linter.unusedVariables false
set_option maxRecDepth 20000
set_option maxHeartbeats 4000000
namespace Go.Proofs.Ytmibclbinebnjaa
open Go Go.RowKit

theorem putT_tsz (t : Tree) (b : Block) : tsz (putT t b) = tsz t + b.list.length + 2 := by
  unfold tsz putT
  simp only [lsum_snoc, List.length_append, List.length_singleton]
  omega
theorem putBlock_tsz (t : Tree) (b : Block) : tsz (putBlock t b).1 ≤ tsz t + b.list.length + 2 := by
  unfold putBlock
  split
  · split
    · exact Nat.le_of_eq (putT_tsz t b)
    · show tsz t ≤ _; omega
  · show tsz ⟨[], [], []⟩ ≤ _; simp [tsz, lsum]

theorem growTree_tsz (t : Tree) (n v : Int) (l : List Action) : tsz (growTree t n v l).1 ≤ tsz t + l.length + 2 := by
  unfold growTree
  split
  · split
    · split
      · have := putBlock_tsz t (nextBlock (t.blk n.toNat) (storeOf t n) v l).1
        have := nextBlock_len (t.blk n.toNat) (storeOf t n) v l
        omega
      · show tsz t ≤ _; omega
    · show tsz t ≤ _; omega
  · show tsz ⟨[], [], []⟩ ≤ _; simp [tsz, lsum]

theorem putBlock_ok {t : Tree} (ht : TreeOk t) (b : Block) : TreeOk (putBlock t b).1 := by
  unfold putBlock
  rw [if_pos (treeValid_true ht)]
  split
  · rename_i h; exact treeOk_of h
  · exact ht

theorem growTree_ok {t : Tree} (ht : TreeOk t) (n v : Int) (l : List Action) : TreeOk (growTree t n v l).1 := by
  unfold growTree
  rw [if_pos (treeValid_true ht)]
  split
  · split
    · exact putBlock_ok ht _
    · exact ht
  · exact ht

theorem c_spec_PutBlock (n1 n2 n3 n : Option Bool) (t : Tree) (b : Block) (hx : TreeS32 t) (hb : b.list.length < 2 ^ 32) :
    Det Try.prog 36 [.agg (encT n1 n2 n3 t), .agg (encBk n b)] (.tup [.agg (encTF (putBlock t b).1), .bool (putBlock t b).2]) := by
  refine fspec_det tab_ok Try.call36 Try.func36 rfl 39 Try.ntmps36 (of_decide_eq_true rfl) fun B => codeK_sound tab_ok _ _ _ ?_
  unfold putBlock
  simp (config := { maxSteps := 4000000 }) only [go_sem, simprocAttr, ↓dnA, Try.f36, rows_length, encT, encBk]
  refine CallTo.det (c_spec_BlockTreeValid n1 n2 n3 t hx.sz) fun _ => ?_
  cases h1 : treeValid t with
  | false => simp (config := { maxSteps := 4000000 }) only [go_sem, simprocAttr, ↓dnA, Try.f36, rows_length, encT, encTF, h1, rows_nil]
  | true =>
    have ht := treeOk_of h1
    have hlen := ht.len
    have hbl := ht.bef
    have c1 := all_rows encA AV.flat (fun _ => rfl) b.list
    have c2 := all_rows encA AV.one (fun _ => rfl) b.list
    have c3 := sz0_rows encA 4 (fun _ => rfl) b.list
    simp (config := { maxSteps := 4000000 }) only [go_sem, simprocAttr, ↓dnA, Try.f36, rows_length, encT, encBk, h1]
    refine CallTo.det (c_spec_l13Copy n1 n2 n3 t hx) fun _ => ?_
    have tk1 : (rows encB1 t.blocks).take t.blocks.length = rows encB1 t.blocks := by rw [List.take_of_length_le]; rw [rows_length]; omega
    have tk2 : (rows encI t.before).take t.before.length = rows encI t.before := by rw [List.take_of_length_le]; rw [rows_length]; omega
    simp (config := { maxSteps := 4000000 }) only [go_sem, simprocAttr, ↓dnA, Try.f36, rows_length, encT, encTF, encBk, h1, tk1]
    repeat refine And.intro (by first | omega | (simp; done) | (simp; omega) | assumption) ?_
    refine semL_draw tab_ok mixed_ rfl (ord := [(0, []), (1, []), (2, []), (3, []), (4, []), (5, [0, 1]), (6, [0, 1]), (7, []), (8, []), (9, [])]) (by dsimp only; decide +kernel) ?_
    simp (config := { maxSteps := 4000000 }) only [go_sem, simprocAttr, ↓dnA, Try.f36, rows_length, encT, encTF, encBk, h1]
    refine CallTo.det (c_spec_find n1 n2 n3 t b.before hx.sz) fun _ => ?_
    have e1 : rows encB1 t.blocks ++ [[AV.int IntKind.i64 b.before, AV.int IntKind.i64 b.height, AV.int IntKind.i64 b.view, AV.sl none (rows encA b.list), AV.int IntKind.i64 b.root, AV.int IntKind.i64 b.effects]] = rows encB1 (t.blocks ++ [b]) := by
      rw [← rows_snoc]; rfl
    have e2 : rows encI t.before ++ [[AV.int IntKind.i64 (findB t.blocks b.before)]] = rows encI (t.before ++ [findB t.blocks b.before]) := by
      rw [← rows_snoc]; rfl
    have l1 : (t.blocks ++ [b]).length = t.blocks.length + 1 := by simp
    have l2 : (t.before ++ [findB t.blocks b.before]).length = t.before.length + 1 := by simp
    have hu : TreeSz (putT t b) := ⟨hx.sz.base, by show (t.blocks ++ [b]).length < _; rw [l1]; omega, by show (t.before ++ [findB t.blocks b.before]).length < _; rw [l2]; omega, fun c hc => by
      rcases List.mem_append.1 hc with e | e
      · exact hx.sz.list c e
      · rw [List.mem_singleton.1 e]; omega⟩
    have hv := c_spec_BlockTreeValid none (some true) (some true) (putT t b) hu
    have hf : encTF (putT t b) = [.osl false 2 (rows encE t.base), .osl false 6 (rows encB1 (t.blocks ++ [b])), .osl false 1 (rows encI (t.before ++ [findB t.blocks b.before]))] := rfl
    simp (config := { maxSteps := 4000000 }) only [go_sem, simprocAttr, ↓dnA, Try.f36, rows_length, encT, encTF, encBk, h1, tk2, e1, e2, l1, l2]
    repeat refine And.intro (by first | omega | (simp; done) | (simp; omega) | assumption) ?_
    refine CallTo.det hv fun _ => ?_
    cases h2 : treeValid (putT t b) with
    | false =>
      simp (config := { maxSteps := 4000000 }) only [go_sem, simprocAttr, ↓dnA, Try.f36, rows_length, encT, encBk, h1, h2]
      refine CallTo.det (c_spec_l13Copy n1 n2 n3 t hx) fun _ => ?_
      simp (config := { maxSteps := 4000000 }) only [go_sem, simprocAttr, ↓dnA, Try.f36, rows_length, encT, encTF, h1, h2]
    | true =>
      simp (config := { maxSteps := 4000000 }) only [go_sem, simprocAttr, ↓dnA, Try.f36, rows_length, encT, encBk, h1, h2, hf, tk2, e1, e2, l1, l2]

theorem c_spec_GrowTree (n1 n2 n3 n0 : Option Bool) (t : Tree) (n v : Int) (l : List Action) (hx : TreeS32 t) (hl : l.length < 2 ^ 32) :
    Det Try.prog 146 [.agg (encT n1 n2 n3 t), .int .i64 n, .int .i64 v, .sl n0 (rows encA l)] (.tup [.agg (encTF (growTree t n v l).1), .bool (growTree t n v l).2]) := by
  refine fspec_det tab_ok Try.call146 Try.func146 rfl 48 Try.ntmps146 (of_decide_eq_true rfl) fun B => codeK_sound tab_ok _ _ _ ?_
  unfold growTree
  simp (config := { maxSteps := 4000000 }) only [go_sem, simprocAttr, ↓dnA, Try.f146, rows_length, encT]
  refine CallTo.det (c_spec_BlockTreeValid n1 n2 n3 t hx.sz) fun _ => ?_
  cases h1 : treeValid t with
  | false => simp (config := { maxSteps := 4000000 }) only [go_sem, simprocAttr, ↓dnA, Try.f146, rows_length, encT, encTF, h1, rows_nil]
  | true =>
    have ht := treeOk_of h1
    have hlen := ht.len
    have hw : IntKind.i64.wrap ((t.blocks.length : Int) - 1) = (t.blocks.length : Int) - 1 := wrap_small _ (by omega) (by omega)
    simp (config := { maxSteps := 4000000 }) only [go_sem, simprocAttr, ↓dnA, Try.f146, rows_length, encT, h1, hw]
    refine CallTo.det (c_l1In _ _ _) fun _ => ?_
    cases h2 : inB n 0 ((t.blocks.length : Int) - 1) with
    | false =>
      simp (config := { maxSteps := 4000000 }) only [go_sem, simprocAttr, ↓dnA, Try.f146, rows_length, encT, h1, h2, hw]
      refine CallTo.det (c_spec_l13Copy n1 n2 n3 t hx) fun _ => ?_
      simp (config := { maxSteps := 4000000 }) only [go_sem, simprocAttr, ↓dnA, Try.f146, rows_length, encT, encTF, h1, h2, hw]
    | true =>
      have hb := inB_iff.1 h2
      obtain ⟨k, hk⟩ : ∃ k : Nat, n = (k : Int) := ⟨n.toNat, by omega⟩
      subst hk
      have hkl : k < t.blocks.length := by omega
      have hbk := t.blk_get k hkl
      have hbl := hx.list _ (List.getElem_mem hkl)
      rw [hbk] at hbl
      have hso : (storeOf t (k : Int)).length ≤ 32 := by
        have := store_len (storeL_valid (afterV_ok ht (n := (k : Int)) (by omega)))
        unfold storeOf
        rw [h1, h2]
        exact this
      rw [Int.toNat_natCast]
      simp (config := { maxSteps := 4000000 }) only [go_sem, simprocAttr, ↓dnA, Try.f146, rows_length, encT, h1, h2, hw]
      refine semL_draw tab_ok mixed_ rfl (ord := [(0, []), (1, []), (2, []), (3, []), (4, []), (5, []), (6, []), (8, []), (9, []), (7, [0, 1, 2, 3, 4, 8, 9]), (10, []), (11, []), (12, []), (13, []), (14, [0, 1, 2, 3, 4, 5, 6, 8, 9, 11, 12, 13]), (15, [13]), (16, [])]) (by dsimp only; decide +kernel) ?_
      simp (config := { maxSteps := 4000000 }) only [go_sem, simprocAttr, ↓dnA, Try.f146, rows_length, encT, h1, h2, hw, nlt hkl, hkl, rows_get _ _ _ hkl, hbk, encB1, encBk, nn0]
      refine CallTo.det (c_spec_StoreOf n1 n2 n3 t k hx) fun _ => ?_
      simp (config := { maxSteps := 4000000 }) only [go_sem, simprocAttr, ↓dnA, Try.f146, rows_length, encT, h1, h2, hw, nlt hkl, hkl, rows_get _ _ _ hkl, hbk, encB1, encBk, nn0]
      have hpl := nextBlock_len (t.blk k) (storeOf t k) v l
      refine CallTo.det (c_spec_NextBlock none none n0 (t.blk k) (storeOf t k) v l hbl (by omega) hl) fun _ => ?_
      generalize nextBlock (t.blk k) (storeOf t k) v l = p at hpl
      obtain ⟨nb, ok⟩ := p
      dsimp only at hpl ⊢
      cases ok with
      | false =>
        simp (config := { maxSteps := 4000000 }) only [go_sem, simprocAttr, ↓dnA, Try.f146, rows_length, encT, h1, h2, hw, nlt hkl, hkl, rows_get _ _ _ hkl, hbk, encB1, encBk, encBkF, encBkO, nn0]
        refine CallTo.det (c_spec_l13Copy n1 n2 n3 t hx) fun _ => ?_
        simp (config := { maxSteps := 4000000 }) only [go_sem, simprocAttr, ↓dnA, Try.f146, rows_length, encT, encTF, h1, h2, hw, encBkF, encBkO]
      | true =>
        simp (config := { maxSteps := 4000000 }) only [go_sem, simprocAttr, ↓dnA, Try.f146, rows_length, encT, h1, h2, hw, nlt hkl, hkl, rows_get _ _ _ hkl, hbk, encB1, encBk, encBkF, encBkO, nn0]
        refine CallTo.det (c_spec_PutBlock n1 n2 n3 none t nb hx (by omega)) fun _ => ?_
        simp (config := { maxSteps := 4000000 }) only [go_sem, simprocAttr, ↓dnA, Try.f146, rows_length, encT, encTF, h1, h2, hw, encBkF, encBkO]

end Go.Proofs.Ytmibclbinebnjaa

/- Contracts: voters after their votes. -/
set_option linter.unusedSimpArgs false
set_option linter.unusedVariables false
set_option maxRecDepth 20000
set_option maxHeartbeats 4000000
namespace Go.Proofs.Ytmibclbinebnjaa
open Go Go.RowKit

open Classical in
/-- A voter after its vote. -/
noncomputable def voteFor (v : Voter) (t : Tree) (c : List Bool) (n : Int) : Voter × Bool :=
  if voterValid v.last v.lock then (if mayVote v t c n then
    (⟨(t.blk n.toNat).view, if t.bef (t.bef n.toNat).toNat ≥ 0 then max v.lock (t.blk (t.bef (t.bef n.toNat).toNat).toNat).view else v.lock⟩, true) else (v, false)) else (⟨0, 0⟩, false)

theorem max_if (a b : Int) : (if b > a then b else a) = max a b := by
  rw [Int.max_def]; split <;> split <;> omega

/-- What is needed of the block before the one before. -/
theorem voteFor_ok {v : Voter} {t : Tree} {c : List Bool} {n : Int} (h0 : voterValid v.last v.lock = true) (h : mayVote v t c n = true) :
    ∃ j k : Nat, n = (j : Int) ∧ j < t.blocks.length ∧ j < t.before.length ∧ k < t.before.length ∧ (rows encI t.before).getD j [] = [.int .i64 (k : Int)] ∧ (rows encI t.before).getD k [] = [.int .i64 (t.bef k)] ∧
      (rows encB1 t.blocks).getD j [] = encB1 (t.blk j) ∧
      ((t.bef k < 0 ∧ decide (t.bef k ≥ 0) = false ∧ voteFor v t c n = (⟨(t.blk j).view, v.lock⟩, true)) ∨
       ∃ m : Nat, t.bef k = (m : Int) ∧ m < t.blocks.length ∧ (rows encB1 t.blocks).getD m [] = encB1 (t.blk m) ∧ voteFor v t c n = (⟨(t.blk j).view, max v.lock (t.blk m).view⟩, true)) := by
  have hm := mayOk_of h
  obtain ⟨j, k, rfl, hj0, hj, hjb, hkj, hk, g1, g2, g3, _⟩ := may_facts hm.tree hm.len hm.n1 hm.n2
  have hkb : k < t.before.length := by omega
  have g4 : (rows encI t.before).getD k [] = [.int .i64 (t.bef k)] := by rw [rows_get _ _ k hkb, t.bef_get k hkb]; rfl
  refine ⟨j, k, rfl, hj, hjb, hkb, g1, g4, g2, ?_⟩
  have hv : voteFor v t c (j : Int) = (⟨(t.blk j).view, if t.bef k ≥ 0 then max v.lock (t.blk (t.bef k).toNat).view else v.lock⟩, true) := by
    unfold voteFor
    rw [h0, h, if_pos rfl, if_pos rfl, Int.toNat_natCast, hk, Int.toNat_natCast]
  by_cases hb : t.bef k ≥ 0
  · obtain ⟨m, hmk⟩ : ∃ m : Nat, t.bef k = (m : Int) := ⟨(t.bef k).toNat, by omega⟩
    have hml : m < t.blocks.length := by
      by_cases hk0 : k = 0
      · subst hk0; rw [hm.tree.bef0] at hb; omega
      · have := (hm.tree.link k (by omega) (by omega)).hi; omega
    refine .inr ⟨m, hmk, hml, rows_gd _ _ m hml, ?_⟩
    rw [hv, if_pos hb, hmk, Int.toNat_natCast]
  · exact .inl ⟨by omega, by simp; omega, by rw [hv, if_neg hb]⟩

theorem c_impl_VoteFor (n1 n2 n3 n4 : Option Bool) (v : Voter) (t : Tree) (c : List Bool) (n : Int) (hx : TreeSz t) (hc : c.length < 2 ^ 62) :
    Det Try.prog 23 [.agg (encV v), .agg (encT n1 n2 n3 t), .sl n4 (boolRows c), .int .i64 n] (.tup [.agg (encV (voteFor v t c n).1), .bool (voteFor v t c n).2]) := by
  refine fspec_det tab_ok Try.call23 Try.func23 rfl 51 Try.ntmps23 (of_decide_eq_true rfl) fun B => codeK_sound tab_ok _ _ _ ?_
  unfold encT
  simp (config := { maxSteps := 4000000 }) only [go_sem, simprocAttr, ↓dnA, Try.f23, encV]
  refine CallTo.det (c_impl_VoterValid _ _) fun _ => ?_
  cases h1 : voterValid v.last v.lock with
  | false =>
    have hv : voteFor v t c n = (⟨0, 0⟩, false) := by unfold voteFor; rw [h1, if_neg Bool.false_ne_true]
    simp (config := { maxSteps := 4000000 }) only [go_sem, simprocAttr, ↓dnA, Try.f23, encV, h1, hv]
  | true =>
    simp (config := { maxSteps := 4000000 }) only [go_sem, simprocAttr, ↓dnA, Try.f23, encV, h1]
    refine CallTo.det (c_impl_MayVote n1 n2 n3 n4 v t c n hx hc) fun _ => ?_
    cases h2 : mayVote v t c n with
    | false =>
      have hv : voteFor v t c n = (v, false) := by unfold voteFor; rw [h1, h2, if_pos rfl, if_neg Bool.false_ne_true]
      simp (config := { maxSteps := 4000000 }) only [go_sem, simprocAttr, ↓dnA, Try.f23, encV, h1, h2, hv]
    | true =>
      obtain ⟨j, k, rfl, hj, hjb, hkb, g1, g4, g2, hcase⟩ := voteFor_ok h1 h2
      simp (config := { maxSteps := 4000000 }) only [go_sem, simprocAttr, ↓dnA, Try.f23, encV, h1, h2, rows_length, nn0, nlt hj, nlt hjb, nlt hkb, g1, g2, g4, encB1, encBk]
      refine semL_draw tab_ok mixed_ rfl (ord := [(0, []), (1, []), (2, []), (3, []), (4, []), (5, []), (6, []), (7, []), (8, []), (9, [])]) (by dsimp only; decide +kernel) ?_
      rcases hcase with ⟨hb, hd, hv⟩ | ⟨m, hm, hml, g5, hv⟩
      · simp (config := { maxSteps := 4000000 }) only [go_sem, simprocAttr, ↓dnA, Try.f23, encV, h1, h2, rows_length, nn0, nlt hj, nlt hjb, nlt hkb, g1, g2, g4, encB1, encBk, hd, hv]
      · have hd : decide ((m : Int) ≥ 0) = true := by simp
        simp (config := { maxSteps := 4000000 }) only [go_sem, simprocAttr, ↓dnA, Try.f23, encV, h1, h2, rows_length, nn0, nlt hj, nlt hjb, nlt hkb, g1, g2, g4, encB1, encBk, hd, hm]
        refine semL_draw tab_ok mixed_ rfl (ord := [(0, []), (1, []), (2, []), (3, []), (4, []), (5, []), (6, []), (7, []), (8, []), (9, []), (10, [])]) (by dsimp only; decide +kernel) ?_
        simp (config := { maxSteps := 4000000 }) only [go_sem, simprocAttr, ↓dnA, Try.f23, encV, h1, h2, rows_length, nn0, nlt hml, g5, encB1, encBk, max_if, hv]

theorem c_spec_VoteFor (n1 n2 n3 n4 : Option Bool) (v : Voter) (t : Tree) (c : List Bool) (n : Int) (hx : TreeSz t) (hc : c.length < 2 ^ 62) :
    Det Try.prog 25 [.agg (encV v), .agg (encT n1 n2 n3 t), .sl n4 (boolRows c), .int .i64 n] (.tup [.agg (encV (voteFor v t c n).1), .bool (voteFor v t c n).2]) := by
  refine fspec_det tab_ok Try.call25 Try.func25 rfl 54 Try.ntmps25 (of_decide_eq_true rfl) fun B => codeK_sound tab_ok _ _ _ ?_
  unfold encT
  simp (config := { maxSteps := 4000000 }) only [go_sem, simprocAttr, ↓dnA, Try.f25, encV]
  refine CallTo.det (c_spec_VoterValid _ _) fun _ => ?_
  cases h1 : voterValid v.last v.lock with
  | false =>
    have hv : voteFor v t c n = (⟨0, 0⟩, false) := by unfold voteFor; rw [h1, if_neg Bool.false_ne_true]
    simp (config := { maxSteps := 4000000 }) only [go_sem, simprocAttr, ↓dnA, Try.f25, encV, h1, hv]
  | true =>
    simp (config := { maxSteps := 4000000 }) only [go_sem, simprocAttr, ↓dnA, Try.f25, encV, h1]
    refine CallTo.det (c_spec_MayVote n1 n2 n3 n4 v t c n hx hc) fun _ => ?_
    cases h2 : mayVote v t c n with
    | false =>
      have hv : voteFor v t c n = (v, false) := by unfold voteFor; rw [h1, h2, if_pos rfl, if_neg Bool.false_ne_true]
      simp (config := { maxSteps := 4000000 }) only [go_sem, simprocAttr, ↓dnA, Try.f25, encV, h1, h2, hv]
    | true =>
      obtain ⟨j, k, rfl, hj, hjb, hkb, g1, g4, g2, hcase⟩ := voteFor_ok h1 h2
      simp (config := { maxSteps := 4000000 }) only [go_sem, simprocAttr, ↓dnA, Try.f25, encV, h1, h2, rows_length, nn0, nlt hj, nlt hjb, nlt hkb, g1, g2, g4, encB1, encBk]
      refine semL_draw tab_ok mixed_ rfl (ord := [(0, []), (1, []), (2, []), (3, []), (4, []), (5, []), (6, []), (7, []), (8, []), (9, [0, 1, 2, 3, 4, 5, 6, 7, 8]), (10, [])]) (by dsimp only; decide +kernel) ?_
      simp (config := { maxSteps := 4000000 }) only [go_sem, simprocAttr, ↓dnA, Try.f25, encV, h1, h2, rows_length, nn0, nlt hj, nlt hjb, nlt hkb, g1, g2, g4, encB1, encBk]
      refine semL_draw tab_ok mixed_ rfl (ord := [(0, []), (1, []), (2, []), (3, []), (4, []), (5, []), (6, []), (7, []), (8, []), (9, [])]) (by dsimp only; decide +kernel) ?_
      rcases hcase with ⟨hb, hd, hv⟩ | ⟨m, hm, hml, g5, hv⟩
      · simp (config := { maxSteps := 4000000 }) only [go_sem, simprocAttr, ↓dnA, Try.f25, encV, h1, h2, rows_length, nn0, nlt hj, nlt hjb, nlt hkb, g1, g2, g4, encB1, encBk, hd, hv]
      · have hd : decide ((m : Int) ≥ 0) = true := by simp
        simp (config := { maxSteps := 4000000 }) only [go_sem, simprocAttr, ↓dnA, Try.f25, encV, h1, h2, rows_length, nn0, nlt hj, nlt hjb, nlt hkb, g1, g2, g4, encB1, encBk, hd, hm]
        refine semL_draw tab_ok mixed_ rfl (ord := [(0, []), (1, []), (2, []), (3, []), (4, []), (5, []), (6, []), (7, []), (8, []), (9, []), (10, [])]) (by dsimp only; decide +kernel) ?_
        simp (config := { maxSteps := 4000000 }) only [go_sem, simprocAttr, ↓dnA, Try.f25, encV, h1, h2, rows_length, nn0, nlt hml, g5, encB1, encBk, max_if, hv]

theorem voterB (a b : Voter) : ((a.last == b.last) && (a.lock == b.lock)) = decide (a = b) := by
  obtain ⟨a1, a2⟩ := a
  obtain ⟨b1, b2⟩ := b
  rw [Bool.eq_iff_iff]
  simp only [Bool.and_eq_true, beq_iff_eq, decide_eq_true_eq, Voter.mk.injEq]

end Go.Proofs.Ytmibclbinebnjaa

/- Bounds of sums; next blocks are valid; trees that grow stay valid: plain lemmas. -/
set_option linter.unusedSimpArgs false
set_option linter.unusedVariables false
set_option maxRecDepth 20000
set_option maxHeartbeats 4000000
namespace Go.Proofs.Ytmibclbinebnjaa
open Go Go.RowKit

theorem sumI_bd : ∀ (l : List Int) (s : Int), 0 ≤ s ∧ s ≤ 1000002 → 0 ≤ sumI s l ∧ sumI s l ≤ 1000002
  | [], s, h => h
  | x :: l, s, _ => sumI_bd l (moreI s x) (by have := moreI_bd s x; omega)

theorem blockSum_in {b : Block} (h : blockValid b = true) : 0 ≤ blockSum b ∧ blockSum b ≤ 1000002 := by
  unfold blockSum
  rw [if_pos h]
  exact sumI_bd _ _ (by decide)

theorem sumOf_bd {tag : Int} {l : List Int} (ht : 0 ≤ tag ∧ tag ≤ 9) (h : ∀ x, x ∈ l → 0 ≤ x ∧ x ≤ 2000000) : 0 ≤ sumOf tag l ∧ sumOf tag l ≤ 1000002 := by
  unfold sumOf
  have h1 : (decide (0 ≤ tag) && decide (tag ≤ 9)) = true := by simp [ht]
  have h2 : l.all isSummedB = true := List.all_eq_true.2 fun x hx => by simpa [isSummedB] using h x hx
  rw [h1, h2, Bool.and_self, if_pos rfl]
  exact sumI_bd _ _ (by omega)

/-- Effects of actions: keys and values in their bounds. -/
structure EffV (e : Effect) : Prop where
  reads : WritesOk e.reads
  writes : WritesOk e.writes
  rlen : e.reads.length ≤ 1000

theorem runE_effV {a : Action} {v : List Int} (ha : ActOk a) (hv : ValsOk v) : EffV (runE a v) := by
  refine ⟨fun w hw => ?_, runE_writesOk ha hv, by have := runE_rlen a v; omega⟩
  have hw : w ∈ (readsA a).map fun k => ⟨k, valK v k⟩ := hw
  obtain ⟨k, hk, rfl⟩ := List.mem_map.1 hw
  have hfr := ha.fr
  have hto := ha.to
  exact ⟨by dsimp only; rcases mem_reads hk with e | e <;> rw [e] <;> omega, hv.at k⟩

theorem runAllE_effV {v : List Int} {l : List Action} (hl : ∀ a, a ∈ l → ActOk a) (hv : ValsOk v) : ∀ i, i ≤ l.length → ∀ e, e ∈ (runAllE v (l.take i)).2 → EffV e
  | 0, _ => fun e he => by simp [runAllE] at he
  | i + 1, hi => by
    have ih := runAllE_effV hl hv i (by omega)
    have hO := runAllE_ok hl hv i (by omega)
    rw [runAllE_take _ _ _ (by omega)]
    intro e he
    unfold stepR at he
    rcases List.mem_append.1 he with he | he
    · exact ih e he
    · rw [List.mem_singleton.1 he]
      exact runE_effV (hl _ (List.getElem_mem _)) hO.1

theorem runSerial_effV {s : List Entry} {l : List Action} : ∀ e, e ∈ (runSerial s l).2 → EffV e := by
  unfold runSerial
  split
  · rename_i h
    rw [Bool.and_eq_true] at h
    have := runAllE_effV (actionsValid_ok h.2).1 (valuesL_ok h.1) l.length (Nat.le_refl _)
    rw [List.take_length] at this
    exact this
  · intro e he; cases he

theorem flatE_mem {x : Int} {es : List Entry} (h : x ∈ flatE es) : ∃ e, e ∈ es ∧ (x = e.key ∨ x = e.value) := by
  unfold flatE at h
  rw [List.mem_flatMap] at h
  obtain ⟨e, he, hx⟩ := h
  exact ⟨e, he, by simpa using hx⟩

theorem effectSum_bd {e : Effect} (h : EffV e) : 0 ≤ effectSum e ∧ effectSum e ≤ 1000002 := by
  have h1 := h.rlen
  refine sumOf_bd (by omega) fun x hx => ?_
  unfold effectL at hx
  rcases List.mem_append.1 hx with hx | hx
  · simp only [List.mem_cons, List.not_mem_nil, or_false] at hx
    rcases hx with rfl | rfl
    · split <;> omega
    · omega
  · obtain ⟨w, hw, hx⟩ := flatE_mem hx
    have hb : (0 ≤ w.key ∧ w.key ≤ 31) ∧ 0 ≤ w.value ∧ w.value ≤ 1000000 := by
      rcases List.mem_append.1 hw with hw | hw
      · exact h.reads w hw
      · exact h.writes w hw
    rcases hx with rfl | rfl <;> omega

theorem effectsSum_bd {es : List Effect} (hl : es.length ≤ 10) (h : ∀ e, e ∈ es → EffV e) : 0 ≤ effectsSum es ∧ effectsSum es ≤ 1000002 := by
  unfold effectsSum
  rw [if_neg (by omega)]
  refine sumOf_bd (by omega) fun x hx => ?_
  obtain ⟨e, he, rfl⟩ := List.mem_map.1 hx
  have := effectSum_bd (h e he)
  omega

/-- A next block that there is. -/
theorem nextBlock_is {b : Block} {s : List Entry} {v : Int} {l : List Action} (h : (nextBlock b s v l).2 = true) :
    (nextBlock b s v l).1 = ⟨blockSum b, b.height + 1, v, l, rootOf (runSerial s l).1, effectsSum (runSerial s l).2⟩ ∧ blockValid b = true ∧ b.height ≠ 100 ∧ storeValid s = true ∧ (b.view + 1 ≤ v ∧ v ≤ 1000) ∧ actionsValid l = true := by
  unfold nextBlock at h ⊢
  split at h
  · rename_i hh
    rw [if_pos hh]
    simp only [Bool.and_eq_true, bne_iff_ne, ne_eq] at hh
    obtain ⟨⟨⟨⟨h1, h2⟩, h3⟩, h4⟩, h5⟩ := hh
    exact ⟨rfl, h1, h2, h3, inB_iff.1 h4, h5⟩
  · cases h

theorem nextBlock_valid {b : Block} {s : List Entry} {v : Int} {l : List Action} (h : (nextBlock b s v l).2 = true) : blockValid (nextBlock b s v l).1 = true := by
  obtain ⟨e, h1, h2, h3, h4, h5⟩ := nextBlock_is h
  obtain ⟨b1, b2, _⟩ := blockValid_bd h1
  obtain ⟨r1, r2, _⟩ := runSerial_ok h3 h5
  have hr := rootOf_bd r1
  have hs := blockSum_in h1
  have he := effectsSum_bd (es := (runSerial s l).2) (by rw [r2]; exact (actionsValid_ok h5).2) runSerial_effV
  rw [e]
  unfold blockValid
  simp only [Bool.and_eq_true]
  exact ⟨⟨⟨⟨⟨inB_iff.2 hs, inB_iff.2 hr⟩, inB_iff.2 he⟩, inB_iff.2 (by omega)⟩, inB_iff.2 (by omega)⟩, h5⟩

/-- A block is right over a store. -/
def blockRight (b : Block) (s : List Entry) : Bool := blockValid b && storeValid s && (b.root == rootOf (runSerial s b.list).1) && (b.effects == effectsSum (runSerial s b.list).2)

theorem nextBlock_right {b : Block} {s : List Entry} {v : Int} {l : List Action} (h : (nextBlock b s v l).2 = true) : blockRight (nextBlock b s v l).1 s = true := by
  have h0 := nextBlock_valid h
  obtain ⟨e, h1, h2, h3, h4, h5⟩ := nextBlock_is h
  unfold blockRight
  rw [h0, h3, e]
  simp

/-- A put block is the last one. -/
theorem putBlock_is {t : Tree} {b : Block} (h : (putBlock t b).2 = true) : TreeOk t ∧ TreeOk (putT t b) ∧ (putBlock t b).1 = putT t b := by
  unfold putBlock at h ⊢
  split at h
  · rename_i h1
    rw [if_pos h1]
    split at h
    · rename_i h2
      rw [if_pos h2]
      exact ⟨treeOk_of h1, treeOk_of h2, rfl⟩
    · cases h
  · cases h

theorem putBlock_no {t : Tree} {b : Block} (h : (putBlock t b).2 = false) : ((putBlock t b).1 = ⟨[], [], []⟩) ∨ (putBlock t b).1 = t := by
  unfold putBlock at h ⊢
  split at h
  · rename_i h1
    rw [if_pos h1]
    split at h
    · cases h
    · rename_i h2
      rw [if_neg h2]
      exact .inr rfl
  · rename_i h1
    rw [if_neg h1]
    exact .inl rfl

theorem putT_len (t : Tree) (b : Block) : (putT t b).blocks.length = t.blocks.length + 1 := by simp [putT]
theorem putT_old {t : Tree} {b : Block} {k : Nat} (h : k < t.blocks.length) : (putT t b).blk k = t.blk k := by
  show (t.blocks ++ [b]).getD k default = t.blocks.getD k default
  rw [List.getD_eq_getElem?_getD, List.getD_eq_getElem?_getD, List.getElem?_append_left h]
theorem putT_new (t : Tree) (b : Block) : (putT t b).blk t.blocks.length = b := by
  show (t.blocks ++ [b]).getD t.blocks.length default = b
  rw [List.getD_eq_getElem?_getD, List.getElem?_append_right (Nat.le_refl _)]
  simp
theorem putT_bef {t : Tree} (ht : TreeOk t) (b : Block) : (putT t b).bef t.blocks.length = findB t.blocks b.before := by
  show (t.before ++ [findB t.blocks b.before]).getD t.blocks.length 0 = _
  rw [List.getD_eq_getElem?_getD, List.getElem?_append_right (by rw [ht.bef]; exact Nat.le_refl _), ht.bef]
  simp
theorem putT_befOld {t : Tree} (ht : TreeOk t) {b : Block} {k : Nat} (h : k < t.blocks.length) : (putT t b).bef k = t.bef k := by
  show (t.before ++ [findB t.blocks b.before]).getD k 0 = t.before.getD k 0
  rw [List.getD_eq_getElem?_getD, List.getD_eq_getElem?_getD, List.getElem?_append_left (by rw [ht.bef]; exact h)]

/-- A block that was put is refused. -/
theorem putBlock_again {t : Tree} {b : Block} (h : (putBlock t b).2 = true) : (putBlock (putBlock t b).1 b).2 = false := by
  obtain ⟨h1, h2, h3⟩ := putBlock_is h
  rw [h3]
  cases e : (putBlock (putT t b) b).2 with
  | false => rfl
  | true =>
    obtain ⟨_, g2, _⟩ := putBlock_is e
    have hl := putT_len t b
    refine absurd ?_ (g2.dist t.blocks.length (t.blocks.length + 1) (by omega) (by rw [putT_len, hl]; omega))
    rw [putT_old (t := putT t b) (by omega), putT_new, ← hl, putT_new]

/-- What a put block names is found. -/
theorem putBlock_find {t : Tree} {b : Block} (h : (putBlock t b).2 = true) : 0 ≤ b.before ∧ 0 ≤ findB t.blocks b.before := by
  obtain ⟨h1, h2, h3⟩ := putBlock_is h
  have hv := h2.valid t.blocks.length (by rw [putT_len]; omega)
  rw [putT_new] at hv
  have hL := (h2.link t.blocks.length h1.len.1 (by rw [putT_len]; omega)).lo
  rw [putT_bef h1] at hL
  unfold blockValid at hv
  simp only [Bool.and_eq_true] at hv
  obtain ⟨⟨⟨⟨⟨g1, _⟩, _⟩, _⟩, _⟩, _⟩ := hv
  exact ⟨(inB_iff.1 g1).1, hL⟩

/-- After its vote a voter may not vote for the same block. -/
theorem vote_again {v : Voter} {t : Tree} {c : List Bool} {n : Int} (h : mayVote v t c n = true) : (voteFor v t c n).2 = true ∧ mayVote (voteFor v t c n).1 t c n = false := by
  have hm := mayOk_of h
  obtain ⟨j, k, e, hj, _, _, _, _, _, hv⟩ := voteFor_ok hm.vv h
  have hl : (voteFor v t c n).1.last = (t.blk j).view ∧ (voteFor v t c n).2 = true := by
    rcases hv with ⟨_, _, hv⟩ | ⟨m, _, _, _, hv⟩ <;> rw [hv] <;> exact ⟨rfl, rfl⟩
  refine ⟨hl.2, may_false fun hq => ?_⟩
  have := hq.last
  rw [hl.1, e, Int.toNat_natCast] at this
  omega

/-- What is known of a voter after its vote. -/
theorem vote_facts {v : Voter} {t : Tree} {c : List Bool} {n : Int} (h : (voteFor v t c n).2 = true) :
    voterValid (voteFor v t c n).1.last (voteFor v t c n).1.lock = true ∧ (voteFor v t c n).1.last > v.last ∧ (voteFor v t c n).1.lock ≥ v.lock ∧ (voteFor v t c n).1.lock < (voteFor v t c n).1.last ∧ mayVote ⟨0, 0⟩ t c n = true := by
  have h1 : voterValid v.last v.lock = true := by
    cases e : voterValid v.last v.lock with
    | true => rfl
    | false => unfold voteFor at h; rw [e, if_neg Bool.false_ne_true] at h; cases h
  have h2 : mayVote v t c n = true := by
    cases e : mayVote v t c n with
    | true => rfl
    | false => unfold voteFor at h; rw [h1, e, if_pos rfl, if_neg Bool.false_ne_true] at h; cases h
  have hm := mayOk_of h2
  obtain ⟨j, k, e, hj, hjb, hkb, g1, g2, g3, hv⟩ := voteFor_ok h1 h2
  subst e
  have hj0 := hm.n1
  have hb := blk_bd (hm.tree.valid j hj)
  have hL := hm.tree.link j (by omega) hj
  have hlast := hm.last
  have hlock := hm.lock
  have hlo := hL.lo
  have hhi := hL.hi
  have hlv := hL.view
  rw [Int.toNat_natCast] at hlast hlock
  obtain ⟨i, hi⟩ : ∃ i : Nat, t.bef j = (i : Int) := ⟨(t.bef j).toNat, by omega⟩
  have hbi := blk_bd (hm.tree.valid i (by omega))
  rw [hi, Int.toNat_natCast] at hlv hlock
  have hki : (k : Int) = i := by
    have e1 : (rows encI t.before).getD j [] = [.int .i64 (t.bef j)] := by rw [rows_get _ _ j hjb, t.bef_get j hjb]; rfl
    rw [e1, hi] at g1
    injection g1 with g1
    injection g1 with _ g1
    exact g1.symm
  obtain rfl : k = i := by omega
  have hvv : 0 ≤ v.last ∧ v.last ≤ 1000 ∧ 0 ≤ v.lock ∧ v.lock ≤ 1000 := by
    simp only [voterValid, Bool.and_eq_true, decide_eq_true_eq] at h1
    omega
  have hmay : mayVote ⟨0, 0⟩ t c (j : Int) = true := may_true ⟨by decide, hm.tree, hm.len, hm.n1, hm.n2, hm.cert, by rw [Int.toNat_natCast]; show _ > (0 : Int); omega, by rw [Int.toNat_natCast, hi, Int.toNat_natCast]; show _ ≥ (0 : Int); omega⟩
  rcases hv with ⟨_, _, hv⟩ | ⟨m, hm1, hm2, _, hv⟩
  · rw [hv]
    refine ⟨?_, hlast, Int.le_refl _, by dsimp only; omega, hmay⟩
    simp only [voterValid, Bool.and_eq_true, decide_eq_true_eq]
    omega
  · rw [hv]
    have hbm := blk_bd (hm.tree.valid m hm2)
    have hmv : (t.blk m).view < (t.blk k).view := by
      have hk0 : 0 < k := by
        rcases Nat.eq_zero_or_pos k with e0 | e0
        · rw [e0, hm.tree.bef0] at hm1; omega
        · exact e0
      have := (hm.tree.link k hk0 (by omega)).view
      rw [hm1, Int.toNat_natCast] at this
      exact this
    have hmax : max v.lock (t.blk m).view = v.lock ∨ max v.lock (t.blk m).view = (t.blk m).view := by
      rw [Int.max_def]; split <;> simp
    have hge : max v.lock (t.blk m).view ≥ v.lock := Int.le_max_left _ _
    refine ⟨?_, hlast, hge, by dsimp only; omega, hmay⟩
    simp only [voterValid, Bool.and_eq_true, decide_eq_true_eq]
    omega

end Go.Proofs.Ytmibclbinebnjaa

/- Contracts: drawn keys, values, actions. -/
set_option linter.unusedSimpArgs false
set_option linter.unusedVariables false
set_option maxRecDepth 20000
set_option maxHeartbeats 4000000
namespace Go.Proofs.Ytmibclbinebnjaa
open Go Go.RowKit

def NumQ (lo hi d : Int) (nb : Option Bool) (bs : List Int) (p : Int) (r : AV) (b : List AV) : Prop := ∃ x q : Int, r = .int .i64 x ∧ b = rd nb bs q ∧ p ≤ q ∧ q ≤ p + d ∧ lo ≤ x ∧ x ≤ hi

theorem wr0 : IntKind.i64.wrap 0 = 0 := by decide
theorem wr1 : IntKind.i64.wrap 1 = 1 := by decide
theorem wr2 : IntKind.i64.wrap 2 = 2 := by decide
theorem wr3 : IntKind.i64.wrap 3 = 3 := by decide
theorem wr4 : IntKind.i64.wrap 4 = 4 := by decide
theorem wr5 : IntKind.i64.wrap 5 = 5 := by decide
theorem wr6 : IntKind.i64.wrap 6 = 6 := by decide
theorem tn0 : (0 : Int).toNat = 0 := rfl
theorem tn1 : (1 : Int).toNat = 1 := rfl
theorem tn2 : (2 : Int).toNat = 2 := rfl
theorem tn3 : (3 : Int).toNat = 3 := rfl
theorem tn4 : (4 : Int).toNat = 4 := rfl
theorem tn5 : (5 : Int).toNat = 5 := rfl
theorem tn6 : (6 : Int).toNat = 6 := rfl

theorem c_spec_l20Key (nb : Option Bool) (bs : List Int) (p : Int) (h : RdOk bs p) (hp : p ≤ 999999000) : FSpec Try.prog 128 [.loc 0 0] true (rd nb bs p) (NumQ 0 31 3 nb bs p) := by
  refine fspec_rel tab_ok Try.call128 Try.func128 rfl 13 Try.ntmps128 (of_decide_eq_true rfl) fun B => codeK_sound tab_ok _ _ _ ?_
  unfold rd
  simp (config := { maxSteps := 4000000 }) only [go_sem, simprocAttr, ↓dnA, Try.f128, wr0, wr1, wr2, wr3, wr4, wr5, wr6, tn0, tn1, tn2, tn3, tn4, tn5, tn6]
  refine CallTo.of (c_spec_pick nb bs p 5 h) ?_
  rintro r b ⟨x, rfl, rfl, hx⟩
  have h1 := h.step (q := p + 1) (by omega) (by omega)
  unfold rd
  simp (config := { maxSteps := 4000000 }) only [go_sem, simprocAttr, ↓dnA, Try.f128, wr0, wr1, wr2, wr3, wr4, wr5, wr6, tn0, tn1, tn2, tn3, tn4, tn5, tn6]
  refine CallTo.of (c_spec_pick nb bs (p + 1) 32 h1) ?_
  rintro r b ⟨y, rfl, rfl, hy⟩
  have h2 := h.step (q := p + 1 + 1) (by omega) (by omega)
  unfold rd
  simp (config := { maxSteps := 4000000 }) only [go_sem, simprocAttr, ↓dnA, Try.f128, wr0, wr1, wr2, wr3, wr4, wr5, wr6, tn0, tn1, tn2, tn3, tn4, tn5, tn6]
  refine CallTo.of (c_spec_pick nb bs (p + 1 + 1) 4 h2) ?_
  rintro r b ⟨z, rfl, rfl, hz⟩
  unfold rd
  have hz4 : z = 0 ∨ z = 1 ∨ z = 2 ∨ z = 3 := by omega
  rcases hz4 with rfl | rfl | rfl | rfl
  all_goals
    simp (config := { maxSteps := 4000000 }) only [go_sem, simprocAttr, ↓dnA, Try.f128, wr0, wr1, wr2, wr3, wr4, wr5, wr6, tn0, tn1, tn2, tn3, tn4, tn5, tn6]
    exact .same ⟨_, _, rfl, rfl, by omega, by omega, by omega, by omega⟩


theorem c_spec_l20Value (nb : Option Bool) (bs : List Int) (p : Int) (h : RdOk bs p) (hp : p ≤ 999999000) : FSpec Try.prog 129 [.loc 0 0] true (rd nb bs p) (NumQ 0 1000000 3 nb bs p) := by
  refine fspec_rel tab_ok Try.call129 Try.func129 rfl 15 Try.ntmps129 (of_decide_eq_true rfl) fun B => codeK_sound tab_ok _ _ _ ?_
  unfold rd
  simp (config := { maxSteps := 4000000 }) only [go_sem, simprocAttr, ↓dnA, Try.f129, wr0, wr1, wr2, wr3, wr4, wr5, wr6, tn0, tn1, tn2, tn3, tn4, tn5, tn6]
  refine CallTo.of (c_spec_pick nb bs p 12 h) ?_
  rintro r b ⟨x, rfl, rfl, hx⟩
  have h1 := h.step (q := p + 1) (by omega) (by omega)
  unfold rd
  simp (config := { maxSteps := 4000000 }) only [go_sem, simprocAttr, ↓dnA, Try.f129, wr0, wr1, wr2, wr3, wr4, wr5, wr6, tn0, tn1, tn2, tn3, tn4, tn5, tn6]
  refine CallTo.of (c_spec_pick nb bs (p + 1) 256 h1) ?_
  rintro r b ⟨y, rfl, rfl, hy⟩
  have h2 := h.step (q := p + 1 + 1) (by omega) (by omega)
  unfold rd
  simp (config := { maxSteps := 4000000 }) only [go_sem, simprocAttr, ↓dnA, Try.f129, wr0, wr1, wr2, wr3, wr4, wr5, wr6, tn0, tn1, tn2, tn3, tn4, tn5, tn6]
  refine CallTo.of (c_spec_pick nb bs (p + 1 + 1) 7 h2) ?_
  rintro r b ⟨z, rfl, rfl, hz⟩
  unfold rd
  have hz4 : z = 0 ∨ z = 1 ∨ z = 2 ∨ z = 3 ∨ z = 4 ∨ z = 5 ∨ z = 6 := by omega
  rcases hz4 with rfl | rfl | rfl | rfl | rfl | rfl | rfl
  all_goals
    simp (config := { maxSteps := 4000000 }) only [go_sem, simprocAttr, ↓dnA, Try.f129, wr0, wr1, wr2, wr3, wr4, wr5, wr6, tn0, tn1, tn2, tn3, tn4, tn5, tn6]
    exact .same ⟨_, _, rfl, rfl, by omega, by omega, by omega, by omega⟩

def ActQ (nb : Option Bool) (bs : List Int) (p : Int) (r : AV) (b : List AV) : Prop := ∃ (a : Action) (q : Int), r = .agg (encA a) ∧ b = rd nb bs q ∧ p ≤ q ∧ q ≤ p + 15

theorem c_spec_l20Action (nb : Option Bool) (bs : List Int) (p n : Int) (h : RdOk bs p) (hp : p ≤ 999998000) (hn : 0 ≤ n ∧ n ≤ 1000000) : FSpec Try.prog 130 [.loc 0 0, .int .i64 n] true (rd nb bs p) (ActQ nb bs p) := by
  refine fspec_rel tab_ok Try.call130 Try.func130 rfl 58 Try.ntmps130 (of_decide_eq_true rfl) fun B => codeK_sound tab_ok _ _ _ ?_
  unfold rd
  simp (config := { maxSteps := 4000000 }) only [go_sem, simprocAttr, ↓dnA, Try.f130, wr0, wr1, wr2, wr3, wr4, wr5, wr6, tn0, tn1, tn2, tn3, tn4, tn5, tn6]
  refine CallTo.of (c_spec_pick nb bs p 6 h) ?_
  rintro r b ⟨x, rfl, rfl, hx⟩
  have h1 := h.step (q := p + 1) (by omega) (by omega)
  unfold rd
  simp (config := { maxSteps := 4000000 }) only [go_sem, simprocAttr, ↓dnA, Try.f130, wr0, wr1, wr2, wr3, wr4, wr5, wr6, tn0, tn1, tn2, tn3, tn4, tn5, tn6]
  refine CallTo.of (c_spec_l20Key nb bs (p + 1) h1 (by omega)) ?_
  rintro r b ⟨y, q1, rfl, rfl, hq1, hq1', hy⟩
  have h2 := h.step (q := q1) (by omega) (by omega)
  unfold rd
  simp (config := { maxSteps := 4000000 }) only [go_sem, simprocAttr, ↓dnA, Try.f130, wr0, wr1, wr2, wr3, wr4, wr5, wr6, tn0, tn1, tn2, tn3, tn4, tn5, tn6]
  refine CallTo.of (c_spec_l20Key nb bs q1 h2 (by omega)) ?_
  rintro r b ⟨z, q2, rfl, rfl, hq2, hq2', hz⟩
  have h3 := h.step (q := q2) (by omega) (by omega)
  unfold rd
  simp (config := { maxSteps := 4000000 }) only [go_sem, simprocAttr, ↓dnA, Try.f130, wr0, wr1, wr2, wr3, wr4, wr5, wr6, tn0, tn1, tn2, tn3, tn4, tn5, tn6]
  refine CallTo.of (c_spec_l20Value nb bs q2 h3 (by omega)) ?_
  rintro r b ⟨u, q3, rfl, rfl, hq3, hq3', hu⟩
  have h4 := h.step (q := q3) (by omega) (by omega)
  unfold rd
  have hx6 : x = 0 ∨ x = 1 ∨ x = 2 ∨ x = 3 ∨ x = 4 ∨ x = 5 := by omega
  rcases hx6 with rfl | rfl | rfl | rfl | rfl | rfl
  all_goals
    simp (config := { maxSteps := 4000000 }) only [go_sem, simprocAttr, ↓dnA, Try.f130, wr0, wr1, wr2, wr3, wr4, wr5, wr6, tn0, tn1, tn2, tn3, tn4, tn5, tn6]
    refine CallTo.of (c_spec_odd nb bs q3 n h4 hn) ?_
    rintro r b ⟨g, q4, rfl, rfl, hq4, hq4'⟩
    have h5 := h.step (q := q4) (by omega) (by omega)
    unfold rd
    cases g
    · simp (config := { maxSteps := 4000000 }) only [go_sem, simprocAttr, ↓dnA, Try.f130, wr0, wr1, wr2, wr3, wr4, wr5, wr6, tn0, tn1, tn2, tn3, tn4, tn5, tn6]
      exact .same ⟨⟨_, _, _, _⟩, q4, rfl, rfl, by omega, by omega⟩
    · simp (config := { maxSteps := 4000000 }) only [go_sem, simprocAttr, ↓dnA, Try.f130, wr0, wr1, wr2, wr3, wr4, wr5, wr6, tn0, tn1, tn2, tn3, tn4, tn5, tn6]
      refine CallTo.of (c_spec_pick nb bs q4 4 h5) ?_
      rintro r b ⟨m, rfl, rfl, hm⟩
      have h6 := h.step (q := q4 + 1) (by omega) (by omega)
      unfold rd
      have hm4 : m = 0 ∨ m = 1 ∨ m = 2 ∨ m = 3 := by omega
      rcases hm4 with rfl | rfl | rfl | rfl
      all_goals
        simp (config := { maxSteps := 4000000 }) only [go_sem, simprocAttr, ↓dnA, Try.f130, wr0, wr1, wr2, wr3, wr4, wr5, wr6, tn0, tn1, tn2, tn3, tn4, tn5, tn6]
        first
          | exact .same ⟨⟨_, _, _, _⟩, q4 + 1, rfl, rfl, by omega, by omega⟩
          | (refine CallTo.of (c_spec_pick nb bs (q4 + 1) 2 h6) ?_
             rintro r b ⟨m2, rfl, rfl, hm2⟩
             unfold rd
             have hm4 : m2 = 0 ∨ m2 = 1 := by omega
             rcases hm4 with rfl | rfl
             all_goals
               simp (config := { maxSteps := 4000000 }) only [go_sem, simprocAttr, ↓dnA, Try.f130, wr0, wr1, wr2, wr3, wr4, wr5, wr6, tn0, tn1, tn2, tn3, tn4, tn5, tn6]
               exact .same ⟨⟨_, _, _, _⟩, q4 + 1 + 1, rfl, rfl, by omega, by omega⟩)

end Go.Proofs.Ytmibclbinebnjaa

/- Contracts: drawn lists of actions, drawn stores. -/
set_option linter.unusedSimpArgs false
set_option linter.unusedVariables false
set_option maxRecDepth 20000
set_option maxHeartbeats 4000000
namespace Go.Proofs.Ytmibclbinebnjaa
open Go Go.RowKit

theorem rd_len (nb : Option Bool) (bs : List Int) (p : Int) : (rd nb bs p).length = 2 := rfl

def ActsQ (nb : Option Bool) (bs : List Int) (p : Int) (r : AV) (b : List AV) : Prop := ∃ (xs : List Action) (q : Int), r = .osl true 4 (rows encA xs) ∧ b = rd nb bs q ∧ p ≤ q ∧ q ≤ p + 200 ∧ xs.length ≤ 20

theorem c_spec_l20Actions (nb : Option Bool) (bs : List Int) (p n : Int) (h : RdOk bs p) (hp : p ≤ 999990000) (hn : 0 ≤ n ∧ n ≤ 1000000) : FSpec Try.prog 58 [.loc 0 0, .int .i64 n] true (rd nb bs p) (ActsQ nb bs p) := by
  refine fspec_rel tab_ok Try.call58 Try.func58 rfl 38 Try.ntmps58 (of_decide_eq_true rfl) fun B => codeK_sound tab_ok _ _ _ ?_
  unfold rd
  simp (config := { maxSteps := 4000000 }) only [go_sem, simprocAttr, ↓dnA, Try.f58, rows_length]
  refine CallTo.of (c_spec_pick nb bs p 7 h) ?_
  rintro r b ⟨x, rfl, rfl, hx⟩
  unfold rd
  simp (config := { maxSteps := 4000000 }) only [go_sem, simprocAttr, ↓dnA, Try.f58, rows_length]
  obtain ⟨c0, rfl⟩ : ∃ c0 : Nat, x = (c0 : Int) := ⟨x.toNat, by omega⟩
  refine semL_for tab_ok (fun s : List Action × Nat × Int => ⟨38, [(0, .loc 900 0), (1, .int .i64 n), (5, .row 600 s.1.length), (6, .int .i64 s.2.1)], [(900, .var (rd nb bs s.2.2)), (600, .row true true 4 (rows encA s.1))]⟩) (fun s => s.2.1)
    (fun s => s.1.length + s.2.1 ≤ 6 ∧ p ≤ s.2.2 ∧ s.2.2 + 15 * s.2.1 ≤ p + 91) ([], c0, p + 1) [(900, 900), (7, 600)] (Weak.of (by rfl) ?_ ?_ (by rfl)) (by dsimp only; simp only [List.length_nil]; omega) ?_
  · simp (config := { maxSteps := 4000000 }) only [go_sem, simprocAttr, ↓dnA, Try.f58, rows_length, rd, frW, wk2, wk1, wkL, wkB, hpW, List.mem_cons, Prod.mk.injEq, exists_eq_left, exists_eq_right, exists_eq]
    try rfl
  · simp (config := { maxSteps := 4000000 }) only [go_sem, simprocAttr, ↓dnA, Try.f58, rows_length, rd, frW, wk2, wk1, wkL, wkB, hpW, List.mem_cons, Prod.mk.injEq, exists_eq_left, exists_eq_right, exists_eq]
    try rfl
  · rintro ⟨xs, c, q⟩ ⟨i1, i2, i3⟩
    dsimp only at i1 i2 i3 ⊢
    have hq := h.step (q := q) (by omega) (by omega)
    have htk : (rows encA xs).take xs.length = rows encA xs := by rw [List.take_of_length_le]; rw [rows_length]; omega
    by_cases hc : 0 < c
    · have hd : decide ((c : Int) > 0) = true := by simp; omega
      have hw : IntKind.i64.wrap ((c : Int) - 1) = ((c - 1 : Nat) : Int) := by rw [wrap_small _ (by omega) (by omega)]; omega
      simp (config := { maxSteps := 4000000 }) only [go_sem, simprocAttr, ↓dnA, Try.f58, rows_length, rd, hd, hw, htk]
      refine CallTo.of (c_spec_l20Action nb bs q 0 hq (by omega) (by omega)) ?_
      rintro r b ⟨a, q', rfl, rfl, hq1, hq2⟩
      simp (config := { maxSteps := 4000000 }) only [go_sem, simprocAttr, ↓dnA, Try.f58, rows_length, rd, encA, hd, hw, htk]
      repeat refine And.intro (by first | omega | (simp; done) | (simp; omega) | assumption) ?_
      refine ⟨(xs ++ [a], c - 1, q'), [(900, 900), (18, 600)], ⟨by dsimp only; simp only [List.length_append, List.length_cons, List.length_nil]; omega, by dsimp only; omega, by dsimp only; omega⟩, by dsimp only; omega, Weak.of (by rfl) ?_ ?_ (by rfl)⟩
      · simp (config := { maxSteps := 4000000 }) only [go_sem, simprocAttr, ↓dnA, Try.f58, rows_length, rd, List.length_append, frW, wk2, wk1, wkL, wkB, hpW, List.mem_cons, Prod.mk.injEq, exists_eq_left, exists_eq_right, exists_eq]
        rw [← rows_snoc]; rfl
      · simp (config := { maxSteps := 4000000 }) only [go_sem, simprocAttr, ↓dnA, Try.f58, rows_length, rd, List.length_append, frW, wk2, wk1, wkL, wkB, hpW, List.mem_cons, Prod.mk.injEq, exists_eq_left, exists_eq_right, exists_eq]
    · obtain rfl : c = 0 := by omega
      simp (config := { maxSteps := 4000000 }) only [go_sem, simprocAttr, ↓dnA, Try.f58, rows_length, rd, htk]
      refine CallTo.of (c_spec_odd nb bs q n hq hn) ?_
      rintro r b ⟨g, q1, rfl, rfl, hq1, hq2⟩
      have h5 := h.step (q := q1) (by omega) (by omega)
      unfold rd
      cases g with
      | false =>
        simp (config := { maxSteps := 4000000 }) only [go_sem, simprocAttr, ↓dnA, Try.f58, rows_length, htk]
        exact .same ⟨xs, q1, rfl, rfl, by omega, by omega, by omega⟩
      | true =>
        simp (config := { maxSteps := 4000000 }) only [go_sem, simprocAttr, ↓dnA, Try.f58, rows_length, htk]
        refine CallTo.of (c_spec_pick nb bs q1 2 h5) ?_
        rintro r b ⟨z, rfl, rfl, hz⟩
        have h6 := h.step (q := q1 + 1) (by omega) (by omega)
        unfold rd
        have hz2 : z = 0 ∨ z = 1 := by omega
        rcases hz2 with rfl | rfl
        · simp (config := { maxSteps := 4000000 }) only [go_sem, simprocAttr, ↓dnA, Try.f58, rows_length, htk]
          refine CallTo.of (c_spec_l20Action nb bs (q1 + 1) 1 h6 (by omega) (by omega)) ?_
          rintro r b ⟨a, q', rfl, rfl, hq3, hq4⟩
          have hl : (rows encA xs ++ [[AV.int IntKind.i64 a.kind, AV.int IntKind.i64 a.fr, AV.int IntKind.i64 a.to, AV.int IntKind.i64 a.amount]]) = rows encA (xs ++ [a]) := by rw [← rows_snoc]; rfl
          have hl2 : (xs ++ [a]).length = xs.length + 1 := by simp
          simp (config := { maxSteps := 4000000 }) only [go_sem, simprocAttr, ↓dnA, Try.f58, rows_length, rd, encA, htk, hl, hl2]
          repeat refine And.intro (by first | omega | (simp; done) | (simp; omega) | assumption) ?_
          exact .same ⟨xs ++ [a], q', rfl, rfl, by omega, by omega, by rw [hl2]; omega⟩
        · simp (config := { maxSteps := 4000000 }) only [go_sem, simprocAttr, ↓dnA, Try.f58, rows_length, htk]
          refine semL_for tab_ok (fun s : List Action => ⟨38, [(5, .row 600 s.length)], [(900, .var (rd nb bs (q1 + 1))), (600, .row true true 4 (rows encA s))]⟩) (fun s => 11 - s.length)
            (fun s => s.length ≤ 11) xs [(900, 900), (600, 600)] (Weak.of (by rfl) ?_ ?_ (by rfl)) (by omega) ?_
          · simp (config := { maxSteps := 4000000 }) only [go_sem, simprocAttr, ↓dnA, Try.f58, rows_length, rd, frW, wk2, wk1, wkL, wkB, hpW, List.mem_cons, Prod.mk.injEq, exists_eq_left, exists_eq_right, exists_eq]
          · simp (config := { maxSteps := 4000000 }) only [go_sem, simprocAttr, ↓dnA, Try.f58, rows_length, rd, frW, wk2, wk1, wkL, wkB, hpW, List.mem_cons, Prod.mk.injEq, exists_eq_left, exists_eq_right, exists_eq]
          · intro ys hy
            have htk : (rows encA ys).take ys.length = rows encA ys := by rw [List.take_of_length_le]; rw [rows_length]; omega
            by_cases h10 : ys.length ≤ 10
            · have hd : decide ((ys.length : Int) ≤ 10) = true := by simp; omega
              simp (config := { maxSteps := 4000000 }) only [go_sem, simprocAttr, ↓dnA, Try.f58, rows_length, rd, hd, htk]
              repeat refine And.intro (by first | omega | (simp; done) | (simp; omega) | assumption) ?_
              refine ⟨ys ++ [⟨1, 0, 0, 0⟩], [(900, 900), (36, 600)], by simp; omega, by simp; omega, Weak.of (by rfl) ?_ ?_ (by rfl)⟩
              · simp (config := { maxSteps := 4000000 }) only [go_sem, simprocAttr, ↓dnA, Try.f58, rows_length, rd, List.length_append, frW, wk2, wk1, wkL, wkB, hpW, List.mem_cons, Prod.mk.injEq, exists_eq_left, exists_eq_right, exists_eq]
                rw [← rows_snoc]; rfl
              · simp (config := { maxSteps := 4000000 }) only [go_sem, simprocAttr, ↓dnA, Try.f58, rows_length, rd, List.length_append, frW, wk2, wk1, wkL, wkB, hpW, List.mem_cons, Prod.mk.injEq, exists_eq_left, exists_eq_right, exists_eq]
                try rfl
            · have hd : decide ((ys.length : Int) ≤ 10) = false := by simp; omega
              simp (config := { maxSteps := 4000000 }) only [go_sem, simprocAttr, ↓dnA, Try.f58, rows_length, rd, hd, htk]
              exact .same ⟨ys, q1 + 1, rfl, rfl, by omega, by omega, by omega⟩

end Go.Proofs.Ytmibclbinebnjaa

/- Contracts: drawn stores, drawn serial runs. -/
set_option linter.unusedSimpArgs false
set_option linter.unusedVariables false
set_option maxRecDepth 20000
set_option maxHeartbeats 4000000
namespace Go.Proofs.Ytmibclbinebnjaa
open Go Go.RowKit

/-- A store with a value put. -/
def putValue (s : List Entry) (k x : Int) : List Entry × Bool := if storeValid s then (if inB k 0 31 && inB x 0 1000000 then (putD k x (x == 0) s, true) else (s, false)) else ([], false)

theorem putValue_len (s : List Entry) (k x : Int) (h : s.length ≤ 40) : (putValue s k x).1.length ≤ 40 := by
  unfold putValue
  split
  · rename_i hs
    split
    · rename_i hb
      rw [Bool.and_eq_true] at hb
      have := store_len (putD_ok (inB_iff.1 hb.1) (inB_iff.1 hb.2) hs).1
      dsimp only; omega
    · exact h
  · simp

theorem c_spec_PutValue (n1 : Option Bool) (s : List Entry) (k x : Int) (hs : s.length ≤ 1000) : Det Try.prog 127 [.sl n1 (rows encE s), .int .i64 k, .int .i64 x] (.tup [.osl true 2 (rows encE (putValue s k x).1), .bool (putValue s k x).2]) := by
  refine fspec_det tab_ok Try.call127 Try.func127 rfl 27 Try.ntmps127 (of_decide_eq_true rfl) fun B => codeK_sound tab_ok _ _ _ ?_
  unfold putValue
  have b1 := all_rows encE AV.flat (fun _ => rfl) s
  have b2 := all_rows encE AV.one (fun _ => rfl) s
  have b3 := sz0_rows encE 2 (fun _ => rfl) s
  simp (config := { maxSteps := 4000000 }) only [go_sem, simprocAttr, ↓dnA, Try.f127, rows_length]
  refine CallTo.det (c_spec_StoreValid n1 s (by omega)) fun _ => ?_
  cases h1 : storeValid s with
  | false => simp (config := { maxSteps := 4000000 }) only [go_sem, simprocAttr, ↓dnA, Try.f127, rows_length, h1, rows_nil]
  | true =>
    simp (config := { maxSteps := 4000000 }) only [go_sem, simprocAttr, ↓dnA, Try.f127, rows_length, h1]
    refine CallTo.det (c_l1In _ _ _) fun _ => ?_
    cases h2 : inB k 0 31 with
    | false =>
      simp (config := { maxSteps := 4000000 }) only [go_sem, simprocAttr, ↓dnA, Try.f127, rows_length, h1, h2, b1, b2, b3]
      repeat refine And.intro (by first | omega | (simp; done) | (simp; omega) | assumption) ?_
      omega
    | true =>
      simp (config := { maxSteps := 4000000 }) only [go_sem, simprocAttr, ↓dnA, Try.f127, rows_length, h1, h2]
      refine CallTo.det (c_l1In _ _ _) fun _ => ?_
      cases h3 : inB x 0 1000000 with
      | false =>
        simp (config := { maxSteps := 4000000 }) only [go_sem, simprocAttr, ↓dnA, Try.f127, rows_length, h1, h2, h3, b1, b2, b3]
        repeat refine And.intro (by first | omega | (simp; done) | (simp; omega) | assumption) ?_
        omega
      | true =>
        simp (config := { maxSteps := 4000000 }) only [go_sem, simprocAttr, ↓dnA, Try.f127, rows_length, h1, h2, h3]
        refine CallTo.det (c_spec_l2Put n1 s k x (by omega)) fun _ => ?_
        simp (config := { maxSteps := 4000000 }) only [go_sem, simprocAttr, ↓dnA, Try.f127, rows_length, h1, h2, h3]

def StoreQ (nb : Option Bool) (bs : List Int) (p : Int) (r : AV) (b : List AV) : Prop := ∃ (xs : List Entry) (q : Int), r = .osl true 2 (rows encE xs) ∧ b = rd nb bs q ∧ p ≤ q ∧ q ≤ p + 200 ∧ xs.length ≤ 50

theorem c_spec_l20Store (nb : Option Bool) (bs : List Int) (p n : Int) (h : RdOk bs p) (hp : p ≤ 999990000) (hn : 0 ≤ n ∧ n ≤ 1000000) : FSpec Try.prog 57 [.loc 0 0, .int .i64 n] true (rd nb bs p) (StoreQ nb bs p) := by
  refine fspec_rel tab_ok Try.call57 Try.func57 rfl 57 Try.ntmps57 (of_decide_eq_true rfl) fun B => codeK_sound tab_ok _ _ _ ?_
  unfold rd
  simp (config := { maxSteps := 4000000 }) only [go_sem, simprocAttr, ↓dnA, Try.f57, rows_length, wr0, wr1, wr2, wr3, tn0, tn1, tn2, tn3]
  refine CallTo.of (c_spec_pick nb bs p 7 h) ?_
  rintro r b ⟨x, rfl, rfl, hx⟩
  unfold rd
  simp (config := { maxSteps := 4000000 }) only [go_sem, simprocAttr, ↓dnA, Try.f57, rows_length, wr0, wr1, wr2, wr3, tn0, tn1, tn2, tn3]
  obtain ⟨c0, rfl⟩ : ∃ c0 : Nat, x = (c0 : Int) := ⟨x.toNat, by omega⟩
  refine semL_for tab_ok (fun s : List Entry × Nat × Int => ⟨57, [(0, .loc 900 0), (1, .int .i64 n), (5, .row 600 s.1.length), (6, .int .i64 s.2.1)], [(900, .var (rd nb bs s.2.2)), (600, .row true true 2 (rows encE s.1))]⟩) (fun s => s.2.1)
    (fun s => s.1.length ≤ 40 ∧ p ≤ s.2.2 ∧ s.2.2 + 6 * s.2.1 ≤ p + 91) ([], c0, p + 1) [(900, 900), (7, 600)] (Weak.of (by rfl) ?_ ?_ (by rfl)) (by dsimp only; simp only [List.length_nil]; omega) ?_
  · simp (config := { maxSteps := 4000000 }) only [go_sem, simprocAttr, ↓dnA, Try.f57, rows_length, wr0, wr1, wr2, wr3, tn0, tn1, tn2, tn3, rd, frW, wk2, wk1, wkL, wkB, hpW, List.mem_cons, Prod.mk.injEq, exists_eq_left, exists_eq_right, exists_eq]
    try rfl
  · simp (config := { maxSteps := 4000000 }) only [go_sem, simprocAttr, ↓dnA, Try.f57, rows_length, wr0, wr1, wr2, wr3, tn0, tn1, tn2, tn3, rd, frW, wk2, wk1, wkL, wkB, hpW, List.mem_cons, Prod.mk.injEq, exists_eq_left, exists_eq_right, exists_eq]
    try rfl
  · rintro ⟨xs, c, q⟩ ⟨i1, i2, i3⟩
    dsimp only at i1 i2 i3 ⊢
    have hq := h.step (q := q) (by omega) (by omega)
    have htk : (rows encE xs).take xs.length = rows encE xs := by rw [List.take_of_length_le]; rw [rows_length]; omega
    by_cases hc : 0 < c
    · have hd : decide ((c : Int) > 0) = true := by simp; omega
      have hw : IntKind.i64.wrap ((c : Int) - 1) = ((c - 1 : Nat) : Int) := by rw [wrap_small _ (by omega) (by omega)]; omega
      simp (config := { maxSteps := 4000000 }) only [go_sem, simprocAttr, ↓dnA, Try.f57, rows_length, wr0, wr1, wr2, wr3, tn0, tn1, tn2, tn3, rd, hd, hw, htk]
      refine CallTo.of (c_spec_l20Key nb bs q hq (by omega)) ?_
      rintro r b ⟨k, q', rfl, rfl, hq1, hq2, hk⟩
      have hq' := h.step (q := q') (by omega) (by omega)
      simp (config := { maxSteps := 4000000 }) only [go_sem, simprocAttr, ↓dnA, Try.f57, rows_length, wr0, wr1, wr2, wr3, tn0, tn1, tn2, tn3, rd, hd, hw, htk]
      refine CallTo.of (c_spec_l20Value nb bs q' hq' (by omega)) ?_
      rintro r b ⟨v, q2, rfl, rfl, hq3, hq4, hv⟩
      simp (config := { maxSteps := 4000000 }) only [go_sem, simprocAttr, ↓dnA, Try.f57, rows_length, wr0, wr1, wr2, wr3, tn0, tn1, tn2, tn3, rd, hd, hw, htk]
      have hpl := putValue_len xs k v i1
      refine CallTo.det (c_spec_PutValue _ xs k v (by omega)) fun _ => ?_
      generalize putValue xs k v = ys at hpl
      obtain ⟨ys, ok⟩ := ys
      dsimp only at hpl ⊢
      simp (config := { maxSteps := 4000000 }) only [go_sem, simprocAttr, ↓dnA, Try.f57, rows_length, wr0, wr1, wr2, wr3, tn0, tn1, tn2, tn3, rd, hd, hw, htk]
      refine ⟨(ys, c - 1, q2), [(900, 900), (21000, 600)], ⟨by dsimp only; omega, by dsimp only; omega, by dsimp only; omega⟩, by dsimp only; omega, Weak.of (by rfl) ?_ ?_ (by rfl)⟩
      · simp (config := { maxSteps := 4000000 }) only [go_sem, simprocAttr, ↓dnA, Try.f57, rows_length, wr0, wr1, wr2, wr3, tn0, tn1, tn2, tn3, rd, frW, wk2, wk1, wkL, wkB, hpW, List.mem_cons, Prod.mk.injEq, exists_eq_left, exists_eq_right, exists_eq]
      · simp (config := { maxSteps := 4000000 }) only [go_sem, simprocAttr, ↓dnA, Try.f57, rows_length, wr0, wr1, wr2, wr3, tn0, tn1, tn2, tn3, rd, frW, wk2, wk1, wkL, wkB, hpW, List.mem_cons, Prod.mk.injEq, exists_eq_left, exists_eq_right, exists_eq]
    · obtain rfl : c = 0 := by omega
      have b1 := all_rows encE AV.flat (fun _ => rfl) xs
      have b2 := all_rows encE AV.one (fun _ => rfl) xs
      have b3 := sz0_rows encE 2 (fun _ => rfl) xs
      simp (config := { maxSteps := 4000000 }) only [go_sem, simprocAttr, ↓dnA, Try.f57, rows_length, wr0, wr1, wr2, wr3, tn0, tn1, tn2, tn3, rd, htk]
      refine CallTo.of (c_spec_odd nb bs q n hq hn) ?_
      rintro r b ⟨g, q1, rfl, rfl, hq1, hq2⟩
      have h5 := h.step (q := q1) (by omega) (by omega)
      unfold rd
      cases g with
      | false =>
        simp (config := { maxSteps := 4000000 }) only [go_sem, simprocAttr, ↓dnA, Try.f57, rows_length, wr0, wr1, wr2, wr3, tn0, tn1, tn2, tn3, htk]
        exact .same ⟨xs, q1, rfl, rfl, by omega, by omega, by omega⟩
      | true =>
        simp (config := { maxSteps := 4000000 }) only [go_sem, simprocAttr, ↓dnA, Try.f57, rows_length, wr0, wr1, wr2, wr3, tn0, tn1, tn2, tn3, htk]
        refine CallTo.of (c_spec_pick nb bs q1 4 h5) ?_
        rintro r b ⟨z, rfl, rfl, hz⟩
        have h6 := h.step (q := q1 + 1) (by omega) (by omega)
        unfold rd
        have hz2 : z = 0 ∨ z = 1 ∨ z = 2 ∨ z = 3 := by omega
        rcases hz2 with rfl | rfl | rfl | rfl
        · have hl : rows encE xs ++ [[AV.int IntKind.i64 32, AV.int IntKind.i64 1]] = rows encE (xs ++ [⟨32, 1⟩]) := by rw [← rows_snoc]; rfl
          have hl2 : (xs ++ [(⟨32, 1⟩ : Entry)]).length = xs.length + 1 := by simp
          simp (config := { maxSteps := 4000000 }) only [go_sem, simprocAttr, ↓dnA, Try.f57, rows_length, wr0, wr1, wr2, wr3, tn0, tn1, tn2, tn3, htk, hl, hl2]
          repeat refine And.intro (by first | omega | (simp; done) | (simp; omega) | assumption) ?_
          exact .same ⟨xs ++ [⟨32, 1⟩], q1 + 1, rfl, rfl, by omega, by omega, by rw [hl2]; omega⟩
        · simp (config := { maxSteps := 4000000 }) only [go_sem, simprocAttr, ↓dnA, Try.f57, rows_length, wr0, wr1, wr2, wr3, tn0, tn1, tn2, tn3, htk]
          exact .same ⟨[⟨31, 1⟩, ⟨0, 1⟩], q1 + 1, rfl, rfl, by omega, by omega, by simp⟩
        · simp (config := { maxSteps := 4000000 }) only [go_sem, simprocAttr, ↓dnA, Try.f57, rows_length, wr0, wr1, wr2, wr3, tn0, tn1, tn2, tn3, htk]
          refine CallTo.of (c_spec_pick nb bs (q1 + 1) 3 h6) ?_
          rintro r b ⟨m, rfl, rfl, hm⟩
          unfold rd
          have hm4 : m = 0 ∨ m = 1 ∨ m = 2 := by omega
          rcases hm4 with rfl | rfl | rfl
          · simp (config := { maxSteps := 4000000 }) only [go_sem, simprocAttr, ↓dnA, Try.f57, rows_length, wr0, wr1, wr2, wr3, tn0, tn1, tn2, tn3, htk]
            exact .same ⟨[⟨1, 0⟩], q1 + 1 + 1, rfl, rfl, by omega, by omega, by simp⟩
          · simp (config := { maxSteps := 4000000 }) only [go_sem, simprocAttr, ↓dnA, Try.f57, rows_length, wr0, wr1, wr2, wr3, tn0, tn1, tn2, tn3, htk]
            exact .same ⟨[⟨1, -1⟩], q1 + 1 + 1, rfl, rfl, by omega, by omega, by simp⟩
          · simp (config := { maxSteps := 4000000 }) only [go_sem, simprocAttr, ↓dnA, Try.f57, rows_length, wr0, wr1, wr2, wr3, tn0, tn1, tn2, tn3, htk]
            exact .same ⟨[⟨1, 1000001⟩], q1 + 1 + 1, rfl, rfl, by omega, by omega, by simp⟩
        · simp (config := { maxSteps := 4000000 }) only [go_sem, simprocAttr, ↓dnA, Try.f57, rows_length, wr0, wr1, wr2, wr3, tn0, tn1, tn2, tn3, htk]
          repeat refine And.intro (by first | omega | (simp; done) | (simp; omega) | assumption) ?_
          exact .same ⟨⟨-1, 5⟩ :: xs, q1 + 1, rfl, rfl, by omega, by omega, by simp; omega⟩

def DrawRunQ (r : AV) (b : List AV) : Prop := ∃ (s : List Entry) (l : List Action), r = .tup [.osl true 2 (rows encE s), .osl true 4 (rows encA l)] ∧ s.length ≤ 50 ∧ l.length ≤ 20

theorem c_spec_DrawRunSerial (nb : Option Bool) (bs : List Int) (h : CodeOk bs) : FSpec Try.prog 10 [.sl nb (rows encB bs)] false [] DrawRunQ := by
  refine fspec_rel tab_ok Try.call10 Try.func10 rfl 13 Try.ntmps10 (of_decide_eq_true rfl) fun B => codeK_sound tab_ok _ _ _ ?_
  simp (config := { maxSteps := 4000000 }) only [go_sem, simprocAttr, ↓dnA, Try.f10, rows_length]
  refine CallTo.of (c_spec_l20Open nb bs h) ?_
  rintro r b rfl
  unfold rd
  simp (config := { maxSteps := 4000000 }) only [go_sem, simprocAttr, ↓dnA, Try.f10, rows_length]
  have h0 := code_take h
  refine CallTo.of (c_spec_l20Store nb _ 0 12 h0 (by omega) (by omega)) ?_
  rintro r b ⟨s, q, rfl, rfl, hq1, hq2, hs⟩
  have h1 := h0.step (q := q) (by omega) (by omega)
  unfold rd
  simp (config := { maxSteps := 4000000 }) only [go_sem, simprocAttr, ↓dnA, Try.f10, rows_length]
  refine CallTo.of (c_spec_l20Actions nb _ q 12 h1 (by omega) (by omega)) ?_
  rintro r b ⟨l, q', rfl, rfl, hq3, hq4, hl⟩
  unfold rd
  simp (config := { maxSteps := 4000000 }) only [go_sem, simprocAttr, ↓dnA, Try.f10, rows_length]
  exact .same ⟨s, l, rfl, hs, hl⟩

end Go.Proofs.Ytmibclbinebnjaa

/- Contracts: drawn trees in a line. -/
set_option linter.unusedSimpArgs false
set_option linter.unusedVariables false
set_option maxRecDepth 20000
set_option maxHeartbeats 4000000
namespace Go.Proofs.Ytmibclbinebnjaa
open Go Go.RowKit

theorem putValue_valid {s : List Entry} (h : storeValid s = true) (k x : Int) : storeValid (putValue s k x).1 = true := by
  unfold putValue
  rw [if_pos h]
  split
  · rename_i hb
    rw [Bool.and_eq_true] at hb
    exact (putD_ok (inB_iff.1 hb.1) (inB_iff.1 hb.2) h).1
  · exact h

theorem c_spec_odd0 (nb : Option Bool) (bs : List Int) (p : Int) (h : RdOk bs p) : FSpec Try.prog 76 [.loc 0 0, .int .i64 0] true (rd nb bs p) (fun r b => r = .bool false ∧ b = rd nb bs p) := by
  refine fspec_rel tab_ok Try.call76 Try.func76 rfl 15 Try.ntmps76 (of_decide_eq_true rfl) fun B => codeK_sound tab_ok _ _ _ ?_
  unfold rd
  simp (config := { maxSteps := 4000000 }) only [go_sem, simprocAttr, ↓dnA, Try.f76]
  exact .same ⟨rfl, rfl⟩

def StoreVQ (nb : Option Bool) (bs : List Int) (p : Int) (r : AV) (b : List AV) : Prop := ∃ (xs : List Entry) (q : Int), r = .osl true 2 (rows encE xs) ∧ b = rd nb bs q ∧ p ≤ q ∧ q ≤ p + 200 ∧ storeValid xs = true

theorem c_spec_l20Store0 (nb : Option Bool) (bs : List Int) (p : Int) (h : RdOk bs p) (hp : p ≤ 999990000) : FSpec Try.prog 57 [.loc 0 0, .int .i64 0] true (rd nb bs p) (StoreVQ nb bs p) := by
  refine fspec_rel tab_ok Try.call57 Try.func57 rfl 57 Try.ntmps57 (of_decide_eq_true rfl) fun B => codeK_sound tab_ok _ _ _ ?_
  unfold rd
  simp (config := { maxSteps := 4000000 }) only [go_sem, simprocAttr, ↓dnA, Try.f57, rows_length, wr0, wr1, wr2, wr3, tn0, tn1, tn2, tn3]
  refine CallTo.of (c_spec_pick nb bs p 7 h) ?_
  rintro r b ⟨x, rfl, rfl, hx⟩
  unfold rd
  simp (config := { maxSteps := 4000000 }) only [go_sem, simprocAttr, ↓dnA, Try.f57, rows_length, wr0, wr1, wr2, wr3, tn0, tn1, tn2, tn3]
  obtain ⟨c0, rfl⟩ : ∃ c0 : Nat, x = (c0 : Int) := ⟨x.toNat, by omega⟩
  refine semL_for tab_ok (fun s : List Entry × Nat × Int => ⟨57, [(0, .loc 900 0), (1, .int .i64 0), (5, .row 600 s.1.length), (6, .int .i64 s.2.1)], [(900, .var (rd nb bs s.2.2)), (600, .row true true 2 (rows encE s.1))]⟩) (fun s => s.2.1)
    (fun s => storeValid s.1 = true ∧ p ≤ s.2.2 ∧ s.2.2 + 6 * s.2.1 ≤ p + 91) ([], c0, p + 1) [(900, 900), (7, 600)] (Weak.of (by rfl) ?_ ?_ (by rfl)) ⟨(show storeValid [] = true by decide), by dsimp only; omega, by dsimp only; omega⟩ ?_
  · simp (config := { maxSteps := 4000000 }) only [go_sem, simprocAttr, ↓dnA, Try.f57, rows_length, wr0, wr1, wr2, wr3, tn0, tn1, tn2, tn3, rd, frW, wk2, wk1, wkL, wkB, hpW, List.mem_cons, Prod.mk.injEq, exists_eq_left, exists_eq_right, exists_eq]
    try rfl
  · simp (config := { maxSteps := 4000000 }) only [go_sem, simprocAttr, ↓dnA, Try.f57, rows_length, wr0, wr1, wr2, wr3, tn0, tn1, tn2, tn3, rd, frW, wk2, wk1, wkL, wkB, hpW, List.mem_cons, Prod.mk.injEq, exists_eq_left, exists_eq_right, exists_eq]
    try rfl
  · rintro ⟨xs, c, q⟩ ⟨i1, i2, i3⟩
    dsimp only at i1 i2 i3 ⊢
    have hq := h.step (q := q) (by omega) (by omega)
    have hxl := store_len i1
    have htk : (rows encE xs).take xs.length = rows encE xs := by rw [List.take_of_length_le]; rw [rows_length]; omega
    by_cases hc : 0 < c
    · have hd : decide ((c : Int) > 0) = true := by simp; omega
      have hw : IntKind.i64.wrap ((c : Int) - 1) = ((c - 1 : Nat) : Int) := by rw [wrap_small _ (by omega) (by omega)]; omega
      simp (config := { maxSteps := 4000000 }) only [go_sem, simprocAttr, ↓dnA, Try.f57, rows_length, wr0, wr1, wr2, wr3, tn0, tn1, tn2, tn3, rd, hd, hw, htk]
      refine CallTo.of (c_spec_l20Key nb bs q hq (by omega)) ?_
      rintro r b ⟨k, q', rfl, rfl, hq1, hq2, hk⟩
      have hq' := h.step (q := q') (by omega) (by omega)
      simp (config := { maxSteps := 4000000 }) only [go_sem, simprocAttr, ↓dnA, Try.f57, rows_length, wr0, wr1, wr2, wr3, tn0, tn1, tn2, tn3, rd, hd, hw, htk]
      refine CallTo.of (c_spec_l20Value nb bs q' hq' (by omega)) ?_
      rintro r b ⟨v, q2, rfl, rfl, hq3, hq4, hv⟩
      simp (config := { maxSteps := 4000000 }) only [go_sem, simprocAttr, ↓dnA, Try.f57, rows_length, wr0, wr1, wr2, wr3, tn0, tn1, tn2, tn3, rd, hd, hw, htk]
      have hpl := putValue_valid i1 k v
      refine CallTo.det (c_spec_PutValue _ xs k v (by omega)) fun _ => ?_
      generalize putValue xs k v = ys at hpl
      obtain ⟨ys, ok⟩ := ys
      dsimp only at hpl ⊢
      simp (config := { maxSteps := 4000000 }) only [go_sem, simprocAttr, ↓dnA, Try.f57, rows_length, wr0, wr1, wr2, wr3, tn0, tn1, tn2, tn3, rd, hd, hw, htk]
      refine ⟨(ys, c - 1, q2), [(900, 900), (21000, 600)], ⟨hpl, by dsimp only; omega, by dsimp only; omega⟩, by dsimp only; omega, Weak.of (by rfl) ?_ ?_ (by rfl)⟩
      · simp (config := { maxSteps := 4000000 }) only [go_sem, simprocAttr, ↓dnA, Try.f57, rows_length, wr0, wr1, wr2, wr3, tn0, tn1, tn2, tn3, rd, frW, wk2, wk1, wkL, wkB, hpW, List.mem_cons, Prod.mk.injEq, exists_eq_left, exists_eq_right, exists_eq]
      · simp (config := { maxSteps := 4000000 }) only [go_sem, simprocAttr, ↓dnA, Try.f57, rows_length, wr0, wr1, wr2, wr3, tn0, tn1, tn2, tn3, rd, frW, wk2, wk1, wkL, wkB, hpW, List.mem_cons, Prod.mk.injEq, exists_eq_left, exists_eq_right, exists_eq]
    · obtain rfl : c = 0 := by omega
      simp (config := { maxSteps := 4000000 }) only [go_sem, simprocAttr, ↓dnA, Try.f57, rows_length, wr0, wr1, wr2, wr3, tn0, tn1, tn2, tn3, rd, htk]
      refine CallTo.of (c_spec_odd0 nb bs q hq) ?_
      rintro r b ⟨rfl, rfl⟩
      unfold rd
      simp (config := { maxSteps := 4000000 }) only [go_sem, simprocAttr, ↓dnA, Try.f57, rows_length, wr0, wr1, wr2, wr3, tn0, tn1, tn2, tn3, htk]
      exact .same ⟨xs, q, rfl, rfl, by omega, by omega, i1⟩

theorem c_spec_FirstBlock0 (n1 : Option Bool) (s : List Entry) (hx : s.length < 2 ^ 62) : Det Try.prog 148 [.sl n1 (rows encE s)] (.agg (encBk0 (firstBlock s))) := by
  refine fspec_det tab_ok Try.call148 Try.func148 rfl 12 Try.ntmps148 (of_decide_eq_true rfl) fun B => codeK_sound tab_ok _ _ _ ?_
  simp (config := { maxSteps := 4000000 }) only [go_sem, simprocAttr, ↓dnA, Try.f148, rows_length]
  refine CallTo.det (c_spec_StoreValid _ _ hx) fun _ => ?_
  cases h : storeValid s with
  | false => simp (config := { maxSteps := 4000000 }) only [go_sem, simprocAttr, ↓dnA, Try.f148, rows_length, h, firstBlock, encBk0]
  | true =>
    simp (config := { maxSteps := 4000000 }) only [go_sem, simprocAttr, ↓dnA, Try.f148, rows_length, h]
    refine CallTo.det (c_spec_RootOf _ _ hx) fun _ => ?_
    simp (config := { maxSteps := 4000000 }) only [go_sem, simprocAttr, ↓dnA, Try.f148, rows_length, h]
    refine CallTo.det (c_spec_EffectsSum0 _) fun _ => ?_
    simp (config := { maxSteps := 4000000 }) only [go_sem, simprocAttr, ↓dnA, Try.f148, rows_length, h, firstBlock, encBk0]

theorem c_spec_TreeOf (n1 : Option Bool) (s : List Entry) (hs : storeValid s = true) : Det Try.prog 145 [.sl n1 (rows encE s)] (.agg (encTF (treeOf s))) := by
  refine fspec_det tab_ok Try.call145 Try.func145 rfl 15 Try.ntmps145 (of_decide_eq_true rfl) fun B => codeK_sound tab_ok _ _ _ ?_
  have hsl := store_len hs
  have b1 := all_rows encE AV.flat (fun _ => rfl) s
  have b2 := all_rows encE AV.one (fun _ => rfl) s
  have b3 := sz0_rows encE 2 (fun _ => rfl) s
  have ht : treeOf s = ⟨s, [firstBlock s], [-1]⟩ := by unfold treeOf; rw [if_pos hs]
  rw [ht]
  simp (config := { maxSteps := 4000000 }) only [go_sem, simprocAttr, ↓dnA, Try.f145, rows_length]
  refine CallTo.det (c_spec_StoreValid n1 s (by omega)) fun _ => ?_
  simp (config := { maxSteps := 4000000 }) only [go_sem, simprocAttr, ↓dnA, Try.f145, rows_length, hs]
  repeat refine And.intro (by first | omega | (simp; done) | (simp; omega) | assumption) ?_
  refine CallTo.det (c_spec_FirstBlock0 n1 s (by omega)) fun _ => ?_
  have hf : encBk none (firstBlock s) = [.int .i64 (firstBlock s).before, .int .i64 (firstBlock s).height, .int .i64 (firstBlock s).view, .sl none [], .int .i64 (firstBlock s).root, .int .i64 (firstBlock s).effects] := by
    unfold encBk
    rw [firstBlock_list]
    rfl
  simp (config := { maxSteps := 4000000 }) only [go_sem, simprocAttr, ↓dnA, Try.f145, rows_length, hs, encBk0]
  simp only [encTF, rows, List.map_cons, List.map_nil, encB1, hf, encI]
  simp [rwL, rwC]

def LineQ (nb : Option Bool) (bs : List Int) (p n : Int) (r : AV) (b : List AV) : Prop := ∃ (t : Tree) (q : Int), r = .agg (encTF t) ∧ b = rd nb bs q ∧ p ≤ q ∧ q ≤ p + 1000 ∧ tsz t ≤ 200 ∧ 1 ≤ t.blocks.length ∧ t.blocks.length ≤ 14 ∧ (n = 0 → TreeOk t)

theorem treeOk_small {t : Tree} (ht : TreeOk t) : tsz t ≤ 200 := by
  have h1 := store_len ht.store
  have h2 := ht.len
  have h3 := ht.bef
  have h4 := lsum_le t.blocks fun b hb => by
    obtain ⟨i, hi, rfl⟩ := List.getElem_of_mem hb
    rw [t.blk_get i hi]
    exact (blk_acts ht hi).2.1
  unfold tsz; omega

theorem c_spec_l20Line (nb : Option Bool) (bs : List Int) (p n : Int) (h : RdOk bs p) (hp : p ≤ 999980000) (hn : 0 ≤ n ∧ n ≤ 1000000) : FSpec Try.prog 74 [.loc 0 0, .int .i64 n] true (rd nb bs p) (LineQ nb bs p n) := by
  refine fspec_rel tab_ok Try.call74 Try.func74 rfl 63 Try.ntmps74 (of_decide_eq_true rfl) fun B => codeK_sound tab_ok _ _ _ ?_
  unfold rd
  simp (config := { maxSteps := 4000000 }) only [go_sem, simprocAttr, ↓dnA, Try.f74, rows_length]
  refine CallTo.of (c_spec_l20Store0 nb bs p h (by omega)) ?_
  rintro r b ⟨s, p1, rfl, rfl, hp1, hp2, hsv⟩
  unfold rd
  simp (config := { maxSteps := 4000000 }) only [go_sem, simprocAttr, ↓dnA, Try.f74, rows_length]
  refine CallTo.det (c_spec_TreeOf _ s hsv) fun _ => ?_
  have ht0 := treeOf_ok hsv
  generalize treeOf s = t0 at ht0
  have hr1 := h.step (q := p1) (by omega) (by omega)
  simp (config := { maxSteps := 4000000 }) only [go_sem, simprocAttr, ↓dnA, Try.f74, rows_length, encTF]
  refine CallTo.of (c_spec_pick nb bs p1 9 hr1) ?_
  rintro r b ⟨x, rfl, rfl, hx⟩
  unfold rd
  simp (config := { maxSteps := 4000000 }) only [go_sem, simprocAttr, ↓dnA, Try.f74, rows_length, encTF]
  obtain ⟨c0, rfl⟩ : ∃ c0 : Nat, x = (c0 : Int) := ⟨x.toNat, by omega⟩
  refine semL_for tab_ok (fun s : Tree × Nat × Int => ⟨63, [(0, .loc 900 0), (1, .int .i64 n), (4, .loc 4 0), (5, .loc 5 0), (6, .int .i64 s.2.1)],
      [(900, .var (rd nb bs s.2.2)), (4, .var [.sl (some false) [], .sl (some false) [], .sl (some false) []]), (5, .var [.row 601 s.1.base.length, .row 602 s.1.blocks.length, .row 603 s.1.before.length]),
        (601, .row true false 2 (rows encE s.1.base)), (602, .row true false 6 (rows encB1 s.1.blocks)), (603, .row true false 1 (rows encI s.1.before))]⟩) (fun s => s.2.1)
    (fun s => TreeOk s.1 ∧ p1 + 1 ≤ s.2.2 ∧ s.2.2 + 20 * s.2.1 ≤ p1 + 181) (t0, c0, p1 + 1) [(900, 900), (4, 4), (5, 5), (11000, 601), (11001, 602), (11002, 603)] (Weak.of (by rfl) ?_ ?_ (by rfl)) ⟨ht0, by dsimp only; omega, by dsimp only; omega⟩ ?_
  · simp (config := { maxSteps := 4000000 }) only [go_sem, simprocAttr, ↓dnA, Try.f74, rows_length, rd, encTF, frW, wk2, wk1, wkL, wkB, hpW, List.mem_cons, Prod.mk.injEq, exists_eq_left, exists_eq_right, exists_eq]
    try rfl
  · simp (config := { maxSteps := 4000000 }) only [go_sem, simprocAttr, ↓dnA, Try.f74, rows_length, rd, frW, wk2, wk1, wkL, wkB, hpW, List.mem_cons, Prod.mk.injEq, exists_eq_left, exists_eq_right, exists_eq]
    try rfl
  · rintro ⟨t, c, q⟩ ⟨ht, i2, i3⟩
    dsimp only at ht i2 i3 ⊢
    have hq := h.step (q := q) (by omega) (by omega)
    have hlen := ht.len
    have hbf := ht.bef
    by_cases hc : 0 < c
    · have hd : decide ((c : Int) > 0) = true := by simp; omega
      have hwc : IntKind.i64.wrap ((c : Int) - 1) = ((c - 1 : Nat) : Int) := by rw [wrap_small _ (by omega) (by omega)]; omega
      have hwl : IntKind.i64.wrap ((t.blocks.length : Int) - 1) = ((t.blocks.length - 1 : Nat) : Int) := by rw [wrap_small _ (by omega) (by omega)]; omega
      simp (config := { maxSteps := 4000000 }) only [go_sem, simprocAttr, ↓dnA, Try.f74, rows_length, encTF, rd, hd, hwl]
      refine CallTo.of (c_spec_pick nb bs q 5 hq) ?_
      rintro r b ⟨z, rfl, rfl, hz⟩
      have hq1 := h.step (q := q + 1) (by omega) (by omega)
      by_cases hz0 : z = 0
      · subst hz0
        have e0 : ((0 : Int) == 0) = true := rfl
        simp (config := { maxSteps := 4000000 }) only [go_sem, simprocAttr, ↓dnA, Try.f74, rows_length, encTF, rd, hd, hwl, e0]
        refine CallTo.of (c_spec_pick nb bs (q + 1) (t.blocks.length : Int) hq1) ?_
        rintro r b ⟨m, rfl, rfl, hm⟩
        have hq1' := h.step (q := q + 1 + 1) (by omega) (by omega)
        obtain ⟨k, rfl⟩ : ∃ k : Nat, m = (k : Int) := ⟨m.toNat, by omega⟩
        have hk : k < t.blocks.length := by omega
        have hbk : (rows encB1 t.blocks).getD k [] = encB1 (t.blk k) := rows_gd encB1 t.blocks k hk
        have hvb := (blockValid_bd (ht.valid k hk)).2.1
        have hv1 : IntKind.i64.wrap ((t.blk k).view + 1) = (t.blk k).view + 1 := wrap_small _ (by omega) (by omega)
        simp (config := { maxSteps := 4000000 }) only [go_sem, simprocAttr, ↓dnA, Try.f74, rows_length, encTF, rd, hd, hwl, e0]
        refine semL_draw tab_ok mixed_ rfl (ord := [(0, []), (1, []), (2, []), (3, []), (4, []), (5, []), (6, []), (7, []), (8, []), (9, []), (13, []), (10, [0, 1, 2, 3, 4, 5, 6, 7, 8, 13]), (11, []), (12, []), (14, [0, 1, 2, 3, 4, 5, 6, 7, 8, 11, 12]), (15, [0, 1, 2, 3, 4, 5, 6, 7, 8, 11, 12]), (16, []), (17, []), (18, []), (19, []), (20, [19])]) (by dsimp only; decide +kernel) ?_
        simp (config := { maxSteps := 4000000 }) only [go_sem, simprocAttr, ↓dnA, Try.f74, rows_length, encTF, rd, hd, hwl, e0, nlt hk, hk, nn0, hbk, encB1, encBk, hv1]
        refine CallTo.of (c_spec_pick nb bs (q + 1 + 1) 6 hq1') ?_
        rintro r b ⟨y, rfl, rfl, hy⟩
        have hq2 := h.step (q := (q + 1 + 1) + 1) (by omega) (by omega)
        have hyd : y.tdiv 5 = y / 5 := Int.tdiv_eq_ediv_of_nonneg hy.1
        have hv2 : IntKind.i64.wrap (y.tdiv 5) = y / 5 := by rw [hyd]; exact wrap_small _ (by omega) (by omega)
        have hv3 : IntKind.i64.wrap ((t.blk k).view + 1 + y / 5) = (t.blk k).view + 1 + y / 5 := wrap_small _ (by omega) (by omega)
        simp (config := { maxSteps := 4000000 }) only [go_sem, simprocAttr, ↓dnA, Try.f74, rows_length, encTF, rd, hd, hwl, e0, nlt hk, hk, nn0, hbk, encB1, encBk, hv1, hv2, hv3]
        refine CallTo.of (c_spec_l20Action nb bs ((q + 1 + 1) + 1) 0 hq2 (by omega) (by omega)) ?_
        rintro r b ⟨a, q', rfl, rfl, hq3, hq4⟩
        have hgo := growTree_ok ht (k : Int) ((t.blk k).view + 1 + y / 5) [a]
        have hG := c_spec_GrowTree none none none (some true) t (k : Int) ((t.blk k).view + 1 + y / 5) [a] (treeOk_s32 ht) (by simp)
        generalize growTree t (k : Int) ((t.blk k).view + 1 + y / 5) [a] = g at hgo hG
        obtain ⟨g, ok⟩ := g
        dsimp only at hgo hG
        simp (config := { maxSteps := 4000000 }) only [go_sem, simprocAttr, ↓dnA, Try.f74, rows_length, encTF, rd, hd, hwl, e0, nlt hk, hk, nn0, hbk, encB1, encBk, hv1, hv2, hv3, encA]
        refine CallTo.det hG fun _ => ?_
        simp (config := { maxSteps := 4000000 }) only [go_sem, simprocAttr, ↓dnA, Try.f74, rows_length, encTF, rd, hd, hwl, e0, nlt hk, hk, nn0, hbk, encB1, encBk, hv1, hv2, hv3, encA, hwc]
        refine ⟨(g, c - 1, q'), [(900, 900), (4, 4), (5, 5), (47000, 601), (47001, 602), (47002, 603)], ⟨hgo, by dsimp only; omega, by dsimp only; omega⟩, by dsimp only; omega, Weak.of (by rfl) ?_ ?_ (by rfl)⟩
        · simp (config := { maxSteps := 4000000 }) only [go_sem, simprocAttr, ↓dnA, Try.f74, rows_length, rd, encTF, frW, wk2, wk1, wkL, wkB, hpW, List.mem_cons, Prod.mk.injEq, exists_eq_left, exists_eq_right, exists_eq]
        · simp (config := { maxSteps := 4000000 }) only [go_sem, simprocAttr, ↓dnA, Try.f74, rows_length, rd, frW, wk2, wk1, wkL, wkB, hpW, List.mem_cons, Prod.mk.injEq, exists_eq_left, exists_eq_right, exists_eq]
      · have e0 : (z == 0) = false := by simp [hz0]
        obtain ⟨k, hkk⟩ : ∃ k : Nat, t.blocks.length - 1 = k := ⟨_, rfl⟩
        rw [hkk] at hwl
        have hk : k < t.blocks.length := by omega
        have hbk : (rows encB1 t.blocks).getD k [] = encB1 (t.blk k) := rows_gd encB1 t.blocks k hk
        have hvb := (blockValid_bd (ht.valid k hk)).2.1
        have hv1 : IntKind.i64.wrap ((t.blk k).view + 1) = (t.blk k).view + 1 := wrap_small _ (by omega) (by omega)
        simp (config := { maxSteps := 4000000 }) only [go_sem, simprocAttr, ↓dnA, Try.f74, rows_length, encTF, rd, hd, hwl, e0]
        refine semL_draw tab_ok mixed_ rfl (ord := [(0, []), (1, []), (2, []), (3, []), (4, []), (5, []), (6, []), (7, []), (8, []), (9, []), (13, []), (10, [0, 1, 2, 3, 4, 5, 6, 7, 8, 13]), (11, []), (12, []), (14, [0, 1, 2, 3, 4, 5, 6, 7, 8, 11, 12]), (15, [0, 1, 2, 3, 4, 5, 6, 7, 8, 11, 12]), (16, []), (17, []), (18, []), (19, []), (20, [19])]) (by dsimp only; decide +kernel) ?_
        simp (config := { maxSteps := 4000000 }) only [go_sem, simprocAttr, ↓dnA, Try.f74, rows_length, encTF, rd, hd, hwl, e0, nlt hk, hk, nn0, hbk, encB1, encBk, hv1]
        refine CallTo.of (c_spec_pick nb bs (q + 1) 6 hq1) ?_
        rintro r b ⟨y, rfl, rfl, hy⟩
        have hq2 := h.step (q := (q + 1) + 1) (by omega) (by omega)
        have hyd : y.tdiv 5 = y / 5 := Int.tdiv_eq_ediv_of_nonneg hy.1
        have hv2 : IntKind.i64.wrap (y.tdiv 5) = y / 5 := by rw [hyd]; exact wrap_small _ (by omega) (by omega)
        have hv3 : IntKind.i64.wrap ((t.blk k).view + 1 + y / 5) = (t.blk k).view + 1 + y / 5 := wrap_small _ (by omega) (by omega)
        simp (config := { maxSteps := 4000000 }) only [go_sem, simprocAttr, ↓dnA, Try.f74, rows_length, encTF, rd, hd, hwl, e0, nlt hk, hk, nn0, hbk, encB1, encBk, hv1, hv2, hv3]
        refine CallTo.of (c_spec_l20Action nb bs ((q + 1) + 1) 0 hq2 (by omega) (by omega)) ?_
        rintro r b ⟨a, q', rfl, rfl, hq3, hq4⟩
        have hgo := growTree_ok ht (k : Int) ((t.blk k).view + 1 + y / 5) [a]
        have hG := c_spec_GrowTree none none none (some true) t (k : Int) ((t.blk k).view + 1 + y / 5) [a] (treeOk_s32 ht) (by simp)
        generalize growTree t (k : Int) ((t.blk k).view + 1 + y / 5) [a] = g at hgo hG
        obtain ⟨g, ok⟩ := g
        dsimp only at hgo hG
        simp (config := { maxSteps := 4000000 }) only [go_sem, simprocAttr, ↓dnA, Try.f74, rows_length, encTF, rd, hd, hwl, e0, nlt hk, hk, nn0, hbk, encB1, encBk, hv1, hv2, hv3, encA]
        refine CallTo.det hG fun _ => ?_
        simp (config := { maxSteps := 4000000 }) only [go_sem, simprocAttr, ↓dnA, Try.f74, rows_length, encTF, rd, hd, hwl, e0, nlt hk, hk, nn0, hbk, encB1, encBk, hv1, hv2, hv3, encA, hwc]
        refine ⟨(g, c - 1, q'), [(900, 900), (4, 4), (5, 5), (47000, 601), (47001, 602), (47002, 603)], ⟨hgo, by dsimp only; omega, by dsimp only; omega⟩, by dsimp only; omega, Weak.of (by rfl) ?_ ?_ (by rfl)⟩
        · simp (config := { maxSteps := 4000000 }) only [go_sem, simprocAttr, ↓dnA, Try.f74, rows_length, rd, encTF, frW, wk2, wk1, wkL, wkB, hpW, List.mem_cons, Prod.mk.injEq, exists_eq_left, exists_eq_right, exists_eq]
        · simp (config := { maxSteps := 4000000 }) only [go_sem, simprocAttr, ↓dnA, Try.f74, rows_length, rd, frW, wk2, wk1, wkL, wkB, hpW, List.mem_cons, Prod.mk.injEq, exists_eq_left, exists_eq_right, exists_eq]
    · obtain rfl : c = 0 := by omega
      simp (config := { maxSteps := 4000000 }) only [go_sem, simprocAttr, ↓dnA, Try.f74, rows_length, encTF, rd]
      have hts := treeOk_small ht
      by_cases hn0 : n = 0
      · subst hn0
        refine CallTo.of (c_spec_odd0 nb bs q hq) ?_
        rintro r b ⟨rfl, rfl⟩
        simp (config := { maxSteps := 4000000 }) only [go_sem, simprocAttr, ↓dnA, Try.f74, rows_length, encTF, rd]
        exact .same ⟨t, q, rfl, rfl, by omega, by omega, hts, by omega, by omega, fun _ => ht⟩
      refine CallTo.of (c_spec_odd nb bs q n hq hn) ?_
      rintro r b ⟨g, q1, rfl, rfl, hq1, hq2⟩
      cases g with
      | false =>
        simp (config := { maxSteps := 4000000 }) only [go_sem, simprocAttr, ↓dnA, Try.f74, rows_length, encTF, rd]
        exact .same ⟨t, q1, rfl, rfl, by omega, by omega, hts, by omega, by omega, fun _ => ht⟩
      | true =>
        have hwb : IntKind.i64.wrap ((t.before.length : Int) - 1) = ((t.before.length - 1 : Nat) : Int) := by rw [wrap_small _ (by omega) (by omega)]; omega
        obtain ⟨k, hkk⟩ : ∃ k : Nat, t.before.length - 1 = k := ⟨_, rfl⟩
        rw [hkk] at hwb
        have hkb : k < t.before.length := by omega
        have hrs : (rows encI t.before).set k [.int .i64 (t.before.length : Int)] = rows encI (t.before.set k (t.before.length : Int)) := by rw [← rows_set]; rfl
        simp (config := { maxSteps := 4000000 }) only [go_sem, simprocAttr, ↓dnA, Try.f74, rows_length, encTF, rd, hwb, nlt hkb, hkb, nn0, rows_get _ _ _ hkb, encI, spliceL, List.length_set, hrs]
        exact .same ⟨⟨t.base, t.blocks, t.before.set k (t.before.length : Int)⟩, q1, by simp [encTF], rfl, by omega, by omega, by unfold tsz at hts ⊢; simp; omega, by dsimp only; omega, by dsimp only; omega, fun h => absurd h hn0⟩

end Go.Proofs.Ytmibclbinebnjaa

/- Regions with an operation that waits for none of several calls; pieces of code that lead to one of some states. -/
set_option linter.unusedSimpArgs false
set_option linter.unusedVariables false
set_option maxRecDepth 20000
set_option maxHeartbeats 4000000
namespace Go.Proofs.Ytmibclbinebnjaa
open Go Go.RowKit

section
variable {P : Program} {T : Tab} {B : Base} {ops : Array Oper}

def rkL (l : List Nat) (i : Nat) : Nat := l.getD i 0

/-- The region with the operation b at its place i beside the operations cs. -/
def slotsOk (T : Tab) (n : Nat) (b : Nat) : List Nat → Array Oper → List (List Nat × List (Nat × List Nat)) → Bool
  | [], ops, [o] => drawOkS (rkL o.1) T ops n o.2
  | c :: r, ops, o :: q => drawOkS (rkL o.1) T (addDep ops c b) n o.2 && slotsOk T n b r (addDep ops b c) q
  | _, _, _ => false
def slotsK (P : Program) (T : Tab) (ops : List Oper) (Φ : AState → Prop) (s : AState) : List (List Nat × List (Nat × List Nat)) → Prop
  | [] => True
  | o :: q => drawK P T ops Φ o.2 s ∧ slotsK P T ops Φ s q

theorem slots_run (hT : TabOk P T) {Kx : Exit → AState → Prop} {X : Ctx} {s : AState} {x : Act} {w : World} {n : Nat} (hn : s.nt = n) (hXB : X.base = B) (hR : R X s x w) (b : Nat) {l : List Nat} : ∀ (cs : List Nat) (ops : Array Oper) (os : List (List Nat × List (Nat × List Nat))),
    (cs.all fun c => b != c) = true → slotsOk T n b cs ops os = true → slotsK P T ops.toList (Kx .normal) s os → ValE ops (Array.replicate ops.size false) l →
    wpOps P ops (fun e a w => Post B (Kx e) a w) l x { w with drawn := w.drawn + 1 }
  | [], ops, [], _, h, _, _ => by cases h
  | [], ops, [o], _, h, hk, hv => by
    have e := draw_start (B := B) (Kx := Kx) hT hn (show drawOkS (rkL o.1) T ops n o.2 = true from h) hXB hR hk.1
    exact val_run _ _ _ _ _ hv e
  | [], ops, _ :: _ :: _, _, h, _, _ => by cases h
  | c :: r, ops, [], _, h, _, _ => by cases h
  | c :: r, ops, o :: q, hb, h, hk, hv => by
    have hb := hb
    rw [List.all_cons, Bool.and_eq_true] at hb
    have hbc : b ≠ c := by simpa using hb.1
    have h : (drawOkS (rkL o.1) T (addDep ops c b) n o.2 && slotsOk T n b r (addDep ops b c) q) = true := h
    rw [Bool.and_eq_true] at h
    obtain ⟨k1, k2⟩ := hk
    have hsz : ∀ (ops : Array Oper) b a, (addDep ops b a).size = ops.size := fun ops b a => by unfold addDep; simp
    have kk : ∀ (os : List (List Nat × List (Nat × List Nat))), slotsK P T ops.toList (Kx .normal) s os → slotsK P T (addDep ops b c).toList (Kx .normal) s os := by
      intro os
      induction os with
      | nil => intro h; exact h
      | cons y z ih => intro h; exact ⟨by rw [drawK_addDep]; exact h.1, ih h.2⟩
    rcases val_two hbc _ _ (by simp) hv with hv | hv
    · have e1 := draw_start (B := B) (Kx := Kx) hT hn h.1 hXB hR (by rw [drawK_addDep]; exact k1)
      rw [hsz] at e1
      exact wpOps_addDep _ _ _ (val_run _ _ _ _ _ hv e1)
    · have hv : ValE (addDep ops b c) (Array.replicate (addDep ops b c).size false) l := by rw [hsz]; exact hv
      exact wpOps_addDep _ _ _ (slots_run hT hn hXB hR b r (addDep ops b c) q hb.2 h.2 (kk q k2) hv)

/-- A region in which the operation b may come at any place beside the operations cs, each of which waits for the one before it. -/
theorem semL_slots (hT : TabOk P T) {Kx : Exit → AState → Prop} {s : AState} {id n : Nat} (b : Nat) (cs : List Nat) {os : List (List Nat × List (Nat × List Nat))} (hm : P.follows .mixedOrders = true) (hn : s.nt = n) (hb : (cs.all fun c => b != c) = true)
    (hk : slotsOk T n b cs ops os = true) (h : slotsK P T ops.toList (Kx .normal) s os) : @SemL P B (.region id ops true) s ⟨Kx⟩ := by
  intro X x w hXB hR
  refine wp_region_draw fun t => ?_
  simp only [Region.schedule, hm, Bool.true_or, if_true]
  have hv := go_val (ops := ops) ops.size t (Array.replicate ops.size false) (by simp) (by
    rw [Array.toList_replicate]
    generalize ops.size = m
    induction m with
    | zero => exact Nat.le_refl _
    | succ m ih => rw [List.replicate_succ]; simp only [cntF]; simp; omega)
  exact slots_run hT hn hXB hR b cs ops os hb hk h hv

/-- A piece of code that leads to one of some states. -/
def MidN {ι : Type} (st : ι → AState) (I : ι → Prop) (s : AState) : Prop := ∃ i ρ, I i ∧ Weak ρ s (st i)
theorem semL_mid {P : Program} {B : Base} {c : Code} {s : AState} {Kx : Exit → AState → Prop} {ι : Type} (st : ι → AState) (I : ι → Prop) (h : @SemL P B c s ⟨fun e s' => e = .normal ∧ MidN st I s'⟩) (h2 : ∀ i, I i → Kx .normal (st i)) : @SemL P B c s ⟨Kx⟩ := by
  intro X a w hB hR
  refine wp_mono (h X a w hB hR) ?_
  rintro e a' w' ⟨X', s', h1, h2', rfl, i, ρ, hi, hw⟩
  obtain ⟨X2, h3, h4⟩ := Ghost.weak hw X' a' w' h2'
  exact ⟨X2, st i, h3.trans h1, h4, h2 i hi⟩
/-- Nested values of an own row may be read as immutable ones. -/
theorem Ghost.disown {s : AState} (id : Nat) {nn : Bool} {sz : Nat} {es : List (List AV)} (hb : s.blk id = .row true nn sz es) : Ghost s { s with hp := (id, .row false nn sz es) :: s.hp } := fun X a w h => by
  obtain ⟨X', h1, _, _, h2⟩ := h.disown hb
  exact ⟨X', h1, h2⟩
end

end Go.Proofs.Ytmibclbinebnjaa

/- Arguments of the laws, by their types. -/
set_option linter.unusedSimpArgs false
namespace Go.Proofs.Ytmibclbinebnjaa
open Go Go.ChangeShapes Go.WideShapes Go.ChangeAt Go.RowKit

theorem own_ : ownKnob Try.prog.godebug = none := by kernel_rfl
theorem laidOut_ : laidOutB Try.prog = true := by kernel_rfl

theorem ty_int {cs : List AV} (h : Ty tab 3 cs) : ∃ n, cs = [.int .i64 n] ∧ IntKind.i64.has n := h.int_inv tabAt_3 rfl
theorem ty_bool {cs : List AV} (h : Ty tab 4 cs) : ∃ b, cs = [.bool b] := h.bool_inv tabAt_4 rfl
theorem ty_intA {a : AV} (h : TyArg tab 3 a) : ∃ n, a = .int .i64 n := by
  obtain ⟨n, e, _⟩ := ty_int (h.one_inv tabAt_3 rfl)
  exact ⟨n, by simpa using e⟩

/-- The cells of one value read as the cells of a datum. -/
def Leqs (r c : List AV) : Prop := r.length = c.length ∧ ∀ (j : Nat) (_ : j < c.length), Leq (r.getD j .top) (c.getD j .top)
theorem Leqs.refl (c : List AV) : Leqs c c := ⟨rfl, fun _ _ => Leq.refl _⟩
theorem Leqs.of_eq {r c : List AV} (h : r = c) : Leqs r c := h ▸ Leqs.refl _
theorem Leqs.agg {r c : List AV} (h : Leqs r c) : Leq (.agg r) (.agg c) := Leq.agg h.1 h.2

/-- A slice of elements that read as data. -/
theorem ty_rows {α : Type} (e : α → List AV) (Q : α → Prop) {et : TypeId} {es : List (List AV)} (h : ∀ (j : Nat) (_ : j < es.length), Ty tab et (es.getD j [])) (hx : ∀ r, Ty tab et r → ∃ x, Q x ∧ Leqs r (e x)) :
    ∃ xs : List α, es.length = xs.length ∧ (∀ x, x ∈ xs → Q x) ∧ ∀ nn, Leq (.sl nn es) (.sl nn (rows e xs)) := by
  have key : ∃ xs : List α, es.length = xs.length ∧ (∀ x, x ∈ xs → Q x) ∧ ∀ (i : Nat) (hi : i < xs.length), Leqs (es.getD i []) (e (xs[i]'hi)) := by
    induction es with
    | nil => exact ⟨[], rfl, fun x hx => (by cases hx), fun i hi => absurd hi (by simp)⟩
    | cons r rs ih =>
      obtain ⟨x, hq, hx1⟩ := hx r (h 0 (by simp))
      obtain ⟨xs, h1, h2, h3⟩ := ih (fun j hj => h (j + 1) (by simpa using hj))
      refine ⟨x :: xs, by simp [h1], fun y hy => ?_, fun i hi => ?_⟩
      · rcases List.mem_cons.1 hy with rfl | hy
        · exact hq
        · exact h2 y hy
      · cases i with
        | zero => exact hx1
        | succ i => exact h3 i (by simpa using hi)
  obtain ⟨xs, h1, h2, h3⟩ := key
  refine ⟨xs, h1, h2, fun nn => Leq.sl (by rw [rows_length, h1]) (fun i hi => ?_) (fun i j hi hj => ?_)⟩
  · rw [rows_length] at hi
    rw [rows_get _ _ _ hi]
    exact (h3 i hi).1
  · rw [rows_length] at hi
    rw [rows_get _ _ _ hi] at hj ⊢
    exact (h3 i hi).2 j hj

/-- A slice, as one cell. -/
theorem ty_slice {α : Type} (e : α → List AV) (Q : α → Prop) {t et : TypeId} {ti : TI} {cs : List AV} (h : Ty tab t cs) (ht : tab t = some ti) (hk : ti.k = .slice et) (hx : ∀ r, Ty tab et r → ∃ x, Q x ∧ Leqs r (e x)) :
    ∃ (n : Option Bool) (xs : List α), xs.length ≤ 9223372036854775807 ∧ (∀ x, x ∈ xs → Q x) ∧ Leqs cs [.sl n (rows e xs)] ∧ Leqs cs [.sl none (rows e xs)] := by
  obtain ⟨nn, es, rfl, _, hl, he⟩ := h.slice_inv ht hk
  obtain ⟨xs, h1, h2, h3⟩ := ty_rows e Q he hx
  refine ⟨some nn, xs, by omega, h2, ⟨rfl, fun j hj => ?_⟩, ⟨rfl, fun j hj => ?_⟩⟩
  · have : j = 0 := by simpa using hj
    subst this; exact h3 _
  · have : j = 0 := by simpa using hj
    subst this; exact (h3 (some nn)).trans Leq.slN

theorem ty_bools {a : AV} (h : TyArg tab 45 a) : ∃ (n : Option Bool) (bs : List Bool), Leq a (.sl n (boolRows bs)) ∧ bs.length ≤ 9223372036854775807 := by
  obtain ⟨n, xs, h1, _, h2, _⟩ := ty_slice (fun b : Bool => [AV.bool b]) (fun _ => True) (h.one_inv tabAt_45 rfl) tabAt_45 rfl fun r hr => by
    obtain ⟨b, rfl⟩ := ty_bool hr
    exact ⟨b, trivial, Leqs.refl _⟩
  exact ⟨n, xs, h2.2 0 (by simp), h1⟩

theorem ty_entry {cs : List AV} (h : Ty tab 168 cs) : ∃ e : Entry, cs = encE e := by
  obtain ⟨ps, rfl, hl, hp⟩ := h.struct_inv tabAt_168 rfl
  match ps, hl with
  | [p, q], _ =>
    obtain ⟨x, hx, _⟩ := ty_int (hp 0 (by decide))
    obtain ⟨y, hy, _⟩ := ty_int (hp 1 (by decide))
    have hx : p = _ := hx
    have hy : q = _ := hy
    subst hx; subst hy
    exact ⟨⟨x, y⟩, rfl⟩

theorem ty_action {cs : List AV} (h : Ty tab 170 cs) : ∃ e : Action, cs = encA e := by
  obtain ⟨ps, rfl, hl, hp⟩ := h.struct_inv tabAt_170 rfl
  match ps, hl with
  | [p, q, r, s], _ =>
    obtain ⟨x, hx, _⟩ := ty_int (hp 0 (by decide))
    obtain ⟨y, hy, _⟩ := ty_int (hp 1 (by decide))
    obtain ⟨z, hz, _⟩ := ty_int (hp 2 (by decide))
    obtain ⟨w, hw, _⟩ := ty_int (hp 3 (by decide))
    have hx : p = _ := hx
    have hy : q = _ := hy
    have hz : r = _ := hz
    have hw : s = _ := hw
    subst hx; subst hy; subst hz; subst hw
    exact ⟨⟨x, y, z, w⟩, rfl⟩

theorem Leqs.cons {a b : AV} {r c : List AV} (h : Leq a b) (h' : Leqs r c) : Leqs (a :: r) (b :: c) := by
  refine ⟨by simp [h'.1], fun j hj => ?_⟩
  cases j with
  | zero => exact h
  | succ j => exact h'.2 j (by simpa using hj)

theorem Leqs.one {r : List AV} {b : AV} (h : Leqs r [b]) : ∃ a, r = [a] ∧ Leq a b := by
  obtain ⟨h1, h2⟩ := h
  match r, h1 with
  | [a], _ => exact ⟨a, rfl, h2 0 (by simp)⟩

theorem ty_block {cs : List AV} (h : Ty tab 74 cs) : ∃ b : Block, b.list.length ≤ 9223372036854775807 ∧ Leqs cs (encB1 b) := by
  obtain ⟨ps, rfl, hl, hp⟩ := h.struct_inv tabAt_74 rfl
  match ps, hl with
  | [p1, p2, p3, p4, p5, p6], _ =>
    obtain ⟨x1, h1, _⟩ := ty_int (hp 0 (by decide))
    obtain ⟨x2, h2, _⟩ := ty_int (hp 1 (by decide))
    obtain ⟨x3, h3, _⟩ := ty_int (hp 2 (by decide))
    obtain ⟨_, x4, hl4, _, _, h4⟩ := ty_slice encA (fun _ => True) (hp 3 (by decide)) tabAt_72 rfl fun r hr => by
      obtain ⟨a, rfl⟩ := ty_action hr
      exact ⟨a, trivial, Leqs.refl _⟩
    obtain ⟨x5, h5, _⟩ := ty_int (hp 4 (by decide))
    obtain ⟨x6, h6, _⟩ := ty_int (hp 5 (by decide))
    have h1 : p1 = _ := h1
    have h2 : p2 = _ := h2
    have h3 : p3 = _ := h3
    have h5 : p5 = _ := h5
    have h6 : p6 = _ := h6
    obtain ⟨a4, e4, l4⟩ := h4.one
    have e4 : p4 = _ := e4
    subst h1; subst h2; subst h3; subst h5; subst h6; subst e4
    exact ⟨⟨x1, x2, x3, x4, x5, x6⟩, hl4, .cons (.refl _) (.cons (.refl _) (.cons (.refl _) (.cons l4 (.cons (.refl _) (.cons (.refl _) (.refl [])))))) ⟩

theorem ty_treeC {cs : List AV} (h : Ty tab 71 cs) : ∃ (n1 n2 n3 : Option Bool) (t : Tree), Leqs cs (encT n1 n2 n3 t) ∧ TreeLen t := by
  obtain ⟨ps, rfl, hl, hp⟩ := h.struct_inv tabAt_71 rfl
  match ps, hl with
  | [p1, p2, p3], _ =>
    obtain ⟨n1, x1, l1, _, h1, _⟩ := ty_slice encE (fun _ => True) (hp 0 (by decide)) tabAt_68 rfl fun r hr => by
      obtain ⟨a, rfl⟩ := ty_entry hr
      exact ⟨a, trivial, Leqs.refl _⟩
    obtain ⟨n2, x2, l2, q2, h2, _⟩ := ty_slice encB1 (fun b => b.list.length ≤ 9223372036854775807) (hp 1 (by decide)) tabAt_69 rfl fun r hr => ty_block hr
    obtain ⟨n3, x3, l3, _, h3, _⟩ := ty_slice encI (fun _ => True) (hp 2 (by decide)) tabAt_35 rfl fun r hr => by
      obtain ⟨a, rfl, _⟩ := ty_int hr
      exact ⟨a, trivial, Leqs.refl _⟩
    obtain ⟨a1, e1, g1⟩ := h1.one
    obtain ⟨a2, e2, g2⟩ := h2.one
    obtain ⟨a3, e3, g3⟩ := h3.one
    have e1 : p1 = _ := e1
    have e2 : p2 = _ := e2
    have e3 : p3 = _ := e3
    subst e1; subst e2; subst e3
    exact ⟨n1, n2, n3, ⟨x1, x2, x3⟩, .cons g1 (.cons g2 (.cons g3 (.refl []))), ⟨l1, l2, l3, q2⟩⟩

theorem ty_tree {a : AV} (h : TyArg tab 71 a) : ∃ (n1 n2 n3 : Option Bool) (t : Tree), Leq a (.agg (encT n1 n2 n3 t)) ∧ TreeLen t := by
  obtain ⟨cs, rfl, h2⟩ := h.agg_inv tabAt_71 rfl
  obtain ⟨n1, n2, n3, t, h3, h4⟩ := ty_treeC h2
  exact ⟨n1, n2, n3, t, h3.agg, h4⟩

end Go.Proofs.Ytmibclbinebnjaa

/- Arguments of the laws, by their types: slices of entries, of actions. -/
set_option linter.unusedSimpArgs false
namespace Go.Proofs.Ytmibclbinebnjaa
open Go Go.RowKit

theorem ty_entries {a : AV} (h : TyArg tab 68 a) : ∃ (n : Option Bool) (xs : List Entry), Leq a (.sl n (rows encE xs)) ∧ xs.length ≤ 9223372036854775807 := by
  obtain ⟨n, xs, h1, _, h2, _⟩ := ty_slice encE (fun _ => True) (h.one_inv tabAt_68 rfl) tabAt_68 rfl fun r hr => by
    obtain ⟨b, rfl⟩ := ty_entry hr
    exact ⟨b, trivial, Leqs.refl _⟩
  exact ⟨n, xs, h2.2 0 (by simp), h1⟩

theorem ty_actions {a : AV} (h : TyArg tab 72 a) : ∃ (n : Option Bool) (xs : List Action), Leq a (.sl n (rows encA xs)) ∧ xs.length ≤ 9223372036854775807 := by
  obtain ⟨n, xs, h1, _, h2, _⟩ := ty_slice encA (fun _ => True) (h.one_inv tabAt_72 rfl) tabAt_72 rfl fun r hr => by
    obtain ⟨b, rfl⟩ := ty_action hr
    exact ⟨b, trivial, Leqs.refl _⟩
  exact ⟨n, xs, h2.2 0 (by simp), h1⟩

end Go.Proofs.Ytmibclbinebnjaa

/- Arguments of the laws, by their types: blocks. -/
set_option linter.unusedSimpArgs false
namespace Go.Proofs.Ytmibclbinebnjaa
open Go Go.RowKit

theorem ty_blockA {a : AV} (h : TyArg tab 74 a) : ∃ b : Block, Leq a (.agg (encBk none b)) ∧ b.list.length ≤ 9223372036854775807 := by
  obtain ⟨cs, rfl, h2⟩ := h.agg_inv tabAt_74 rfl
  obtain ⟨b, h3, h4⟩ := ty_block h2
  exact ⟨b, h4.agg, h3⟩

end Go.Proofs.Ytmibclbinebnjaa

/- Arguments of the laws, by their types: codes. -/
set_option linter.unusedSimpArgs false
namespace Go.Proofs.Ytmibclbinebnjaa
open Go Go.RowKit

/-- A slice of elements that read as data. -/
theorem ty_rowsC {α : Type} (e : α → List AV) {et : TypeId} {es : List (List AV)} (h : ∀ (j : Nat) (_ : j < es.length), Ty tab et (es.getD j [])) (hx : ∀ r, Ty tab et r → ∃ x, r.length = (e x).length ∧ ∀ (j : Nat) (_ : j < (e x).length), Leq (r.getD j .top) ((e x).getD j .top)) :
    ∃ xs : List α, es.length = xs.length ∧ ∀ nn, Leq (.sl nn es) (.sl nn (rows e xs)) := by
  have key : ∃ xs : List α, es.length = xs.length ∧ ∀ (i : Nat) (hi : i < xs.length), (es.getD i []).length = (e (xs[i]'hi)).length ∧ ∀ (j : Nat) (_ : j < (e (xs[i]'hi)).length), Leq ((es.getD i []).getD j .top) ((e (xs[i]'hi)).getD j .top) := by
    induction es with
    | nil => exact ⟨[], rfl, fun i hi => absurd hi (by simp)⟩
    | cons r rs ih =>
      obtain ⟨x, hx1, hx2⟩ := hx r (h 0 (by simp))
      obtain ⟨xs, h1, h2⟩ := ih (fun j hj => h (j + 1) (by simpa using hj))
      refine ⟨x :: xs, by simp [h1], fun i hi => ?_⟩
      cases i with
      | zero => exact ⟨hx1, hx2⟩
      | succ i => exact h2 i (by simpa using hi)
  obtain ⟨xs, h1, h2⟩ := key
  refine ⟨xs, h1, fun nn => Leq.sl (by rw [rows_length, h1]) (fun i hi => ?_) (fun i j hi hj => ?_)⟩
  · rw [rows_length] at hi
    rw [rows_get _ _ _ hi]
    exact (h2 i hi).1
  · rw [rows_length] at hi
    rw [rows_get _ _ _ hi] at hj ⊢
    exact (h2 i hi).2 j hj

theorem ty_code {a : AV} (h : TyArg tab 22 a) : ∃ nb bs, Leq a (.sl nb (rows encB bs)) ∧ ∀ b, b ∈ bs → 0 ≤ b ∧ b ≤ 255 := by
  obtain ⟨nn, es, e1, _, _, he⟩ := (h.one_inv tabAt_22 rfl).slice_inv tabAt_22 rfl
  have hx : ∀ r, Ty tab 5 r → ∃ x : { n : Int // 0 ≤ n ∧ n ≤ 255 }, r.length = (encB x.1).length ∧ ∀ (j : Nat) (_ : j < (encB x.1).length), Leq (r.getD j .top) ((encB x.1).getD j .top) := by
    intro r hr
    obtain ⟨n, e, hn⟩ := hr.int_inv tabAt_5 rfl
    have hn' : 0 ≤ n ∧ n ≤ 255 := hn
    exact ⟨⟨n, hn'⟩, by rw [e]; rfl, fun j _ => by rw [e]; exact Leq.refl _⟩
  obtain ⟨xs, h1, h2⟩ := ty_rowsC (fun x : { n : Int // 0 ≤ n ∧ n ≤ 255 } => encB x.1) he hx
  have ea : a = .sl (some nn) es := by simpa using e1
  refine ⟨some nn, xs.map (·.1), ?_, fun b hb => ?_⟩
  · rw [ea]
    have := h2 (some nn)
    have e3 : rows (fun x : { n : Int // 0 ≤ n ∧ n ≤ 255 } => encB x.1) xs = rows encB (xs.map (·.1)) := by simp [rows]
    rwa [e3] at this
  · obtain ⟨x, _, rfl⟩ := List.mem_map.1 hb
    exact x.2

/-- A law of a code. -/
theorem law_code {k : FuncId} (h : ∀ nb bs, (∀ b, b ∈ bs → 0 ≤ b ∧ b ≤ 255) → Det Try.prog k [.sl nb (rows encB bs)] (.bool true)) {cs : List AV} (hc : TyArgs tab [22] cs) : Det Try.prog k cs (.bool true) := by
  match cs, hc with
  | [a], hc =>
    obtain ⟨nb, bs, h1, h2⟩ := ty_code hc.1
    refine FSpec.args (h nb bs h2) rfl fun i hi => ?_
    have : i = 0 := by simp at hi; exact hi
    subst this
    exact h1

end Go.Proofs.Ytmibclbinebnjaa

