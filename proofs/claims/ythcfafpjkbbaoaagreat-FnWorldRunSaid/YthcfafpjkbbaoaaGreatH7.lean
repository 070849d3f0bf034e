/- Shared texts H (part 7): W138, Ty1, Ty4, Ty5, Ty6 -/
import Derived.Test.YthcfafpjkbbaoaaGreatH6

set_option linter.unusedSimpArgs false
set_option linter.unusedVariables false

/- Drawn runs of votes. -/
set_option linter.unusedSimpArgs false
set_option linter.unusedVariables false
set_option maxRecDepth 20000
set_option maxHeartbeats 4000000
namespace Go.Proofs.YthcfafpjkbbaoaaGreat
open Go Go.RowKit

def RunR (r : AV) (b : List AV) : Prop := ∃ (w : Wld) (sc : List Int) (cs : List AV) (nn : Bool), r = .tup [.agg cs, .osl nn 1 (rows encI sc)] ∧ cs.map pureC = encW none none none none none w ∧ wsz w ≤ 300 ∧ sc.length ≤ 100
def RunQ (r : AV) (b : List AV) : Prop := ∃ (w : Wld) (sc : List Int), r = .tup [.agg (encW none none none none none w), .sl none (rows encI sc)] ∧ wsz w ≤ 300 ∧ sc.length ≤ 100

theorem len_swap (l : List Int) (i j : Nat) (a b : Int) : ((l.set i a).set j b).length = l.length := by simp

theorem c_spec_DrawWorldRun0 (nb : Option Bool) (bs : List Int) (h : CodeOk bs) : FSpec Tryz.prog 37 [.sl nb (rows encB bs)] false [] RunR := by
  refine fspec_rel tab_ok Tryz.call37 Tryz.func37 rfl 71 Tryz.ntmps37 (of_decide_eq_true rfl) fun B => codeK_sound tab_ok _ _ _ ?_
  simp (config := { maxSteps := 4000000 }) only [go_sem, simprocAttr, ↓dnA, Tryz.f37, rows_length, encT, encWF]
  refine CallTo.of (c_spec_l20Open nb bs h) ?_
  rintro r b rfl
  unfold rd
  simp (config := { maxSteps := 4000000 }) only [go_sem, simprocAttr, ↓dnA, Tryz.f37, rows_length, encT, encWF]
  have h0 := code_take h
  generalize bs.take 2000 = bs at h0
  refine CallTo.of (c_spec_l20LineP nb bs 0 0 h0 (by omega) (by omega)) ?_
  rintro r b ⟨t, q, rfl, rfl, hq1, hq2, hts, hl1, hl2, hT⟩
  have ht := hT rfl
  have hq := h0.step (q := q) (by omega) (by omega)
  have hW := c_spec_WorldOf none none none t (tb_s32 ht)
  have hv := worldOf_okay ht
  generalize worldOf t = w at hW hv
  obtain ⟨ht1, hv4, _, hvl, _⟩ := worldValid_parts hv
  have hlen := ht1.len
  have hws := worldOk_wsz hv
  simp (config := { maxSteps := 4000000 }) only [go_sem, simprocAttr, ↓dnA, Tryz.f37, rows_length, encT, encWF, rd]
  refine CallTo.det hW fun _ => ?_
  simp (config := { maxSteps := 4000000 }) only [go_sem, simprocAttr, ↓dnA, Tryz.f37, rows_length, encT, encWF, rd]
  refine CallTo.of (c_spec_l20Votes nb bs q w.votes.length hq (by omega) (by omega)) ?_
  rintro r b ⟨sc, q2, rfl, rfl, hq3, hq4, hsc, hsm⟩
  have hr2 := h0.step (q := q2) (by omega) (by omega)
  simp (config := { maxSteps := 4000000 }) only [go_sem, simprocAttr, ↓dnA, Tryz.f37, rows_length, encT, encWF, rd]
  refine CallTo.of (c_spec_pick nb bs q2 9 hr2) ?_
  rintro r b ⟨m, rfl, rfl, hm⟩
  have hm9 : 0 ≤ m ∧ m < 9 := by omega
  simp (config := { maxSteps := 4000000 }) only [go_sem, simprocAttr, ↓dnA, Tryz.f37, rows_length, encT, encWF, rd]
  refine semL_for tab_ok (fun s : List Int × Int × Int => ⟨71, [(2, .loc 2 0), (4, .loc 13000 0), (5, .loc 5 0), (6, .row 600 s.1.length), (7, .int .i64 s.2.1)],
      [(2, .var [.sl (some false) [], .sl (some false) [], .sl (some false) [], .sl (some false) [], .sl (some false) []]), (13000, .var (rd nb bs s.2.2)), (5, .var [.row 16000 w.tree.base.length, .row 16001 w.tree.blocks.length, .row 16002 w.tree.before.length, .row 16003 w.voters.length, .row 16004 w.votes.length]),
       (16000, .row true false 2 (rows encE w.tree.base)), (16001, .row true false 6 (rows encB1 w.tree.blocks)), (16002, .row true false 1 (rows encI w.tree.before)), (16003, .row true false 2 (rows encV w.voters)), (16004, .row true false 1 (rows encI w.votes)),
       (600, .row true true 1 (rows encI s.1))]⟩) (fun s => s.2.1.toNat)
    (fun s => s.1.length = sc.length ∧ (0 ≤ s.2.1 ∧ s.2.1 ≤ m) ∧ q2 + 1 ≤ s.2.2 ∧ s.2.2 + 2 * s.2.1 ≤ q2 + 1 + 2 * m) (sc, m, q2 + 1) [(2, 2), (13000, 13000), (5, 5), (16000, 16000), (16001, 16001), (16002, 16002), (16003, 16003), (16004, 16004), (21000, 600)] (Weak.of (by rfl) ?_ ?_ (by rfl)) ⟨rfl, by dsimp only; omega, by dsimp only; omega, by dsimp only; omega⟩ ?_
  · simp (config := { maxSteps := 4000000 }) only [go_sem, simprocAttr, ↓dnA, Tryz.f37, rows_length, encT, encWF, rd, frW, wk2, wk1, wkL, wkB, hpW, List.mem_cons, Prod.mk.injEq, exists_eq_left, exists_eq_right, exists_eq]
    try rfl
  · simp (config := { maxSteps := 4000000 }) only [go_sem, simprocAttr, ↓dnA, Tryz.f37, rows_length, encT, encWF, rd, frW, wk2, wk1, wkL, wkB, hpW, List.mem_cons, Prod.mk.injEq, exists_eq_left, exists_eq_right, exists_eq]
    try rfl
  · rintro ⟨l, k, q4⟩ ⟨i1, i2, i3, i4⟩
    dsimp only at i1 i2 i3 i4
    have hk9 : k < 9 := by omega
    have htk : (rows encI l).take l.length = rows encI l := by rw [List.take_of_length_le]; rw [rows_length]; omega
    have hsn : ∀ v : Int, rows encI l ++ [[.int .i64 v]] = rows encI (l ++ [v]) := fun v => by rw [← rows_snoc]; rfl
    have hrs : ∀ (l : List Int) (i : Nat) (v : Int), (rows encI l).set i [.int .i64 v] = rows encI (l.set i v) := fun l i v => by rw [← rows_set]; rfl
    cases dk : decide (k > 0) with
    | false =>
      simp (config := { maxSteps := 4000000 }) only [go_sem, simprocAttr, ↓dnA, Tryz.f37, rows_length, encT, encWF, rd, dk]
      refine CallTo.of (c_spec_odd nb bs q4 24 (h0.step (q := q4) (by omega) (by omega)) (by omega)) ?_
      rintro r b ⟨g1, q3, rfl, rfl, hq5, hq6⟩
      cases g1 with
      | false =>
        simp (config := { maxSteps := 4000000 }) only [go_sem, simprocAttr, ↓dnA, Tryz.f37, rows_length, encT, encWF, rd, dk]
        refine CallTo.of (c_spec_odd nb bs q3 24 (h0.step (q := q3) (by omega) (by omega)) (by omega)) ?_
        rintro r b ⟨g2, q5, rfl, rfl, hq7, hq8⟩
        cases g2 with
        | false =>
          simp (config := { maxSteps := 4000000 }) only [go_sem, simprocAttr, ↓dnA, Tryz.f37, rows_length, encT, encWF, rd, dk]
          exact .same ⟨w, l, _, _, rfl, rfl, by omega, by omega⟩
        | true =>
          simp (config := { maxSteps := 4000000 }) only [go_sem, simprocAttr, ↓dnA, Tryz.f37, rows_length, encT, encWF, rd, dk]
          refine CallTo.of (c_spec_l20World nb bs q5 1 (h0.step (q := q5) (by omega) (by omega)) (by omega) (by omega)) ?_
          rintro r b ⟨w2, q6, rfl, rfl, hq9, hq10, hw2⟩
          simp (config := { maxSteps := 4000000 }) only [go_sem, simprocAttr, ↓dnA, Tryz.f37, rows_length, encT, encWF, rd, dk, encW]
          exact .same ⟨w2, l, _, _, rfl, rfl, by omega, by omega⟩
      | true =>
        simp (config := { maxSteps := 4000000 }) only [go_sem, simprocAttr, ↓dnA, Tryz.f37, rows_length, encT, encWF, rd, dk]
        refine CallTo.of (c_spec_pick nb bs q3 2 (h0.step (q := q3) (by omega) (by omega))) ?_
        rintro r b ⟨y, rfl, rfl, hy⟩
        have hy2 : y = 0 ∨ y = 1 := by omega
        rcases hy2 with rfl | rfl
        · simp (config := { maxSteps := 4000000 }) only [go_sem, simprocAttr, ↓dnA, Tryz.f37, rows_length, encT, encWF, rd, dk, tn0, tn1, htk, hsn]
          repeat refine And.intro (by first | omega | (simp; done) | (simp; omega) | assumption) ?_
          refine CallTo.of (c_spec_odd nb bs (q3 + 1) 24 (h0.step (q := (q3 + 1)) (by omega) (by omega)) (by omega)) ?_
          rintro r b ⟨g2, q5, rfl, rfl, hq7, hq8⟩
          cases g2 with
          | false =>
            simp (config := { maxSteps := 4000000 }) only [go_sem, simprocAttr, ↓dnA, Tryz.f37, rows_length, encT, encWF, rd, dk, tn0, tn1, htk, hsn]
            refine ⟨by simp, ?_⟩
            exact .same ⟨w, (l ++ [(-1)]), _, _, rfl, rfl, by omega, by (simp; omega)⟩
          | true =>
            simp (config := { maxSteps := 4000000 }) only [go_sem, simprocAttr, ↓dnA, Tryz.f37, rows_length, encT, encWF, rd, dk, tn0, tn1, htk, hsn]
            refine CallTo.of (c_spec_l20World nb bs q5 1 (h0.step (q := q5) (by omega) (by omega)) (by omega) (by omega)) ?_
            rintro r b ⟨w2, q6, rfl, rfl, hq9, hq10, hw2⟩
            simp (config := { maxSteps := 4000000 }) only [go_sem, simprocAttr, ↓dnA, Tryz.f37, rows_length, encT, encWF, rd, dk, tn0, tn1, htk, hsn, encW]
            refine ⟨by simp, ?_⟩
            exact .same ⟨w2, (l ++ [(-1)]), _, _, rfl, rfl, by omega, by (simp; omega)⟩
        · simp (config := { maxSteps := 4000000 }) only [go_sem, simprocAttr, ↓dnA, Tryz.f37, rows_length, encT, encWF, rd, dk, tn0, tn1, htk, hsn]
          repeat refine And.intro (by first | omega | (simp; done) | (simp; omega) | assumption) ?_
          refine CallTo.of (c_spec_odd nb bs (q3 + 1) 24 (h0.step (q := (q3 + 1)) (by omega) (by omega)) (by omega)) ?_
          rintro r b ⟨g2, q5, rfl, rfl, hq7, hq8⟩
          cases g2 with
          | false =>
            simp (config := { maxSteps := 4000000 }) only [go_sem, simprocAttr, ↓dnA, Tryz.f37, rows_length, encT, encWF, rd, dk, tn0, tn1, htk, hsn]
            refine ⟨by simp, ?_⟩
            exact .same ⟨w, (l ++ [1001]), _, _, rfl, rfl, by omega, by (simp; omega)⟩
          | true =>
            simp (config := { maxSteps := 4000000 }) only [go_sem, simprocAttr, ↓dnA, Tryz.f37, rows_length, encT, encWF, rd, dk, tn0, tn1, htk, hsn]
            refine CallTo.of (c_spec_l20World nb bs q5 1 (h0.step (q := q5) (by omega) (by omega)) (by omega) (by omega)) ?_
            rintro r b ⟨w2, q6, rfl, rfl, hq9, hq10, hw2⟩
            simp (config := { maxSteps := 4000000 }) only [go_sem, simprocAttr, ↓dnA, Tryz.f37, rows_length, encT, encWF, rd, dk, tn0, tn1, htk, hsn, encW]
            refine ⟨by simp, ?_⟩
            exact .same ⟨w2, (l ++ [1001]), _, _, rfl, rfl, by omega, by (simp; omega)⟩
    | true =>
      have hk0 : 0 < k := by simpa using dk
      cases dl : decide ((l.length : Int) > 1) with
      | false =>
        simp (config := { maxSteps := 4000000 }) only [go_sem, simprocAttr, ↓dnA, Tryz.f37, rows_length, encT, encWF, rd, dk, dl]
        refine CallTo.of (c_spec_odd nb bs q4 24 (h0.step (q := q4) (by omega) (by omega)) (by omega)) ?_
        rintro r b ⟨g1, q3, rfl, rfl, hq5, hq6⟩
        cases g1 with
        | false =>
          simp (config := { maxSteps := 4000000 }) only [go_sem, simprocAttr, ↓dnA, Tryz.f37, rows_length, encT, encWF, rd, dk, dl]
          refine CallTo.of (c_spec_odd nb bs q3 24 (h0.step (q := q3) (by omega) (by omega)) (by omega)) ?_
          rintro r b ⟨g2, q5, rfl, rfl, hq7, hq8⟩
          cases g2 with
          | false =>
            simp (config := { maxSteps := 4000000 }) only [go_sem, simprocAttr, ↓dnA, Tryz.f37, rows_length, encT, encWF, rd, dk, dl]
            exact .same ⟨w, l, _, _, rfl, rfl, by omega, by omega⟩
          | true =>
            simp (config := { maxSteps := 4000000 }) only [go_sem, simprocAttr, ↓dnA, Tryz.f37, rows_length, encT, encWF, rd, dk, dl]
            refine CallTo.of (c_spec_l20World nb bs q5 1 (h0.step (q := q5) (by omega) (by omega)) (by omega) (by omega)) ?_
            rintro r b ⟨w2, q6, rfl, rfl, hq9, hq10, hw2⟩
            simp (config := { maxSteps := 4000000 }) only [go_sem, simprocAttr, ↓dnA, Tryz.f37, rows_length, encT, encWF, rd, dk, dl, encW]
            exact .same ⟨w2, l, _, _, rfl, rfl, by omega, by omega⟩
        | true =>
          simp (config := { maxSteps := 4000000 }) only [go_sem, simprocAttr, ↓dnA, Tryz.f37, rows_length, encT, encWF, rd, dk, dl]
          refine CallTo.of (c_spec_pick nb bs q3 2 (h0.step (q := q3) (by omega) (by omega))) ?_
          rintro r b ⟨y, rfl, rfl, hy⟩
          have hy2 : y = 0 ∨ y = 1 := by omega
          rcases hy2 with rfl | rfl
          · simp (config := { maxSteps := 4000000 }) only [go_sem, simprocAttr, ↓dnA, Tryz.f37, rows_length, encT, encWF, rd, dk, dl, tn0, tn1, htk, hsn]
            repeat refine And.intro (by first | omega | (simp; done) | (simp; omega) | assumption) ?_
            refine CallTo.of (c_spec_odd nb bs (q3 + 1) 24 (h0.step (q := (q3 + 1)) (by omega) (by omega)) (by omega)) ?_
            rintro r b ⟨g2, q5, rfl, rfl, hq7, hq8⟩
            cases g2 with
            | false =>
              simp (config := { maxSteps := 4000000 }) only [go_sem, simprocAttr, ↓dnA, Tryz.f37, rows_length, encT, encWF, rd, dk, dl, tn0, tn1, htk, hsn]
              refine ⟨by simp, ?_⟩
              exact .same ⟨w, (l ++ [(-1)]), _, _, rfl, rfl, by omega, by (simp; omega)⟩
            | true =>
              simp (config := { maxSteps := 4000000 }) only [go_sem, simprocAttr, ↓dnA, Tryz.f37, rows_length, encT, encWF, rd, dk, dl, tn0, tn1, htk, hsn]
              refine CallTo.of (c_spec_l20World nb bs q5 1 (h0.step (q := q5) (by omega) (by omega)) (by omega) (by omega)) ?_
              rintro r b ⟨w2, q6, rfl, rfl, hq9, hq10, hw2⟩
              simp (config := { maxSteps := 4000000 }) only [go_sem, simprocAttr, ↓dnA, Tryz.f37, rows_length, encT, encWF, rd, dk, dl, tn0, tn1, htk, hsn, encW]
              refine ⟨by simp, ?_⟩
              exact .same ⟨w2, (l ++ [(-1)]), _, _, rfl, rfl, by omega, by (simp; omega)⟩
          · simp (config := { maxSteps := 4000000 }) only [go_sem, simprocAttr, ↓dnA, Tryz.f37, rows_length, encT, encWF, rd, dk, dl, tn0, tn1, htk, hsn]
            repeat refine And.intro (by first | omega | (simp; done) | (simp; omega) | assumption) ?_
            refine CallTo.of (c_spec_odd nb bs (q3 + 1) 24 (h0.step (q := (q3 + 1)) (by omega) (by omega)) (by omega)) ?_
            rintro r b ⟨g2, q5, rfl, rfl, hq7, hq8⟩
            cases g2 with
            | false =>
              simp (config := { maxSteps := 4000000 }) only [go_sem, simprocAttr, ↓dnA, Tryz.f37, rows_length, encT, encWF, rd, dk, dl, tn0, tn1, htk, hsn]
              refine ⟨by simp, ?_⟩
              exact .same ⟨w, (l ++ [1001]), _, _, rfl, rfl, by omega, by (simp; omega)⟩
            | true =>
              simp (config := { maxSteps := 4000000 }) only [go_sem, simprocAttr, ↓dnA, Tryz.f37, rows_length, encT, encWF, rd, dk, dl, tn0, tn1, htk, hsn]
              refine CallTo.of (c_spec_l20World nb bs q5 1 (h0.step (q := q5) (by omega) (by omega)) (by omega) (by omega)) ?_
              rintro r b ⟨w2, q6, rfl, rfl, hq9, hq10, hw2⟩
              simp (config := { maxSteps := 4000000 }) only [go_sem, simprocAttr, ↓dnA, Tryz.f37, rows_length, encT, encWF, rd, dk, dl, tn0, tn1, htk, hsn, encW]
              refine ⟨by simp, ?_⟩
              exact .same ⟨w2, (l ++ [1001]), _, _, rfl, rfl, by omega, by (simp; omega)⟩
      | true =>
        have hl1' : 1 < l.length := by have := of_decide_eq_true dl; omega
        have hwk : IntKind.i64.wrap (k - 1) = k - 1 := wrap_small _ (by omega) (by omega)
        simp (config := { maxSteps := 4000000 }) only [go_sem, simprocAttr, ↓dnA, Tryz.f37, rows_length, encT, encWF, rd, dk, dl]
        refine CallTo.of (c_spec_pick nb bs q4 (l.length : Int) (h0.step (q := q4) (by omega) (by omega))) ?_
        rintro r b ⟨a, rfl, rfl, ha⟩
        obtain ⟨i, rfl⟩ : ∃ i : Nat, a = (i : Int) := ⟨a.toNat, by omega⟩
        have hil : i < l.length := by omega
        simp (config := { maxSteps := 4000000 }) only [go_sem, simprocAttr, ↓dnA, Tryz.f37, rows_length, encT, encWF, rd, dk, dl]
        refine CallTo.of (c_spec_pick nb bs (q4 + 1) (l.length : Int) (h0.step (q := q4 + 1) (by omega) (by omega))) ?_
        rintro r b ⟨a, rfl, rfl, ha2⟩
        obtain ⟨j, rfl⟩ : ∃ j : Nat, a = (j : Int) := ⟨a.toNat, by omega⟩
        have hjl : j < l.length := by omega
        have hjs : j < (l.set i l[j]).length := by rw [List.length_set]; exact hjl
        have hgs : (rows encI (l.set i l[j])).getD j [] = [.int .i64 ((l.set i l[j])[j])] := rows_get _ _ _ hjs
        simp (config := { maxSteps := 4000000 }) only [go_sem, simprocAttr, ↓dnA, Tryz.f37, rows_length, encT, encWF, rd, dk, dl, hgs, nn0, nlt hil, hil, nlt hjl, hjl, rows_get _ _ _ hil, rows_get _ _ _ hjl, encI, spliceL, List.length_set, hrs, hwk]
        refine ⟨((l.set i l[j]).set j l[i], k - 1, q4 + 1 + 1), [(2, 2), (13000, 13000), (5, 5), (16000, 16000), (16001, 16001), (16002, 16002), (16003, 16003), (16004, 16004), (600, 600)], ⟨by dsimp only; rw [len_swap]; exact i1, by dsimp only; omega, by dsimp only; omega, by dsimp only; omega⟩, by dsimp only; omega, Weak.of (by rfl) ?_ ?_ (by rfl)⟩
        · simp (config := { maxSteps := 4000000 }) only [go_sem, simprocAttr, ↓dnA, Tryz.f37, rows_length, encT, encWF, rd, hgs, hrs, frW, wk2, wk1, wkL, wkB, hpW, List.mem_cons, Prod.mk.injEq, exists_eq_left, exists_eq_right, exists_eq]
          try rfl
        · simp (config := { maxSteps := 4000000 }) only [go_sem, simprocAttr, ↓dnA, Tryz.f37, rows_length, encT, encWF, rd, len_swap, frW, wk2, wk1, wkL, wkB, hpW, List.mem_cons, Prod.mk.injEq, exists_eq_left, exists_eq_right, exists_eq]
          try rfl

theorem c_spec_DrawWorldRun (nb : Option Bool) (bs : List Int) (h : CodeOk bs) : FSpec Tryz.prog 37 [.sl nb (rows encB bs)] false [] RunQ := by
  refine (c_spec_DrawWorldRun0 nb bs h).pureTup ?_
  rintro r b ⟨w, sc, cs, nn, rfl, hc, h1, h2⟩
  refine ⟨_, rfl, w, sc, ?_, h1, h2⟩
  show AV.tup [AV.agg (cs.map pureC), .sl none (rows encI sc)] = _
  rw [hc]

end Go.Proofs.YthcfafpjkbbaoaaGreat

/- Arguments of the laws, by their types. -/
set_option linter.unusedSimpArgs false
namespace Go.Proofs.YthcfafpjkbbaoaaGreat
open Go Go.ChangeShapes Go.WideShapes Go.ChangeAt Go.RowKit

theorem own_ : ownKnob Tryz.prog.godebug = none := by kernel_rfl
theorem laidOut_ : laidOutB Tryz.prog = true := by kernel_rfl

/-- The cells of one value read as the cells of a datum. -/
def Leqs (r c : List AV) : Prop := r.length = c.length ∧ ∀ (j : Nat) (_ : j < c.length), Leq (r.getD j .top) (c.getD j .top)
theorem Leqs.refl (c : List AV) : Leqs c c := ⟨rfl, fun _ _ => Leq.refl _⟩
theorem Leqs.agg {r c : List AV} (h : Leqs r c) : Leq (.agg r) (.agg c) := Leq.agg h.1 h.2

theorem Leqs.cons {a b : AV} {r c : List AV} (h : Leq a b) (h' : Leqs r c) : Leqs (a :: r) (b :: c) := by
  refine ⟨by simp [h'.1], fun j hj => ?_⟩
  cases j with
  | zero => exact h
  | succ j => exact h'.2 j (by simpa using hj)

theorem Leqs.one {r : List AV} {b : AV} (h : Leqs r [b]) : ∃ a, r = [a] ∧ Leq a b := by
  obtain ⟨h1, h2⟩ := h
  match r, h1 with
  | [a], _ => exact ⟨a, rfl, h2 0 (by simp)⟩

end Go.Proofs.YthcfafpjkbbaoaaGreat

/- Arguments of the laws, by their types: slices of entries, of actions. -/
set_option linter.unusedSimpArgs false
namespace Go.Proofs.YthcfafpjkbbaoaaGreat
open Go Go.RowKit

end Go.Proofs.YthcfafpjkbbaoaaGreat

/- Arguments of the laws, by their types: blocks. -/
set_option linter.unusedSimpArgs false
namespace Go.Proofs.YthcfafpjkbbaoaaGreat
open Go Go.RowKit

end Go.Proofs.YthcfafpjkbbaoaaGreat

/- Arguments of the laws, by their types: codes. -/
set_option linter.unusedSimpArgs false
namespace Go.Proofs.YthcfafpjkbbaoaaGreat
open Go Go.RowKit

/-- A slice of elements that read as data. -/
theorem ty_rowsC {α : Type} (e : α → List AV) {et : TypeId} {es : List (List AV)} (h : ∀ (j : Nat) (_ : j < es.length), Ty tab et (es.getD j [])) (hx : ∀ r, Ty tab et r → ∃ x, r.length = (e x).length ∧ ∀ (j : Nat) (_ : j < (e x).length), Leq (r.getD j .top) ((e x).getD j .top)) :
    ∃ xs : List α, es.length = xs.length ∧ ∀ nn, Leq (.sl nn es) (.sl nn (rows e xs)) := by
  have key : ∃ xs : List α, es.length = xs.length ∧ ∀ (i : Nat) (hi : i < xs.length), (es.getD i []).length = (e (xs[i]'hi)).length ∧ ∀ (j : Nat) (_ : j < (e (xs[i]'hi)).length), Leq ((es.getD i []).getD j .top) ((e (xs[i]'hi)).getD j .top) := by
    induction es with
    | nil => exact ⟨[], rfl, fun i hi => absurd hi (by simp)⟩
    | cons r rs ih =>
      obtain ⟨x, hx1, hx2⟩ := hx r (h 0 (by simp))
      obtain ⟨xs, h1, h2⟩ := ih (fun j hj => h (j + 1) (by simpa using hj))
      refine ⟨x :: xs, by simp [h1], fun i hi => ?_⟩
      cases i with
      | zero => exact ⟨hx1, hx2⟩
      | succ i => exact h2 i (by simpa using hi)
  obtain ⟨xs, h1, h2⟩ := key
  refine ⟨xs, h1, fun nn => Leq.sl (by rw [rows_length, h1]) (fun i hi => ?_) (fun i j hi hj => ?_)⟩
  · rw [rows_length] at hi
    rw [rows_get _ _ _ hi]
    exact (h2 i hi).1
  · rw [rows_length] at hi
    rw [rows_get _ _ _ hi] at hj ⊢
    exact (h2 i hi).2 j hj

theorem ty_code {a : AV} (h : TyArg tab 22 a) : ∃ nb bs, Leq a (.sl nb (rows encB bs)) ∧ ∀ b, b ∈ bs → 0 ≤ b ∧ b ≤ 255 := by
  obtain ⟨nn, es, e1, _, _, he⟩ := (h.one_inv tabAt_22 rfl).slice_inv tabAt_22 rfl
  have hx : ∀ r, Ty tab 5 r → ∃ x : { n : Int // 0 ≤ n ∧ n ≤ 255 }, r.length = (encB x.1).length ∧ ∀ (j : Nat) (_ : j < (encB x.1).length), Leq (r.getD j .top) ((encB x.1).getD j .top) := by
    intro r hr
    obtain ⟨n, e, hn⟩ := hr.int_inv tabAt_5 rfl
    have hn' : 0 ≤ n ∧ n ≤ 255 := hn
    exact ⟨⟨n, hn'⟩, by rw [e]; rfl, fun j _ => by rw [e]; exact Leq.refl _⟩
  obtain ⟨xs, h1, h2⟩ := ty_rowsC (fun x : { n : Int // 0 ≤ n ∧ n ≤ 255 } => encB x.1) he hx
  have ea : a = .sl (some nn) es := by simpa using e1
  refine ⟨some nn, xs.map (·.1), ?_, fun b hb => ?_⟩
  · rw [ea]
    have := h2 (some nn)
    have e3 : rows (fun x : { n : Int // 0 ≤ n ∧ n ≤ 255 } => encB x.1) xs = rows encB (xs.map (·.1)) := by simp [rows]
    rwa [e3] at this
  · obtain ⟨x, _, rfl⟩ := List.mem_map.1 hb
    exact x.2

/-- A law of a code. -/
theorem law_code {k : FuncId} (h : ∀ nb bs, (∀ b, b ∈ bs → 0 ≤ b ∧ b ≤ 255) → Det Tryz.prog k [.sl nb (rows encB bs)] (.bool true)) {cs : List AV} (hc : TyArgs tab [22] cs) : Det Tryz.prog k cs (.bool true) := by
  match cs, hc with
  | [a], hc =>
    obtain ⟨nb, bs, h1, h2⟩ := ty_code hc.1
    refine FSpec.args (h nb bs h2) rfl fun i hi => ?_
    have : i = 0 := by simp at hi; exact hi
    subst this
    exact h1

end Go.Proofs.YthcfafpjkbbaoaaGreat

