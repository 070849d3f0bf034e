/- Shared texts J (part 5): W129, W190, W150, W154, W155, W151, W152, W153, W157, W156, W158, W159, W160, W161, W162, W33, W36, W172 -/
import Derived.Test.YteebkimhfaodnaaJ4

set_option linter.unusedSimpArgs false
set_option linter.unusedVariables false

/- Contracts: stores that are the same. -/
set_option linter.unusedSimpArgs false
set_option linter.unusedVariables false
set_option maxRecDepth 20000
set_option maxHeartbeats 4000000
namespace Go.Proofs.Yteebkimhfaodnaa
open Go Go.RowKit

theorem c_laws_sameStore (n1 n2 : Option Bool) (xs : List Entry) (hx : xs.length < 2 ^ 62) : Det Try.prog 28 [.sl n1 (rows encE xs), .sl n2 (rows encE xs)] (.bool true) := by
  refine fspec_det tab_ok Try.call28 Try.func28 rfl 26 Try.ntmps28 (of_decide_eq_true rfl) fun B => codeK_sound tab_ok _ _ _ ?_
  have hne : ((xs.length : Int) != (xs.length : Int)) = false := by simp
  simp (config := { maxSteps := 4000000 }) only [go_sem, simprocAttr, ↓dnA, Try.f28, rows_length, hne]
  refine semL_for tab_ok (fun i : Nat => ⟨26, [(0, .sl n1 (rows encE xs)), (1, .sl n2 (rows encE xs)), (5, .int .i64 i)], []⟩) (fun i => xs.length - i)
    (fun i => i ≤ xs.length) 0 [] (Weak.of (by rfl) ?_ ?_ (by rfl)) (by omega) ?_
  · trivial
  · simp (config := { maxSteps := 4000000 }) only [go_sem, simprocAttr, ↓dnA, Try.f28, rows_length, frW, wk2, wk1, wkL, wkB, hpW, List.mem_cons, Prod.mk.injEq, exists_eq_left, exists_eq_right, exists_eq]
    try rfl
  · rintro i hi
    by_cases h : i < xs.length
    · have hw : IntKind.i64.wrap ((i : Int) + 1) = ((i + 1 : Nat) : Int) := wsucc h (by omega)
      simp (config := { maxSteps := 4000000 }) only [go_sem, simprocAttr, ↓dnA, Try.f28, rows_length, nlt h, h, rows_get _ _ _ h, encE, nn0, hw]
      refine semL_draw tab_ok mixed_ rfl (ord := [(0, []), (1, []), (2, []), (3, []), (4, []), (5, []), (6, []), (7, []), (8, [])]) (by dsimp only; decide +kernel) ?_
      simp (config := { maxSteps := 4000000 }) only [go_sem, simprocAttr, ↓dnA, Try.f28, rows_length, nlt h, h, rows_get _ _ _ h, encE, nn0, hw]
      simp only [eqCellsK, BEq.rfl, Bool.and_true, Bool.not_true, Bool.false_eq_true, false_implies, true_implies, true_and, forall_const]
      refine ⟨i + 1, [], by omega, by dsimp only; omega, Weak.of (by rfl) ?_ ?_ (by rfl)⟩
      · trivial
      · simp (config := { maxSteps := 4000000 }) only [go_sem, simprocAttr, ↓dnA, Try.f28, rows_length, frW, wk2, wk1, wkL, wkB, hpW, List.mem_cons, Prod.mk.injEq, exists_eq_left, exists_eq_right, exists_eq]
    · have hi' : i = xs.length := by omega
      subst hi'
      simp (config := { maxSteps := 4000000 }) only [go_sem, simprocAttr, ↓dnA, Try.f28, rows_length, nlf h]

end Go.Proofs.Yteebkimhfaodnaa

/- Contracts: engines, effects that are the same. -/
set_option linter.unusedSimpArgs false
set_option linter.unusedVariables false
set_option maxRecDepth 20000
set_option maxHeartbeats 4000000
namespace Go.Proofs.Yteebkimhfaodnaa
open Go Go.RowKit

theorem c_laws_sameIntsG (n1 n2 : Option Bool) (xs : List Int) (hx : xs.length < 2 ^ 62) : Det Try.prog 30 [.sl n1 (rows encI xs), .sl n2 (rows encI xs)] (.bool true) := by
  refine fspec_det tab_ok Try.call30 Try.func30 rfl 26 Try.ntmps30 (of_decide_eq_true rfl) fun B => codeK_sound tab_ok _ _ _ ?_
  have hne : ((xs.length : Int) != (xs.length : Int)) = false := by simp
  simp (config := { maxSteps := 4000000 }) only [go_sem, simprocAttr, ↓dnA, Try.f30, rows_length, hne]
  refine semL_for tab_ok (fun i : Nat => ⟨26, [(0, .sl n1 (rows encI xs)), (1, .sl n2 (rows encI xs)), (5, .int .i64 i)], []⟩) (fun i => xs.length - i)
    (fun i => i ≤ xs.length) 0 [] (Weak.of (by rfl) ?_ ?_ (by rfl)) (by omega) ?_
  · trivial
  · simp (config := { maxSteps := 4000000 }) only [go_sem, simprocAttr, ↓dnA, Try.f30, rows_length, frW, wk2, wk1, wkL, wkB, hpW, List.mem_cons, Prod.mk.injEq, exists_eq_left, exists_eq_right, exists_eq]
    try rfl
  · rintro i hi
    by_cases h : i < xs.length
    · have hw : IntKind.i64.wrap ((i : Int) + 1) = ((i + 1 : Nat) : Int) := wsucc h (by omega)
      have hxx : (xs[i] != xs[i]) = false := by simp
      simp (config := { maxSteps := 4000000 }) only [go_sem, simprocAttr, ↓dnA, Try.f30, rows_length, nlt h, h, rows_get _ _ _ h, encI, nn0, hw, hxx]
      refine semL_draw tab_ok mixed_ rfl (ord := [(0, []), (1, []), (2, []), (3, []), (4, []), (5, []), (6, []), (7, []), (8, [])]) (by dsimp only; decide +kernel) ?_
      simp (config := { maxSteps := 4000000 }) only [go_sem, simprocAttr, ↓dnA, Try.f30, rows_length, nlt h, h, rows_get _ _ _ h, encI, nn0, hw, hxx]
      refine ⟨i + 1, [], by omega, by dsimp only; omega, Weak.of (by rfl) ?_ ?_ (by rfl)⟩
      · trivial
      · simp (config := { maxSteps := 4000000 }) only [go_sem, simprocAttr, ↓dnA, Try.f30, rows_length, frW, wk2, wk1, wkL, wkB, hpW, List.mem_cons, Prod.mk.injEq, exists_eq_left, exists_eq_right, exists_eq]
    · have hi' : i = xs.length := by omega
      subst hi'
      simp (config := { maxSteps := 4000000 }) only [go_sem, simprocAttr, ↓dnA, Try.f30, rows_length, nlf h]

theorem c_laws_sameVersions (n1 n2 : Option Bool) (xs : List Version) (hx : xs.length < 2 ^ 62) : Det Try.prog 29 [.sl n1 (rows encR xs), .sl n2 (rows encR xs)] (.bool true) := by
  refine fspec_det tab_ok Try.call29 Try.func29 rfl 26 Try.ntmps29 (of_decide_eq_true rfl) fun B => codeK_sound tab_ok _ _ _ ?_
  have hne : ((xs.length : Int) != (xs.length : Int)) = false := by simp
  simp (config := { maxSteps := 4000000 }) only [go_sem, simprocAttr, ↓dnA, Try.f29, rows_length, hne]
  refine semL_for tab_ok (fun i : Nat => ⟨26, [(0, .sl n1 (rows encR xs)), (1, .sl n2 (rows encR xs)), (5, .int .i64 i)], []⟩) (fun i => xs.length - i)
    (fun i => i ≤ xs.length) 0 [] (Weak.of (by rfl) ?_ ?_ (by rfl)) (by omega) ?_
  · trivial
  · simp (config := { maxSteps := 4000000 }) only [go_sem, simprocAttr, ↓dnA, Try.f29, rows_length, frW, wk2, wk1, wkL, wkB, hpW, List.mem_cons, Prod.mk.injEq, exists_eq_left, exists_eq_right, exists_eq]
    try rfl
  · rintro i hi
    by_cases h : i < xs.length
    · have hw : IntKind.i64.wrap ((i : Int) + 1) = ((i + 1 : Nat) : Int) := wsucc h (by omega)
      simp (config := { maxSteps := 4000000 }) only [go_sem, simprocAttr, ↓dnA, Try.f29, rows_length, nlt h, h, rows_get _ _ _ h, encR, nn0, hw]
      refine semL_draw tab_ok mixed_ rfl (ord := [(0, []), (1, []), (2, []), (3, []), (4, []), (5, []), (6, []), (7, []), (8, [])]) (by dsimp only; decide +kernel) ?_
      simp (config := { maxSteps := 4000000 }) only [go_sem, simprocAttr, ↓dnA, Try.f29, rows_length, nlt h, h, rows_get _ _ _ h, encR, nn0, hw]
      simp only [eqCellsK, BEq.rfl, Bool.and_true, Bool.not_true, Bool.false_eq_true, false_implies, true_implies, true_and, forall_const]
      refine ⟨i + 1, [], by omega, by dsimp only; omega, Weak.of (by rfl) ?_ ?_ (by rfl)⟩
      · trivial
      · simp (config := { maxSteps := 4000000 }) only [go_sem, simprocAttr, ↓dnA, Try.f29, rows_length, frW, wk2, wk1, wkL, wkB, hpW, List.mem_cons, Prod.mk.injEq, exists_eq_left, exists_eq_right, exists_eq]
    · have hi' : i = xs.length := by omega
      subst hi'
      simp (config := { maxSteps := 4000000 }) only [go_sem, simprocAttr, ↓dnA, Try.f29, rows_length, nlf h]

theorem c_laws_sameEffect (n1 n2 m1 m2 : Option Bool) (x : Effect) (h1 : x.reads.length < 2 ^ 62) (h2 : x.writes.length < 2 ^ 62) : Det Try.prog 31 [.agg (encF n1 n2 x), .agg (encF m1 m2 x)] (.bool true) := by
  refine fspec_det tab_ok Try.call31 Try.func31 rfl 24 Try.ntmps31 (of_decide_eq_true rfl) fun B => codeK_sound tab_ok _ _ _ ?_
  have hd : (x.done == x.done) = true := by simp
  simp (config := { maxSteps := 4000000 }) only [go_sem, simprocAttr, ↓dnA, Try.f31, rows_length, encF, hd]
  refine CallTo.det (c_laws_sameStore n1 m1 x.reads h1) fun _ => ?_
  simp (config := { maxSteps := 4000000 }) only [go_sem, simprocAttr, ↓dnA, Try.f31, rows_length, encF, hd]
  refine CallTo.det (c_laws_sameStore n2 m2 x.writes h2) fun _ => ?_
  simp (config := { maxSteps := 4000000 }) only [go_sem, simprocAttr, ↓dnA, Try.f31, rows_length, encF, hd]

theorem c_laws_sameEngine (n1 n2 n3 n4 m1 m2 m3 m4 : Option Bool) (e : Engine) (hs : EngSz (2 ^ 62) e) : Det Try.prog 9 [.agg (encG n1 n2 n3 n4 e), .agg (encG m1 m2 m3 m4 e)] (.bool true) := by
  refine fspec_det tab_ok Try.call9 Try.func9 rfl 104 Try.ntmps9 (of_decide_eq_true rfl) fun B => codeK_sound tab_ok _ _ _ ?_
  have hll := hs.list
  have hsl := hs.slots
  have hne : ((e.list.length : Int) != (e.list.length : Int)) = false := by simp
  have hne2 : ((e.slots.length : Int) != (e.slots.length : Int)) = false := by simp
  simp (config := { maxSteps := 4000000 }) only [go_sem, simprocAttr, ↓dnA, Try.f9, rows_length, encG]
  refine CallTo.det (c_laws_sameStore n1 m1 e.base hs.base) fun _ => ?_
  simp (config := { maxSteps := 4000000 }) only [go_sem, simprocAttr, ↓dnA, Try.f9, rows_length, encG, hne]
  refine CallTo.det (c_laws_sameVersions n3 m3 e.versions hs.versions) fun _ => ?_
  simp (config := { maxSteps := 4000000 }) only [go_sem, simprocAttr, ↓dnA, Try.f9, rows_length, encG, hne, hne2]
  refine semL_for tab_ok (fun i : Nat => ⟨104, [(2, .loc 2 0), (3, .loc 3 0), (5, .int .i64 i)], [(2, .var (encG n1 n2 n3 n4 e)), (3, .var (encG m1 m2 m3 m4 e))]⟩) (fun i => e.list.length - i)
    (fun i => i ≤ e.list.length) 0 [(2, 2), (3, 3)] (Weak.of (by rfl) ?_ ?_ (by rfl)) (by omega) ?_
  · simp (config := { maxSteps := 4000000 }) only [go_sem, simprocAttr, ↓dnA, Try.f9, rows_length, encG, frW, wk2, wk1, wkL, wkB, hpW, List.mem_cons, Prod.mk.injEq, exists_eq_left, exists_eq_right, exists_eq]
    try rfl
  · simp (config := { maxSteps := 4000000 }) only [go_sem, simprocAttr, ↓dnA, Try.f9, rows_length, encG, frW, wk2, wk1, wkL, wkB, hpW, List.mem_cons, Prod.mk.injEq, exists_eq_left, exists_eq_right, exists_eq]
    try rfl
  · rintro i hi
    by_cases h : i < e.list.length
    · have hw : IntKind.i64.wrap ((i : Int) + 1) = ((i + 1 : Nat) : Int) := wsucc h (by omega)
      simp (config := { maxSteps := 4000000 }) only [go_sem, simprocAttr, ↓dnA, Try.f9, rows_length, encG, nlt h, h, rows_get _ _ _ h, encA, nn0, hw]
      refine semL_draw tab_ok mixed_ rfl (ord := [(0, []), (1, []), (2, []), (3, []), (4, []), (5, []), (6, []), (7, []), (8, []), (9, []), (10, [])]) (by dsimp only; decide +kernel) ?_
      simp (config := { maxSteps := 4000000 }) only [go_sem, simprocAttr, ↓dnA, Try.f9, rows_length, encG, nlt h, h, rows_get _ _ _ h, encA, nn0, hw]
      simp only [eqCellsK, BEq.rfl, Bool.and_true, Bool.not_true, Bool.false_eq_true, false_implies, true_implies, true_and, forall_const]
      refine ⟨i + 1, [(2, 2), (3, 3)], by omega, by dsimp only; omega, Weak.of (by rfl) ?_ ?_ (by rfl)⟩
      · simp (config := { maxSteps := 4000000 }) only [go_sem, simprocAttr, ↓dnA, Try.f9, rows_length, encG, frW, wk2, wk1, wkL, wkB, hpW, List.mem_cons, Prod.mk.injEq, exists_eq_left, exists_eq_right, exists_eq]
        try rfl
      · simp (config := { maxSteps := 4000000 }) only [go_sem, simprocAttr, ↓dnA, Try.f9, rows_length, encG, frW, wk2, wk1, wkL, wkB, hpW, List.mem_cons, Prod.mk.injEq, exists_eq_left, exists_eq_right, exists_eq]
        try rfl
    · have hi' : i = e.list.length := by omega
      subst hi'
      simp (config := { maxSteps := 4000000 }) only [go_sem, simprocAttr, ↓dnA, Try.f9, rows_length, encG, nlf h]
      refine semL_for tab_ok (fun i : Nat => ⟨104, [(2, .loc 2 0), (3, .loc 3 0), (6, .int .i64 i)], [(2, .var (encG n1 n2 n3 n4 e)), (3, .var (encG m1 m2 m3 m4 e))]⟩) (fun i => e.slots.length - i)
        (fun i => i ≤ e.slots.length) 0 [(2, 2), (3, 3)] (Weak.of (by rfl) ?_ ?_ (by rfl)) (by omega) ?_
      · simp (config := { maxSteps := 4000000 }) only [go_sem, simprocAttr, ↓dnA, Try.f9, rows_length, encG, frW, wk2, wk1, wkL, wkB, hpW, List.mem_cons, Prod.mk.injEq, exists_eq_left, exists_eq_right, exists_eq]
        try rfl
      · simp (config := { maxSteps := 4000000 }) only [go_sem, simprocAttr, ↓dnA, Try.f9, rows_length, encG, frW, wk2, wk1, wkL, wkB, hpW, List.mem_cons, Prod.mk.injEq, exists_eq_left, exists_eq_right, exists_eq]
        try rfl
      · rintro i hi
        by_cases h : i < e.slots.length
        · have hw : IntKind.i64.wrap ((i : Int) + 1) = ((i + 1 : Nat) : Int) := wsucc h (by omega)
          have hsz := hs.each _ (List.getElem_mem h)
          have e1 : (e.slots[i].stage != e.slots[i].stage) = false := by simp
          have e2 : (e.slots[i].tries != e.slots[i].tries) = false := by simp
          simp (config := { maxSteps := 4000000 }) only [go_sem, simprocAttr, ↓dnA, Try.f9, rows_length, encG, nlt h, h, rows_get _ _ _ h, encS1, encS, nn0, hw, e1, e2]
          refine CallTo.det (c_laws_sameIntsG none none e.slots[i].fr hsz.fr) fun _ => ?_
          simp (config := { maxSteps := 4000000 }) only [go_sem, simprocAttr, ↓dnA, Try.f9, rows_length, encG, nlt h, h, rows_get _ _ _ h, encS1, encS, nn0, hw, e1, e2]
          refine CallTo.det (c_laws_sameEffect none none none none e.slots[i].res hsz.reads hsz.writes) fun _ => ?_
          simp (config := { maxSteps := 4000000 }) only [go_sem, simprocAttr, ↓dnA, Try.f9, rows_length, encG, nlt h, h, rows_get _ _ _ h, encS1, encS, nn0, hw, e1, e2]
          refine ⟨i + 1, [(2, 2), (3, 3)], by omega, by dsimp only; omega, Weak.of (by rfl) ?_ ?_ (by rfl)⟩
          · simp (config := { maxSteps := 4000000 }) only [go_sem, simprocAttr, ↓dnA, Try.f9, rows_length, encG, frW, wk2, wk1, wkL, wkB, hpW, List.mem_cons, Prod.mk.injEq, exists_eq_left, exists_eq_right, exists_eq]
            try rfl
          · simp (config := { maxSteps := 4000000 }) only [go_sem, simprocAttr, ↓dnA, Try.f9, rows_length, encG, frW, wk2, wk1, wkL, wkB, hpW, List.mem_cons, Prod.mk.injEq, exists_eq_left, exists_eq_right, exists_eq]
            try rfl
        · have hi' : i = e.slots.length := by omega
          subst hi'
          simp (config := { maxSteps := 4000000 }) only [go_sem, simprocAttr, ↓dnA, Try.f9, rows_length, encG, nlf h]

end Go.Proofs.Yteebkimhfaodnaa

/- Versions: plain. -/
namespace Go.Proofs.Yteebkimhfaodnaa
open Go Go.RowKit

/-- What an action reads, and who wrote it: of the versions of earlier actions the last one. -/
def readStep (key n : Int) (p : Int × Int) (v : Version) : Int × Int := if v.key = key ∧ v.by_ < n then (v.value, v.by_) else p
def readF (key n : Int) (l : List Version) (p : Int × Int) : Int × Int := l.foldl (readStep key n) p
/-- Versions without those of an action. -/
def dropV (n : Int) (l : List Version) : List Version := l.filter fun v => v.by_ != n
def ltV (a b : Version) : Bool := decide (a.key < b.key) || (a.key == b.key && decide (a.by_ < b.by_))
def insV (v : Version) : List Version → List Version
  | [] => [v]
  | x :: r => if ltV x v then x :: insV v r else v :: x :: r
def putW (n : Int) (l : List Version) (ws : List Entry) : List Version := ws.foldl (fun l e => insV ⟨e.key, n, e.value⟩ l) l
/-- Versions in which an action has those of its writes. -/
def putVs (l : List Version) (n : Int) (ws : List Entry) : List Version := putW n (dropV n l) ws
def SortV (l : List Version) : Prop := l.Pairwise fun a b => ltV a b = true

theorem ltV_iff {a b : Version} : ltV a b = true ↔ a.key < b.key ∨ (a.key = b.key ∧ a.by_ < b.by_) := by
  unfold ltV
  simp only [Bool.or_eq_true, Bool.and_eq_true, decide_eq_true_eq, beq_iff_eq]
theorem ltV_false {a b : Version} : ltV a b = false ↔ ¬ (a.key < b.key ∨ (a.key = b.key ∧ a.by_ < b.by_)) := by
  rw [← ltV_iff]; simp
theorem ltV_trans {a b c : Version} (h : ltV a b = true) (h2 : ltV b c = true) : ltV a c = true := by
  rw [ltV_iff] at *; omega
theorem ltV_asymm {a b : Version} (h : ltV a b = true) (h2 : ltV b a = true) : False := by
  rw [ltV_iff] at *; omega

theorem insV_mem {v x : Version} : ∀ {l : List Version}, x ∈ insV v l ↔ x = v ∨ x ∈ l
  | [] => by simp [insV]
  | y :: r => by
    unfold insV
    split
    · rw [List.mem_cons, insV_mem, List.mem_cons]
      constructor
      · rintro (h | h | h)
        · exact .inr (.inl h)
        · exact .inl h
        · exact .inr (.inr h)
      · rintro (h | h | h)
        · exact .inr (.inl h)
        · exact .inl h
        · exact .inr (.inr h)
    · simp [List.mem_cons]

theorem insV_sort {v : Version} : ∀ {l : List Version}, SortV l → (∀ x, x ∈ l → ¬ (x.key = v.key ∧ x.by_ = v.by_)) → SortV (insV v l)
  | [], _, _ => by simp [insV, SortV]
  | y :: r, h, hn => by
    obtain ⟨h1, h2⟩ := List.pairwise_cons.1 h
    unfold insV
    split
    · rename_i g
      refine List.pairwise_cons.2 ⟨fun x hx => ?_, insV_sort h2 fun x hx => hn x (List.mem_cons_of_mem _ hx)⟩
      rcases insV_mem.1 hx with rfl | hx
      · exact g
      · exact h1 x hx
    · rename_i g
      have gy : ltV v y = true := by
        have g' : ltV y v = false := by simpa using g
        have := hn y (List.mem_cons_self ..)
        rw [ltV_false] at g'
        rw [ltV_iff]
        omega
      refine List.pairwise_cons.2 ⟨fun x hx => ?_, h⟩
      rcases List.mem_cons.1 hx with rfl | hx
      · exact gy
      · exact ltV_trans gy (h1 x hx)

/-- Sorted versions are told by their members. -/
theorem sort_ext : ∀ {l l' : List Version}, SortV l → SortV l' → (∀ x, x ∈ l ↔ x ∈ l') → l = l'
  | [], [], _, _, _ => rfl
  | [], y :: r, _, _, h => by have := (h y).2 (List.mem_cons_self ..); cases this
  | x :: r, [], _, _, h => by have := (h x).1 (List.mem_cons_self ..); cases this
  | x :: r, y :: r', h1, h2, h => by
    obtain ⟨a1, a2⟩ := List.pairwise_cons.1 h1
    obtain ⟨b1, b2⟩ := List.pairwise_cons.1 h2
    have e : x = y := by
      rcases List.mem_cons.1 ((h x).1 (List.mem_cons_self ..)) with e | e
      · exact e
      · rcases List.mem_cons.1 ((h y).2 (List.mem_cons_self ..)) with e2 | e2
        · exact e2.symm
        · exact (ltV_asymm (b1 x e) (a1 y e2)).elim
    subst e
    congr 1
    refine sort_ext a2 b2 fun z => ⟨fun hz => ?_, fun hz => ?_⟩
    · rcases List.mem_cons.1 ((h z).1 (List.mem_cons_of_mem _ hz)) with e | e
      · subst e; exact (ltV_asymm (a1 z hz) (a1 z hz)).elim
      · exact e
    · rcases List.mem_cons.1 ((h z).2 (List.mem_cons_of_mem _ hz)) with e | e
      · subst e; exact (ltV_asymm (b1 z hz) (b1 z hz)).elim
      · exact e

theorem dropV_mem {n : Int} {l : List Version} {x : Version} : x ∈ dropV n l ↔ x ∈ l ∧ x.by_ ≠ n := by
  unfold dropV; rw [List.mem_filter]; simp
theorem dropV_sort {n : Int} {l : List Version} (h : SortV l) : SortV (dropV n l) := List.Pairwise.sublist (List.filter_sublist) h
theorem putW_mem (n : Int) {x : Version} : ∀ (ws : List Entry) (l : List Version), x ∈ putW n l ws ↔ x ∈ l ∨ (x.by_ = n ∧ (⟨x.key, x.value⟩ : Entry) ∈ ws)
  | [], l => by simp [putW]
  | e :: r, l => by
    show x ∈ putW n (insV ⟨e.key, n, e.value⟩ l) r ↔ _
    rw [putW_mem n r, insV_mem, List.mem_cons]
    constructor
    · rintro ((h | h) | h)
      · subst h; exact .inr ⟨rfl, .inl rfl⟩
      · exact .inl h
      · exact .inr ⟨h.1, .inr h.2⟩
    · rintro (h | ⟨h1, h2 | h2⟩)
      · exact .inl (.inr h)
      · refine .inl (.inl ?_)
        cases x; cases e
        simp only [Entry.mk.injEq] at h2
        obtain ⟨rfl, rfl⟩ := h2
        dsimp only at h1
        subst h1
        rfl
      · exact .inr ⟨h1, h2⟩

theorem putW_sort (n : Int) : ∀ (ws : List Entry) (l : List Version), SortV l → (ws.map Entry.key).Nodup → (∀ x, x ∈ l → x.by_ = n → x.key ∉ ws.map Entry.key) → SortV (putW n l ws)
  | [], l, h, _, _ => h
  | e :: r, l, h, hd, hn => by
    rw [List.map_cons, List.nodup_cons] at hd
    refine putW_sort n r (insV ⟨e.key, n, e.value⟩ l) (insV_sort h fun x hx g => hn x hx g.2 (by rw [g.1]; simp)) hd.2 fun x hx hb hm => ?_
    rcases insV_mem.1 hx with e' | hx
    · subst e'; exact hd.1 hm
    · exact hn x hx hb (List.mem_cons_of_mem _ hm)

theorem putVs_mem {l : List Version} {n : Int} {ws : List Entry} {x : Version} : x ∈ putVs l n ws ↔ (x ∈ l ∧ x.by_ ≠ n) ∨ (x.by_ = n ∧ (⟨x.key, x.value⟩ : Entry) ∈ ws) := by
  unfold putVs; rw [putW_mem, dropV_mem]
theorem ent_nodup {ws : List Entry} (h : entOk 0 (-1) ws = true) : (ws.map Entry.key).Nodup := (entOk_spec 0 ws (-1) h).2
theorem putVs_sort {l : List Version} {n : Int} {ws : List Entry} (h : SortV l) (hw : entOk 0 (-1) ws = true) : SortV (putVs l n ws) :=
  putW_sort n ws _ (dropV_sort h) (ent_nodup hw) fun x hx hb => absurd hb (dropV_mem.1 hx).2

/-- A version that may be. -/
def VOk (v : Version) : Prop := (0 ≤ v.key ∧ v.key ≤ 31) ∧ (0 ≤ v.by_ ∧ v.by_ ≤ 9) ∧ 0 ≤ v.value ∧ v.value ≤ 1000000
theorem putVs_ok {l : List Version} {n : Int} {ws : List Entry} (h : ∀ x, x ∈ l → VOk x) (hn : 0 ≤ n ∧ n ≤ 9) (hw : entOk 0 (-1) ws = true) : ∀ x, x ∈ putVs l n ws → VOk x := by
  intro x hx
  rcases putVs_mem.1 hx with h1 | ⟨h1, h2⟩
  · exact h x h1.1
  · have := writesOk_ent hw _ h2
    exact ⟨this.1, by omega, this.2⟩

/-- The versions of what the first slots write. -/
def allTo (sl : List Slot) : Nat → List Version
  | 0 => []
  | n + 1 => putVs (allTo sl n) (n : Int) (sl.getD n slot0).res.writes
theorem allTo_mem (sl : List Slot) {x : Version} : ∀ n, x ∈ allTo sl n ↔ ∃ k : Nat, k < n ∧ x.by_ = (k : Int) ∧ (⟨x.key, x.value⟩ : Entry) ∈ (sl.getD k slot0).res.writes
  | 0 => by simp [allTo]
  | n + 1 => by
    unfold allTo
    rw [putVs_mem, allTo_mem sl n]
    constructor
    · rintro (⟨⟨k, h1, h2, h3⟩, _⟩ | ⟨h1, h2⟩)
      · exact ⟨k, by omega, h2, h3⟩
      · exact ⟨n, by omega, h1, h2⟩
    · rintro ⟨k, h1, h2, h3⟩
      by_cases e : k = n
      · subst e; exact .inr ⟨h2, h3⟩
      · exact .inl ⟨⟨k, by omega, h2, h3⟩, by omega⟩
/-- What the slots write may be written. -/
def WOk (sl : List Slot) : Prop := ∀ k : Nat, entOk 0 (-1) (sl.getD k slot0).res.writes = true
theorem allTo_sort {sl : List Slot} (h : WOk sl) : ∀ n, SortV (allTo sl n)
  | 0 => List.Pairwise.nil
  | n + 1 => putVs_sort (allTo_sort h n) (h n)
theorem allTo_ok {sl : List Slot} (h : WOk sl) : ∀ n, n ≤ 10 → ∀ x, x ∈ allTo sl n → VOk x
  | 0, _ => fun x hx => by cases hx
  | n + 1, hn => putVs_ok (allTo_ok h n (by omega)) (by omega) (h n)

theorem getD_set_slot (sl : List Slot) (n k : Nat) (s : Slot) (h : n < sl.length) : (sl.set n s).getD k slot0 = if k = n then s else sl.getD k slot0 := by
  rw [List.getD_eq_getElem?_getD, List.getD_eq_getElem?_getD, List.getElem?_set]
  by_cases e : n = k
  · subst e; simp [h]
  · rw [if_neg e, if_neg (fun e' => e e'.symm)]
theorem WOk.set {sl : List Slot} (h : WOk sl) {n : Nat} (hn : n < sl.length) {s : Slot} (hs : entOk 0 (-1) s.res.writes = true) : WOk (sl.set n s) := by
  intro k
  rw [getD_set_slot _ _ _ _ hn]
  split
  · exact hs
  · exact h k

/-- A slot's writes are exchanged. -/
theorem allTo_set {sl : List Slot} (h : WOk sl) {n m : Nat} (hn : n < m) (hm : m ≤ sl.length) {s : Slot} (hs : entOk 0 (-1) s.res.writes = true) : putVs (allTo sl m) (n : Int) s.res.writes = allTo (sl.set n s) m := by
  refine sort_ext (putVs_sort (allTo_sort h m) hs) (allTo_sort (h.set (by omega) hs) m) fun x => ?_
  rw [putVs_mem, allTo_mem, allTo_mem]
  constructor
  · rintro (⟨⟨k, h1, h2, h3⟩, h4⟩ | ⟨h1, h2⟩)
    · refine ⟨k, h1, h2, ?_⟩
      rw [getD_set_slot _ _ _ _ (by omega), if_neg (by omega)]; exact h3
    · exact ⟨n, hn, h1, by rw [getD_set_slot _ _ _ _ (by omega), if_pos rfl]; exact h2⟩
  · rintro ⟨k, h1, h2, h3⟩
    rw [getD_set_slot _ _ _ _ (by omega)] at h3
    split at h3
    · rename_i e; subst e; exact .inr ⟨h2, h3⟩
    · exact .inl ⟨⟨k, h1, h2, h3⟩, by omega⟩
theorem allTo_drop {sl : List Slot} (h : WOk sl) {n m : Nat} (hn : n < m) (hm : m ≤ sl.length) {s : Slot} (hs : s.res.writes = []) : dropV (n : Int) (allTo sl m) = allTo (sl.set n s) m := by
  have := allTo_set h hn hm (s := s) (by rw [hs]; rfl)
  rw [hs] at this
  exact this

/-- Of the versions that an action sees the last one counts. -/
theorem readF_spec (key n : Int) : ∀ (l : List Version) (p : Int × Int), SortV l →
    (readF key n l p = p ∧ ∀ v, v ∈ l → ¬ (v.key = key ∧ v.by_ < n)) ∨ ∃ v, v ∈ l ∧ v.key = key ∧ v.by_ < n ∧ readF key n l p = (v.value, v.by_) ∧ ∀ u, u ∈ l → u.key = key → u.by_ < n → u.by_ ≤ v.by_
  | [], p, _ => .inl ⟨rfl, fun v hv => by cases hv⟩
  | x :: r, p, h => by
    obtain ⟨h1, h2⟩ := List.pairwise_cons.1 h
    show (readF key n r (readStep key n p x) = p ∧ _) ∨ ∃ v, v ∈ x :: r ∧ v.key = key ∧ v.by_ < n ∧ readF key n r (readStep key n p x) = (v.value, v.by_) ∧ _
    rcases readF_spec key n r (readStep key n p x) h2 with ⟨g1, g2⟩ | ⟨v, g1, g2, g3, g4, g5⟩
    · by_cases c : x.key = key ∧ x.by_ < n
      · refine .inr ⟨x, List.mem_cons_self .., c.1, c.2, ?_, fun u hu hk hb => ?_⟩
        · rw [g1]; unfold readStep; rw [if_pos c]
        · rcases List.mem_cons.1 hu with rfl | hu
          · exact Int.le_refl _
          · exact absurd ⟨hk, hb⟩ (g2 u hu)
      · refine .inl ⟨?_, fun u hu => ?_⟩
        · rw [g1]; unfold readStep; rw [if_neg c]
        · rcases List.mem_cons.1 hu with rfl | hu
          · exact c
          · exact g2 u hu
    · refine .inr ⟨v, List.mem_cons_of_mem _ g1, g2, g3, g4, fun u hu hk hb => ?_⟩
      rcases List.mem_cons.1 hu with rfl | hu
      · have := h1 v g1
        rw [ltV_iff] at this
        omega
      · exact g5 u hu hk hb

/-- The values behind the writes of the first slots, and who wrote them. -/
def valOf (ws : List Entry) (key : Int) : Option Int := (ws.find? fun e => e.key == key).map Entry.value
def seenTo (b : Int) (sl : List Slot) (key : Int) : Nat → Int × Int
  | 0 => (b, -1)
  | n + 1 => match valOf (sl.getD n slot0).res.writes key with
    | some x => (x, (n : Int))
    | none => seenTo b sl key n

theorem valOf_some {ws : List Entry} {key x : Int} (hd : (ws.map Entry.key).Nodup) : valOf ws key = some x ↔ (⟨key, x⟩ : Entry) ∈ ws := by
  unfold valOf
  induction ws with
  | nil => simp
  | cons e r ih =>
    rw [List.map_cons, List.nodup_cons] at hd
    rw [List.find?_cons]
    by_cases c : e.key = key
    · rw [show (e.key == key) = true by simp [c]]
      simp only [Option.map_some, Option.some.injEq, List.mem_cons]
      constructor
      · intro h; left; cases e; dsimp only at c h; rw [c, h]
      · rintro (h | h)
        · rw [← h]
        · exact absurd (List.mem_map.2 ⟨_, h, c.symm⟩) hd.1
    · rw [show (e.key == key) = false by simp [c]]
      rw [ih hd.2, List.mem_cons]
      constructor
      · exact .inr
      · rintro (h | h)
        · exact absurd (by rw [← h]) c
        · exact h
theorem valOf_none {ws : List Entry} {key : Int} : valOf ws key = none ↔ ∀ e, e ∈ ws → e.key ≠ key := by
  unfold valOf
  rw [Option.map_eq_none_iff, List.find?_eq_none]
  simp

theorem seenTo_spec (b : Int) {sl : List Slot} (h : WOk sl) (key : Int) : ∀ n : Nat,
    (seenTo b sl key n = (b, -1) ∧ ∀ k, k < n → ∀ e, e ∈ (sl.getD k slot0).res.writes → e.key ≠ key) ∨
    ∃ (k : Nat) (x : Int), k < n ∧ seenTo b sl key n = (x, (k : Int)) ∧ (⟨key, x⟩ : Entry) ∈ (sl.getD k slot0).res.writes ∧ ∀ k', k < k' → k' < n → ∀ e, e ∈ (sl.getD k' slot0).res.writes → e.key ≠ key
  | 0 => .inl ⟨rfl, fun k hk => by omega⟩
  | n + 1 => by
    unfold seenTo
    split
    · rename_i x hx
      exact .inr ⟨n, x, by omega, rfl, (valOf_some (ent_nodup (h n))).1 hx, fun k' h1 h2 => by omega⟩
    · rename_i hx
      rw [valOf_none] at hx
      rcases seenTo_spec b h key n with ⟨g1, g2⟩ | ⟨k, x, g1, g2, g3, g4⟩
      · refine .inl ⟨g1, fun k hk e he => ?_⟩
        by_cases c : k = n
        · subst c; exact hx e he
        · exact g2 k (by omega) e he
      · refine .inr ⟨k, x, by omega, g2, g3, fun k' h1 h2 e he => ?_⟩
        by_cases c : k' = n
        · subst c; exact hx e he
        · exact g4 k' h1 (by omega) e he

/-- What is read out of all versions is what the earlier slots have written. -/
theorem read_all (b : Int) {sl : List Slot} (h : WOk sl) (key : Int) {n m : Nat} (hn : n ≤ m) : readF key (n : Int) (allTo sl m) (b, -1) = seenTo b sl key n := by
  rcases readF_spec key (n : Int) (allTo sl m) (b, -1) (allTo_sort h m) with ⟨g1, g2⟩ | ⟨v, g1, g2, g3, g4, g5⟩
  · rcases seenTo_spec b h key n with ⟨k1, _⟩ | ⟨k, x, k1, k2, k3, k4⟩
    · rw [g1, k1]
    · exact absurd ⟨rfl, by dsimp only; omega⟩ (g2 ⟨key, k, x⟩ ((allTo_mem sl m).2 ⟨k, by omega, rfl, k3⟩))
  · obtain ⟨j, j1, j2, j3⟩ := (allTo_mem sl m).1 g1
    rcases seenTo_spec b h key n with ⟨_, k2⟩ | ⟨k, x, k1, k2, k3, k4⟩
    · exact absurd g2 (k2 j (by omega) _ j3)
    · have hle := g5 ⟨key, k, x⟩ ((allTo_mem sl m).2 ⟨k, by omega, rfl, k3⟩) rfl (by dsimp only; omega)
      dsimp only at hle
      have e : j = k := by
        rcases Nat.lt_trichotomy j k with c | c | c
        · omega
        · exact c
        · exact absurd g2 (k4 j c (by omega) _ j3)
      subst e
      rw [g4, k2, j2]
      rw [g2] at j3
      have e1 := (valOf_some (ent_nodup (h j))).2 j3
      have e2 := (valOf_some (ent_nodup (h j))).2 k3
      rw [e1] at e2
      rw [Option.some.inj e2]

/-- What a slot does not see is of no account. -/
theorem seenTo_set (b : Int) (sl : List Slot) (key : Int) {n k : Nat} (s : Slot) (hk : k ≤ n) (hn : n < sl.length) : seenTo b (sl.set n s) key k = seenTo b sl key k := by
  induction k with
  | zero => rfl
  | succ k ih =>
    unfold seenTo
    rw [getD_set_slot _ _ _ _ hn, if_neg (by omega), ih (by omega)]

end Go.Proofs.Yteebkimhfaodnaa

/- Contracts: versions, read and dropped. -/
set_option linter.unusedSimpArgs false
set_option linter.unusedVariables false
set_option maxRecDepth 20000
set_option maxHeartbeats 4000000
namespace Go.Proofs.Yteebkimhfaodnaa
open Go Go.RowKit

theorem readF_drop (k n : Int) (l : List Version) (p : Int × Int) (i : Nat) (h : i < l.length) : readF k n (l.drop i) p = readF k n (l.drop (i + 1)) (readStep k n p l[i]) := by
  rw [List.drop_eq_getElem_cons h]; rfl
theorem readStep_yes {k n : Int} {p : Int × Int} {v : Version} (h1 : (v.key == k) = true) (h2 : decide (v.by_ < n) = true) : readStep k n p v = (v.value, v.by_) := by
  unfold readStep; rw [if_pos ⟨by simpa using h1, of_decide_eq_true h2⟩]
theorem readStep_no1 {k n : Int} {p : Int × Int} {v : Version} (h1 : (v.key == k) = false) : readStep k n p v = p := by
  unfold readStep; rw [if_neg (fun h => by simp [h.1] at h1)]
theorem readStep_no2 {k n : Int} {p : Int × Int} {v : Version} (h2 : decide (v.by_ < n) = false) : readStep k n p v = p := by
  unfold readStep; rw [if_neg (fun h => of_decide_eq_false h2 h.2)]

theorem c_impl_read (n1 : Option Bool) (v : List Int) (l : List Version) (k n : Int) (hv : v.length = 32) (hl : l.length < 2 ^ 32) (hk : 0 ≤ k ∧ k ≤ 31) :
    Det Try.prog 94 [.agg (cellsI v), .sl n1 (rows encR l), .int .i64 k, .int .i64 n] (.tup [.int .i64 (readF k n l (valK v k, -1)).1, .int .i64 (readF k n l (valK v k, -1)).2]) := by
  refine fspec_det tab_ok Try.call94 Try.func94 rfl 40 Try.ntmps94 (of_decide_eq_true rfl) fun B => codeK_sound tab_ok _ _ _ ?_
  have cl : (cellsI v).length = 32 := by rw [cellsI_length, hv]
  have g1 := cellsI_at v k hk.1 (by omega) k.toNat 1 rfl rfl
  have hb1 := hk.1
  have hb2 : k < 32 := by omega
  simp (config := { maxSteps := 4000000 }) only [go_sem, simprocAttr, ↓dnA, Try.f94, rows_length, cl, g1, hb1, hb2, Nat.mul_one]
  repeat refine And.intro (by first | omega | (simp; done) | (simp; omega) | assumption) ?_
  refine semL_for tab_ok (fun p : Nat × Int × Int => ⟨40, [(2, .int .i64 k), (3, .int .i64 n), (10, .int .i64 p.2.1), (11, .int .i64 p.2.2), (17, .sl n1 (rows encR l)), (18, .int .i64 l.length), (19, .int .i64 p.1)], []⟩) (fun p => l.length - p.1)
    (fun p => p.1 ≤ l.length ∧ readF k n (l.drop p.1) p.2 = readF k n l (valK v k, -1)) (0, valK v k, -1) [] (Weak.of (by rfl) ?_ ?_ (by rfl)) ⟨by omega, rfl⟩ ?_
  · simp (config := { maxSteps := 4000000 }) only [go_sem, simprocAttr, ↓dnA, Try.f94, rows_length, frW, wk2, wk1, wkL, wkB, hpW, List.mem_cons, Prod.mk.injEq, exists_eq_left, exists_eq_right, exists_eq]
    try rfl
  · simp (config := { maxSteps := 4000000 }) only [go_sem, simprocAttr, ↓dnA, Try.f94, rows_length, frW, wk2, wk1, wkL, wkB, hpW, List.mem_cons, Prod.mk.injEq, exists_eq_left, exists_eq_right, exists_eq]
  · rintro ⟨i, x, w⟩ ⟨hi, hr⟩
    dsimp only at hi hr
    by_cases h : i < l.length
    · have hw : IntKind.i64.wrap ((i : Int) + 1) = ((i + 1 : Nat) : Int) := wsucc h (by omega)
      rw [readF_drop _ _ _ _ _ h] at hr
      cases h1 : (l[i].key == k) with
      | false =>
        rw [readStep_no1 h1] at hr
        simp (config := { maxSteps := 4000000 }) only [go_sem, simprocAttr, ↓dnA, Try.f94, rows_length, nlt h, h, rows_get _ _ _ h, encR, nn0, h1, hw]
        refine ⟨(i + 1, x, w), [], ⟨by omega, hr⟩, by dsimp only; omega, Weak.of (by rfl) ?_ ?_ (by rfl)⟩
        · simp (config := { maxSteps := 4000000 }) only [go_sem, simprocAttr, ↓dnA, Try.f94, rows_length, frW, wk2, wk1, wkL, wkB, hpW, List.mem_cons, Prod.mk.injEq, exists_eq_left, exists_eq_right, exists_eq]
        · simp (config := { maxSteps := 4000000 }) only [go_sem, simprocAttr, ↓dnA, Try.f94, rows_length, frW, wk2, wk1, wkL, wkB, hpW, List.mem_cons, Prod.mk.injEq, exists_eq_left, exists_eq_right, exists_eq]
      | true =>
        cases h2 : decide (l[i].by_ < n) with
        | false =>
          rw [readStep_no2 h2] at hr
          simp (config := { maxSteps := 4000000 }) only [go_sem, simprocAttr, ↓dnA, Try.f94, rows_length, nlt h, h, rows_get _ _ _ h, encR, nn0, h1, h2, hw]
          refine ⟨(i + 1, x, w), [], ⟨by omega, hr⟩, by dsimp only; omega, Weak.of (by rfl) ?_ ?_ (by rfl)⟩
          · simp (config := { maxSteps := 4000000 }) only [go_sem, simprocAttr, ↓dnA, Try.f94, rows_length, frW, wk2, wk1, wkL, wkB, hpW, List.mem_cons, Prod.mk.injEq, exists_eq_left, exists_eq_right, exists_eq]
          · simp (config := { maxSteps := 4000000 }) only [go_sem, simprocAttr, ↓dnA, Try.f94, rows_length, frW, wk2, wk1, wkL, wkB, hpW, List.mem_cons, Prod.mk.injEq, exists_eq_left, exists_eq_right, exists_eq]
        | true =>
          rw [readStep_yes h1 h2] at hr
          simp (config := { maxSteps := 4000000 }) only [go_sem, simprocAttr, ↓dnA, Try.f94, rows_length, nlt h, h, rows_get _ _ _ h, encR, nn0, h1, h2, hw]
          refine semL_draw tab_ok mixed_ rfl (ord := [(0, []), (1, []), (2, []), (3, []), (4, []), (5, [])]) (by dsimp only; decide +kernel) ?_
          simp (config := { maxSteps := 4000000 }) only [go_sem, simprocAttr, ↓dnA, Try.f94, rows_length, nlt h, h, rows_get _ _ _ h, encR, nn0, h1, h2, hw]
          refine ⟨(i + 1, l[i].value, l[i].by_), [], ⟨by omega, hr⟩, by dsimp only; omega, Weak.of (by rfl) ?_ ?_ (by rfl)⟩
          · simp (config := { maxSteps := 4000000 }) only [go_sem, simprocAttr, ↓dnA, Try.f94, rows_length, frW, wk2, wk1, wkL, wkB, hpW, List.mem_cons, Prod.mk.injEq, exists_eq_left, exists_eq_right, exists_eq]
          · simp (config := { maxSteps := 4000000 }) only [go_sem, simprocAttr, ↓dnA, Try.f94, rows_length, frW, wk2, wk1, wkL, wkB, hpW, List.mem_cons, Prod.mk.injEq, exists_eq_left, exists_eq_right, exists_eq]
    · have hi' : i = l.length := by omega
      subst hi'
      rw [List.drop_length] at hr
      have e1 : x = (readF k n l (valK v k, -1)).1 := by rw [← hr]; rfl
      have e2 : w = (readF k n l (valK v k, -1)).2 := by rw [← hr]; rfl
      simp (config := { maxSteps := 4000000 }) only [go_sem, simprocAttr, ↓dnA, Try.f94, rows_length, nlf h, e1, e2]

theorem c_spec_l9Read (n0 n1 : Option Bool) (s : List Entry) (l : List Version) (k n : Int) (hs : s.length < 2 ^ 32) (hl : l.length < 2 ^ 32) :
    Det Try.prog 99 [.sl n0 (rows encE s), .sl n1 (rows encR l), .int .i64 k, .int .i64 n] (.tup [.int .i64 (readF k n l (valAt s k, -1)).1, .int .i64 (readF k n l (valAt s k, -1)).2]) := by
  refine fspec_det tab_ok Try.call99 Try.func99 rfl 50 Try.ntmps99 (of_decide_eq_true rfl) fun B => codeK_sound tab_ok _ _ _ ?_
  simp (config := { maxSteps := 4000000 }) only [go_sem, simprocAttr, ↓dnA, Try.f99, rows_length]
  refine CallTo.det (c_spec_l2At n0 s k (by omega)) fun _ => ?_
  simp (config := { maxSteps := 4000000 }) only [go_sem, simprocAttr, ↓dnA, Try.f99, rows_length]
  refine semL_for tab_ok (fun p : Nat × Int × Int => ⟨50, [(1, .sl n1 (rows encR l)), (2, .int .i64 k), (3, .int .i64 n), (10, .int .i64 p.2.1), (11, .int .i64 p.2.2), (12, .int .i64 p.1)], []⟩) (fun p => l.length - p.1)
    (fun p => p.1 ≤ l.length ∧ readF k n (l.drop p.1) p.2 = readF k n l (valAt s k, -1)) (0, valAt s k, -1) [] (Weak.of (by rfl) ?_ ?_ (by rfl)) ⟨by omega, rfl⟩ ?_
  · simp (config := { maxSteps := 4000000 }) only [go_sem, simprocAttr, ↓dnA, Try.f99, rows_length, frW, wk2, wk1, wkL, wkB, hpW, List.mem_cons, Prod.mk.injEq, exists_eq_left, exists_eq_right, exists_eq]
    try rfl
  · simp (config := { maxSteps := 4000000 }) only [go_sem, simprocAttr, ↓dnA, Try.f99, rows_length, frW, wk2, wk1, wkL, wkB, hpW, List.mem_cons, Prod.mk.injEq, exists_eq_left, exists_eq_right, exists_eq]
  · rintro ⟨i, x, w⟩ ⟨hi, hr⟩
    dsimp only at hi hr
    by_cases h : i < l.length
    · have hw : IntKind.i64.wrap ((i : Int) + 1) = ((i + 1 : Nat) : Int) := wsucc h (by omega)
      rw [readF_drop _ _ _ _ _ h] at hr
      cases h1 : (l[i].key == k) with
      | false =>
        rw [readStep_no1 h1] at hr
        simp (config := { maxSteps := 4000000 }) only [go_sem, simprocAttr, ↓dnA, Try.f99, rows_length, nlt h, h, rows_get _ _ _ h, encR, nn0, h1, hw]
        refine ⟨(i + 1, x, w), [], ⟨by omega, hr⟩, by dsimp only; omega, Weak.of (by rfl) ?_ ?_ (by rfl)⟩
        · simp (config := { maxSteps := 4000000 }) only [go_sem, simprocAttr, ↓dnA, Try.f99, rows_length, frW, wk2, wk1, wkL, wkB, hpW, List.mem_cons, Prod.mk.injEq, exists_eq_left, exists_eq_right, exists_eq]
        · simp (config := { maxSteps := 4000000 }) only [go_sem, simprocAttr, ↓dnA, Try.f99, rows_length, frW, wk2, wk1, wkL, wkB, hpW, List.mem_cons, Prod.mk.injEq, exists_eq_left, exists_eq_right, exists_eq]
      | true =>
        cases h2 : decide (l[i].by_ < n) with
        | false =>
          rw [readStep_no2 h2] at hr
          simp (config := { maxSteps := 4000000 }) only [go_sem, simprocAttr, ↓dnA, Try.f99, rows_length, nlt h, h, rows_get _ _ _ h, encR, nn0, h1, h2, hw]
          refine ⟨(i + 1, x, w), [], ⟨by omega, hr⟩, by dsimp only; omega, Weak.of (by rfl) ?_ ?_ (by rfl)⟩
          · simp (config := { maxSteps := 4000000 }) only [go_sem, simprocAttr, ↓dnA, Try.f99, rows_length, frW, wk2, wk1, wkL, wkB, hpW, List.mem_cons, Prod.mk.injEq, exists_eq_left, exists_eq_right, exists_eq]
          · simp (config := { maxSteps := 4000000 }) only [go_sem, simprocAttr, ↓dnA, Try.f99, rows_length, frW, wk2, wk1, wkL, wkB, hpW, List.mem_cons, Prod.mk.injEq, exists_eq_left, exists_eq_right, exists_eq]
        | true =>
          rw [readStep_yes h1 h2] at hr
          simp (config := { maxSteps := 4000000 }) only [go_sem, simprocAttr, ↓dnA, Try.f99, rows_length, nlt h, h, rows_get _ _ _ h, encR, nn0, h1, h2, hw]
          refine ⟨(i + 1, l[i].value, l[i].by_), [], ⟨by omega, hr⟩, by dsimp only; omega, Weak.of (by rfl) ?_ ?_ (by rfl)⟩
          · simp (config := { maxSteps := 4000000 }) only [go_sem, simprocAttr, ↓dnA, Try.f99, rows_length, frW, wk2, wk1, wkL, wkB, hpW, List.mem_cons, Prod.mk.injEq, exists_eq_left, exists_eq_right, exists_eq]
          · simp (config := { maxSteps := 4000000 }) only [go_sem, simprocAttr, ↓dnA, Try.f99, rows_length, frW, wk2, wk1, wkL, wkB, hpW, List.mem_cons, Prod.mk.injEq, exists_eq_left, exists_eq_right, exists_eq]
    · have hi' : i = l.length := by omega
      subst hi'
      rw [List.drop_length] at hr
      have e1 : x = (readF k n l (valAt s k, -1)).1 := by rw [← hr]; rfl
      have e2 : w = (readF k n l (valAt s k, -1)).2 := by rw [← hr]; rfl
      simp (config := { maxSteps := 4000000 }) only [go_sem, simprocAttr, ↓dnA, Try.f99, rows_length, nlf h, e1, e2]


theorem dropV_take (n : Int) (l : List Version) (i : Nat) (h : i < l.length) : dropV n (l.take (i + 1)) = dropV n (l.take i) ++ if l[i].by_ != n then [l[i]] else [] := by
  unfold dropV
  rw [take_snoc _ _ h, List.filter_append]
  congr 1
  rw [List.filter_cons]
  rfl
theorem dropV_tlen (n : Int) (l : List Version) (i : Nat) : (dropV n (l.take i)).length ≤ i := by
  have h1 : (dropV n (l.take i)).length ≤ (l.take i).length := List.length_filter_le ..
  rw [List.length_take] at h1
  omega

theorem c_impl_without (n1 : Option Bool) (l : List Version) (n : Int) (hl : l.length < 2 ^ 32) : Det Try.prog 66 [.sl n1 (rows encR l), .int .i64 n] (.osl false 3 (rows encR (dropV n l))) := by
  refine fspec_det tab_ok Try.call66 Try.func66 rfl 24 Try.ntmps66 (of_decide_eq_true rfl) fun B => codeK_sound tab_ok _ _ _ ?_
  simp (config := { maxSteps := 4000000 }) only [go_sem, simprocAttr, ↓dnA, Try.f66, rows_length]
  refine semL_nilA 5 600 3 true (by rfl) (by rfl) (by decide) (by decide) ?_
  refine semL_for tab_ok (fun i : Nat => ⟨24, [(1, .int .i64 n), (5, .row 600 (dropV n (l.take i)).length), (8, .sl n1 (rows encR l)), (9, .int .i64 l.length), (10, .int .i64 i)],
      [(600, .row true false 3 (rows encR (dropV n (l.take i))))]⟩) (fun i => l.length - i)
    (fun i => i ≤ l.length) 0 [(600, 600)] (Weak.of (by rfl) ?_ ?_ (by rfl)) (by omega) ?_
  · simp (config := { maxSteps := 4000000 }) only [go_sem, simprocAttr, ↓dnA, Try.f66, rows_length, frW, wk2, wk1, wkL, wkB, hpW, List.mem_cons, Prod.mk.injEq, exists_eq_left, exists_eq_right, exists_eq]
    try rfl
  · simp (config := { maxSteps := 4000000 }) only [go_sem, simprocAttr, ↓dnA, Try.f66, rows_length, frW, wk2, wk1, wkL, wkB, hpW, List.mem_cons, Prod.mk.injEq, exists_eq_left, exists_eq_right, exists_eq]
    try rfl
  · rintro i hi
    have hlen := dropV_tlen n l i
    by_cases h : i < l.length
    · have hw : IntKind.i64.wrap ((i : Int) + 1) = ((i + 1 : Nat) : Int) := wsucc h (by omega)
      have hst := dropV_take n l i h
      have htk : (rows encR (dropV n (l.take i))).take (dropV n (l.take i)).length = rows encR (dropV n (l.take i)) := by rw [List.take_of_length_le]; rw [rows_length]; omega
      cases h1 : (l[i].by_ != n) with
      | false =>
        rw [h1, if_neg Bool.false_ne_true, List.append_nil] at hst
        simp (config := { maxSteps := 4000000 }) only [go_sem, simprocAttr, ↓dnA, Try.f66, rows_length, nlt h, h, rows_get _ _ _ h, encR, nn0, h1, hw]
        refine ⟨i + 1, [(600, 600)], by omega, by dsimp only; omega, Weak.of (by rfl) ?_ ?_ (by rfl)⟩
        · simp (config := { maxSteps := 4000000 }) only [go_sem, simprocAttr, ↓dnA, Try.f66, rows_length, hst, frW, wk2, wk1, wkL, wkB, hpW, List.mem_cons, Prod.mk.injEq, exists_eq_left, exists_eq_right, exists_eq]
        · simp (config := { maxSteps := 4000000 }) only [go_sem, simprocAttr, ↓dnA, Try.f66, rows_length, hst, frW, wk2, wk1, wkL, wkB, hpW, List.mem_cons, Prod.mk.injEq, exists_eq_left, exists_eq_right, exists_eq]
      | true =>
        rw [h1, if_pos rfl] at hst
        have hsn : rows encR (dropV n (l.take i)) ++ [[AV.int IntKind.i64 l[i].key, AV.int IntKind.i64 l[i].by_, AV.int IntKind.i64 l[i].value]] = rows encR (dropV n (l.take i) ++ [l[i]]) := rows_snoc encR _ l[i]
        simp (config := { maxSteps := 4000000 }) only [go_sem, simprocAttr, ↓dnA, Try.f66, rows_length, nlt h, h, rows_get _ _ _ h, encR, nn0, h1, hw, htk]
        repeat refine And.intro (by first | omega | (simp; done) | (simp; omega) | assumption) ?_
        refine ⟨i + 1, [(21, 600)], by omega, by dsimp only; omega, Weak.of (by rfl) ?_ ?_ (by rfl)⟩
        · simp (config := { maxSteps := 4000000 }) only [go_sem, simprocAttr, ↓dnA, Try.f66, rows_length, hst, hsn, List.length_append, frW, wk2, wk1, wkL, wkB, hpW, List.mem_cons, Prod.mk.injEq, exists_eq_left, exists_eq_right, exists_eq]
          try rfl
        · simp (config := { maxSteps := 4000000 }) only [go_sem, simprocAttr, ↓dnA, Try.f66, rows_length, hst, hsn, List.length_append, frW, wk2, wk1, wkL, wkB, hpW, List.mem_cons, Prod.mk.injEq, exists_eq_left, exists_eq_right, exists_eq]
    · have hi' : i = l.length := by omega
      subst hi'
      rw [List.take_length]
      simp (config := { maxSteps := 4000000 }) only [go_sem, simprocAttr, ↓dnA, Try.f66, rows_length, nlf h, List.take_length]

theorem c_spec_l9Drop (n1 : Option Bool) (l : List Version) (n : Int) (hl : l.length < 2 ^ 32) : Det Try.prog 79 [.sl n1 (rows encR l), .int .i64 n] (.osl true 3 (rows encR (dropV n l))) := by
  refine fspec_det tab_ok Try.call79 Try.func79 rfl 29 Try.ntmps79 (of_decide_eq_true rfl) fun B => codeK_sound tab_ok _ _ _ ?_
  simp (config := { maxSteps := 4000000 }) only [go_sem, simprocAttr, ↓dnA, Try.f79, rows_length]
  refine semL_for tab_ok (fun i : Nat => ⟨29, [(0, .sl n1 (rows encR l)), (1, .int .i64 n), (5, .row 600 (dropV n (l.take i)).length), (6, .int .i64 i)],
      [(600, .row true true 3 (rows encR (dropV n (l.take i))))]⟩) (fun i => l.length - i)
    (fun i => i ≤ l.length) 0 [(7, 600)] (Weak.of (by rfl) ?_ ?_ (by rfl)) (by omega) ?_
  · simp (config := { maxSteps := 4000000 }) only [go_sem, simprocAttr, ↓dnA, Try.f79, rows_length, frW, wk2, wk1, wkL, wkB, hpW, List.mem_cons, Prod.mk.injEq, exists_eq_left, exists_eq_right, exists_eq]
    try rfl
  · simp (config := { maxSteps := 4000000 }) only [go_sem, simprocAttr, ↓dnA, Try.f79, rows_length, frW, wk2, wk1, wkL, wkB, hpW, List.mem_cons, Prod.mk.injEq, exists_eq_left, exists_eq_right, exists_eq]
    try rfl
    try exact ⟨rfl, rfl⟩
  · rintro i hi
    have hlen := dropV_tlen n l i
    by_cases h : i < l.length
    · have hw : IntKind.i64.wrap ((i : Int) + 1) = ((i + 1 : Nat) : Int) := wsucc h (by omega)
      have hst := dropV_take n l i h
      have htk : (rows encR (dropV n (l.take i))).take (dropV n (l.take i)).length = rows encR (dropV n (l.take i)) := by rw [List.take_of_length_le]; rw [rows_length]; omega
      cases h1 : (l[i].by_ != n) with
      | false =>
        rw [h1, if_neg Bool.false_ne_true, List.append_nil] at hst
        simp (config := { maxSteps := 4000000 }) only [go_sem, simprocAttr, ↓dnA, Try.f79, rows_length, nlt h, h, rows_get _ _ _ h, encR, nn0, h1, hw]
        refine ⟨i + 1, [(600, 600)], by omega, by dsimp only; omega, Weak.of (by rfl) ?_ ?_ (by rfl)⟩
        · simp (config := { maxSteps := 4000000 }) only [go_sem, simprocAttr, ↓dnA, Try.f79, rows_length, hst, frW, wk2, wk1, wkL, wkB, hpW, List.mem_cons, Prod.mk.injEq, exists_eq_left, exists_eq_right, exists_eq]
        · simp (config := { maxSteps := 4000000 }) only [go_sem, simprocAttr, ↓dnA, Try.f79, rows_length, hst, frW, wk2, wk1, wkL, wkB, hpW, List.mem_cons, Prod.mk.injEq, exists_eq_left, exists_eq_right, exists_eq]
      | true =>
        rw [h1, if_pos rfl] at hst
        have hsn : rows encR (dropV n (l.take i)) ++ [[AV.int IntKind.i64 l[i].key, AV.int IntKind.i64 l[i].by_, AV.int IntKind.i64 l[i].value]] = rows encR (dropV n (l.take i) ++ [l[i]]) := rows_snoc encR _ l[i]
        simp (config := { maxSteps := 4000000 }) only [go_sem, simprocAttr, ↓dnA, Try.f79, rows_length, nlt h, h, rows_get _ _ _ h, encR, nn0, h1, hw, htk]
        repeat refine And.intro (by first | omega | (simp; done) | (simp; omega) | assumption) ?_
        refine ⟨i + 1, [(27, 600)], by omega, by dsimp only; omega, Weak.of (by rfl) ?_ ?_ (by rfl)⟩
        · simp (config := { maxSteps := 4000000 }) only [go_sem, simprocAttr, ↓dnA, Try.f79, rows_length, hst, hsn, List.length_append, frW, wk2, wk1, wkL, wkB, hpW, List.mem_cons, Prod.mk.injEq, exists_eq_left, exists_eq_right, exists_eq]
          try rfl
        · simp (config := { maxSteps := 4000000 }) only [go_sem, simprocAttr, ↓dnA, Try.f79, rows_length, hst, hsn, List.length_append, frW, wk2, wk1, wkL, wkB, hpW, List.mem_cons, Prod.mk.injEq, exists_eq_left, exists_eq_right, exists_eq]
    · have hi' : i = l.length := by omega
      subst hi'
      simp (config := { maxSteps := 4000000 }) only [go_sem, simprocAttr, ↓dnA, Try.f79, rows_length, nlf h, List.take_length]


end Go.Proofs.Yteebkimhfaodnaa

/- Contracts: versions put in (the reference). -/
set_option linter.unusedSimpArgs false
set_option linter.unusedVariables false
set_option maxRecDepth 20000
set_option maxHeartbeats 4000000
namespace Go.Proofs.Yteebkimhfaodnaa
open Go Go.RowKit

/-- Where a version is put. -/
def insAt (v : Version) : List Version → Nat
  | [] => 0
  | x :: r => if ltV x v then insAt v r + 1 else 0
theorem insAt_le (v : Version) : ∀ l : List Version, insAt v l ≤ l.length
  | [] => Nat.le_refl _
  | x :: r => by
    have := insAt_le v r
    unfold insAt
    split <;> simp only [List.length_cons] <;> omega
theorem insV_at (v : Version) : ∀ l : List Version, insV v l = l.take (insAt v l) ++ [v] ++ l.drop (insAt v l)
  | [] => rfl
  | x :: r => by
    unfold insV insAt
    split
    · rw [insV_at v r]; simp
    · simp
theorem insAt_yes {v : Version} : ∀ {l : List Version} {j : Nat} (h : j < l.length), j < insAt v l → ltV l[j] v = true
  | [], _, h, _ => absurd h (by simp)
  | x :: r, 0, _, g => by
    unfold insAt at g
    split at g
    · assumption
    · omega
  | x :: r, j + 1, h, g => by
    unfold insAt at g
    split at g
    · exact insAt_yes (l := r) (by simpa using h) (by omega)
    · omega
theorem insAt_no {v : Version} : ∀ {l : List Version} (h : insAt v l < l.length), ltV (l[insAt v l]'h) v = false
  | [], h => absurd h (by simp)
  | x :: r, h => by
    have e : insAt v (x :: r) = if ltV x v then insAt v r + 1 else 0 := rfl
    by_cases c : ltV x v = true
    · rw [if_pos c] at e
      simp only [e]
      exact insAt_no (l := r) (by rw [e] at h; simpa using h)
    · rw [if_neg c] at e
      simp only [e]
      simpa using c
theorem insV_len (v : Version) (l : List Version) : (insV v l).length = l.length + 1 := by
  have := insAt_le v l
  rw [insV_at]; simp only [List.length_append, List.length_take, List.length_drop, List.length_cons, List.length_nil]; omega
theorem putW_take (n : Int) (l : List Version) (ws : List Entry) (i : Nat) (h : i < ws.length) : putW n l (ws.take (i + 1)) = insV ⟨ws[i].key, n, ws[i].value⟩ (putW n l (ws.take i)) := by
  unfold putW
  rw [take_snoc _ _ h, List.foldl_append]
  rfl
theorem putW_len' (n : Int) : ∀ (ws : List Entry) (l : List Version), (putW n l ws).length = l.length + ws.length
  | [], l => rfl
  | e :: r, l => by
    show (putW n (insV ⟨e.key, n, e.value⟩ l) r).length = _
    rw [putW_len' n r, insV_len]; simp only [List.length_cons]; omega
theorem insV_rows (v : Version) (l : List Version) : rows encR (insV v l) = (rows encR l).take (insAt v l) ++ [encR v] ++ (rows encR l).drop (insAt v l) := by
  rw [insV_at, rows, List.map_append, List.map_append, List.map_take, List.map_drop]; rfl

theorem c_spec_l9Put (n1 n2 : Option Bool) (l : List Version) (n : Int) (ws : List Entry) (hl : l.length < 2 ^ 32) (hws : ws.length < 2 ^ 20) :
    Det Try.prog 75 [.sl n1 (rows encR l), .int .i64 n, .sl n2 (rows encE ws)] (.osl true 3 (rows encR (putVs l n ws))) := by
  refine fspec_det tab_ok Try.call75 Try.func75 rfl 82 Try.ntmps75 (of_decide_eq_true rfl) fun B => codeK_sound tab_ok _ _ _ ?_
  unfold putVs
  simp (config := { maxSteps := 4000000 }) only [go_sem, simprocAttr, ↓dnA, Try.f75, rows_length, viewK]
  refine CallTo.det (c_spec_l9Drop n1 l n hl) fun _ => ?_
  simp (config := { maxSteps := 4000000 }) only [go_sem, simprocAttr, ↓dnA, Try.f75, rows_length, viewK]
  have hd := (show (dropV n l).length ≤ l.length from List.length_filter_le ..)
  generalize dropV n l = d at hd
  refine semL_for tab_ok (fun i : Nat => ⟨82, [(1, .int .i64 n), (2, .sl n2 (rows encE ws)), (7, .row 650 (putW n d (ws.take i)).length), (8, .int .i64 i)],
      [(650, .row true true 3 (rows encR (putW n d (ws.take i))))]⟩) (fun i => ws.length - i)
    (fun i => i ≤ ws.length) 0 [(15000, 650)] (Weak.of (by rfl) ?_ ?_ (by rfl)) (by omega) ?_
  · simp (config := { maxSteps := 4000000 }) only [go_sem, simprocAttr, ↓dnA, Try.f75, rows_length, viewK, frW, wk2, wk1, wkL, wkB, hpW, List.mem_cons, Prod.mk.injEq, exists_eq_left, exists_eq_right, exists_eq]
    try rfl
  · simp (config := { maxSteps := 4000000 }) only [go_sem, simprocAttr, ↓dnA, Try.f75, rows_length, viewK, frW, wk2, wk1, wkL, wkB, hpW, List.mem_cons, Prod.mk.injEq, exists_eq_left, exists_eq_right, exists_eq]
    try rfl
  · rintro i hi
    by_cases h : i < ws.length
    · have hst := putW_take n d ws i h
      have hln := putW_len' n (ws.take i) d
      rw [List.length_take] at hln
      generalize hu : putW n d (ws.take i) = u at hst hln
      obtain ⟨v, hv⟩ : ∃ v : Version, v = ⟨ws[i].key, n, ws[i].value⟩ := ⟨_, rfl⟩
      rw [← hv] at hst
      have hw : IntKind.i64.wrap ((i : Int) + 1) = ((i + 1 : Nat) : Int) := wsucc h (by omega)
      simp (config := { maxSteps := 4000000 }) only [go_sem, simprocAttr, ↓dnA, Try.f75, rows_length, viewK, nlt h, h, rows_get _ _ _ h, encE, nn0, hu]
      refine semL_draw tab_ok mixed_ rfl (ord := [(0, []), (1, []), (2, []), (3, []), (4, []), (5, []), (6, []), (7, []), (8, []), (9, []), (10, []), (11, []), (12, [0, 1, 2, 3, 4, 5, 6, 7, 8, 9, 10, 11]), (13, [])]) (by dsimp only; decide +kernel) ?_
      simp (config := { maxSteps := 4000000 }) only [go_sem, simprocAttr, ↓dnA, Try.f75, rows_length, viewK, nlt h, h, rows_get _ _ _ h, encE, nn0, hu]
      have hle := insAt_le v u
      refine semL_for tab_ok (fun j : Nat => ⟨82, [(1, .int .i64 n), (2, .sl n2 (rows encE ws)), (7, .row 650 u.length), (8, .int .i64 i), (9, .loc 9 0), (10, .int .i64 j)],
          [(9, .var (encR v)), (650, .row true true 3 (rows encR u))]⟩) (fun j => u.length - j)
        (fun j => j ≤ insAt v u) 0 [(9, 9), (650, 650)] (Weak.of (by rfl) ?_ ?_ (by rfl)) (by omega) ?_
      · simp (config := { maxSteps := 4000000 }) only [go_sem, simprocAttr, ↓dnA, Try.f75, rows_length, viewK, hv, encR, frW, wk2, wk1, wkL, wkB, hpW, List.mem_cons, Prod.mk.injEq, exists_eq_left, exists_eq_right, exists_eq]
        try rfl
      · simp (config := { maxSteps := 4000000 }) only [go_sem, simprocAttr, ↓dnA, Try.f75, rows_length, viewK, hv, encR, frW, wk2, wk1, wkL, wkB, hpW, List.mem_cons, Prod.mk.injEq, exists_eq_left, exists_eq_right, exists_eq]
        try rfl
      · rintro j hj
        have hvk : v.by_ = n := by rw [hv]
        rcases Nat.lt_or_ge j (insAt v u) with hlt | hge
        · have hju : j < u.length := by omega
          have hy := insAt_yes hju hlt
          rw [ltV_iff, hvk] at hy
          have hwj : IntKind.i64.wrap ((j : Int) + 1) = ((j + 1 : Nat) : Int) := wsucc hju (by omega)
          cases k1 : decide (u[j].key < v.key) with
          | true =>
            simp (config := { maxSteps := 4000000 }) only [go_sem, simprocAttr, ↓dnA, Try.f75, rows_length, viewK, nlt hju, hju, rows_get _ _ _ hju, encR, nn0, k1, hwj]
            refine semL_draw tab_ok mixed_ rfl (ord := [(0, []), (1, []), (2, []), (3, []), (4, []), (5, []), (6, []), (7, []), (8, []), (9, []), (10, []), (11, []), (12, []), (13, []), (14, []), (15, []), (16, []), (17, []), (18, []), (19, []), (20, []), (21, []), (22, []), (23, []), (24, []), (25, []), (26, []), (27, []), (28, []), (29, []), (30, []), (31, []), (32, [])]) (by dsimp only; decide +kernel) ?_
            simp (config := { maxSteps := 4000000 }) only [go_sem, simprocAttr, ↓dnA, Try.f75, rows_length, viewK, nlt hju, hju, rows_get _ _ _ hju, encR, nn0, k1, hwj]
            refine ⟨j + 1, [(9, 9), (650, 650)], by omega, by dsimp only; omega, Weak.of (by rfl) ?_ ?_ (by rfl)⟩
            · simp (config := { maxSteps := 4000000 }) only [go_sem, simprocAttr, ↓dnA, Try.f75, rows_length, viewK, encR, frW, wk2, wk1, wkL, wkB, hpW, List.mem_cons, Prod.mk.injEq, exists_eq_left, exists_eq_right, exists_eq]
            · simp (config := { maxSteps := 4000000 }) only [go_sem, simprocAttr, ↓dnA, Try.f75, rows_length, viewK, encR, frW, wk2, wk1, wkL, wkB, hpW, List.mem_cons, Prod.mk.injEq, exists_eq_left, exists_eq_right, exists_eq]
          | false =>
            have k0 := of_decide_eq_false k1
            have k2 : (u[j].key == v.key) = true := by simp; omega
            have k3 : decide (u[j].by_ < n) = true := by simp; omega
            simp (config := { maxSteps := 4000000 }) only [go_sem, simprocAttr, ↓dnA, Try.f75, rows_length, viewK, nlt hju, hju, rows_get _ _ _ hju, encR, nn0, k1, k2, k3, hwj]
            refine semL_draw tab_ok mixed_ rfl (ord := [(0, []), (1, []), (2, []), (3, []), (4, []), (5, []), (6, []), (7, []), (8, []), (9, []), (10, []), (11, []), (12, []), (13, []), (14, []), (15, []), (16, []), (17, []), (18, []), (19, []), (20, []), (21, []), (22, []), (23, []), (24, []), (25, []), (26, []), (27, []), (28, []), (29, []), (30, []), (31, []), (32, [])]) (by dsimp only; decide +kernel) ?_
            simp (config := { maxSteps := 4000000 }) only [go_sem, simprocAttr, ↓dnA, Try.f75, rows_length, viewK, nlt hju, hju, rows_get _ _ _ hju, encR, nn0, k1, k2, k3, hwj]
            refine ⟨j + 1, [(9, 9), (650, 650)], by omega, by dsimp only; omega, Weak.of (by rfl) ?_ ?_ (by rfl)⟩
            · simp (config := { maxSteps := 4000000 }) only [go_sem, simprocAttr, ↓dnA, Try.f75, rows_length, viewK, encR, frW, wk2, wk1, wkL, wkB, hpW, List.mem_cons, Prod.mk.injEq, exists_eq_left, exists_eq_right, exists_eq]
            · simp (config := { maxSteps := 4000000 }) only [go_sem, simprocAttr, ↓dnA, Try.f75, rows_length, viewK, encR, frW, wk2, wk1, wkL, wkB, hpW, List.mem_cons, Prod.mk.injEq, exists_eq_left, exists_eq_right, exists_eq]
        · have hjj : j = insAt v u := by omega
          have hins := insV_rows v u
          have hlst : (putW n d (ws.take (i + 1))).length = u.length + 1 := by rw [hst, insV_len]
          rw [← hst, ← hjj] at hins
          have hvw : List.take ((u.length : Int) - (j : Int)).toNat (List.drop j (rows encR u)) = rows encR (u.drop j) := by
            rw [List.take_of_length_le (by rw [List.length_drop, rows_length]; omega)]; simp only [rows, List.map_drop]
          have hvw2 : List.take (u.length - j) (rows encR (u.drop j)) = rows encR (u.drop j) := by
            rw [List.take_of_length_le (by rw [rows_length, List.length_drop]; omega)]
          have q1 := all_rows encR AV.flat (fun _ => rfl) (u.drop j)
          have q2 := all_rows encR AV.one (fun _ => rfl) (u.drop j)
          have q3 : u.length - j = 0 ∨ ((rows encR (u.drop j)).getD 0 []).length = 3 := by have := sz0_rows encR 3 (fun _ => rfl) (u.drop j); rwa [List.length_drop] at this
          have hmn : min j u.length = j := by omega
          have hsum : j + 1 + (u.length - j) = u.length + 1 := by omega
          have htk : List.take (j + 1) (List.take j (rows encR u) ++ [[AV.int IntKind.i64 v.key, AV.int IntKind.i64 v.by_, AV.int IntKind.i64 v.value]]) = List.take j (rows encR u) ++ [[AV.int IntKind.i64 v.key, AV.int IntKind.i64 v.by_, AV.int IntKind.i64 v.value]] := by
            rw [List.take_of_length_le]; rw [List.length_append, List.length_take, rows_length, hmn]; exact Nat.le_refl _
          by_cases hju : j < u.length
          · have hno : ltV u[j] v = false := by subst hjj; exact insAt_no hju
            rw [ltV_false, hvk] at hno
            have k1 : decide (u[j].key < v.key) = false := by simp; omega
            cases k2 : (u[j].key == v.key) with
            | true =>
              have k3 : decide (u[j].by_ < n) = false := by simp at k2 ⊢; omega
              simp (config := { maxSteps := 4000000 }) only [go_sem, simprocAttr, ↓dnA, Try.f75, rows_length, viewK, nlt hju, hju, rows_get _ _ _ hju, encR, nn0, k1, k2, k3]
              refine semL_draw tab_ok mixed_ rfl (ord := [(0, []), (1, []), (2, []), (3, []), (4, []), (5, []), (6, []), (7, []), (8, []), (9, []), (10, []), (11, []), (12, []), (13, []), (14, []), (15, []), (16, []), (17, []), (18, []), (19, []), (20, []), (21, []), (22, []), (23, []), (24, []), (25, []), (26, []), (27, []), (28, []), (29, []), (30, []), (31, []), (32, [])]) (by dsimp only; decide +kernel) ?_
              simp (config := { maxSteps := 4000000 }) only [go_sem, simprocAttr, ↓dnA, Try.f75, rows_length, viewK, nlt hju, hju, rows_get _ _ _ hju, encR, nn0, k1, k2, k3, hvw, rows_length, List.length_drop]
              repeat refine And.intro (by first | omega | (simp; done) | (simp; omega) | assumption) ?_
              refine semL_drawL tab_ok 8 mixed_ rfl (ord := [(0, []), (1, []), (2, []), (3, []), (6, []), (4, [0, 1, 2, 6]), (5, [6]), (7, [])]) (by dsimp only; decide +kernel) ?_
              simp (config := { maxSteps := 4000000 }) only [go_sem, simprocAttr, ↓dnA, Try.f75, rows_length, viewK, nlt hju, hju, rows_get _ _ _ hju, encR, nn0, k1, k2, k3, hvw, hvw2, hw, htk, encR, List.length_append, List.length_take, List.length_drop, hmn, Nat.min_self]
              repeat refine And.intro (by first | omega | (simp; done) | (simp; omega) | assumption) ?_
              refine ⟨i + 1, [(80, 650)], by omega, by dsimp only; omega, Weak.of (by rfl) ?_ ?_ (by rfl)⟩
              · simp (config := { maxSteps := 4000000 }) only [go_sem, simprocAttr, ↓dnA, Try.f75, rows_length, viewK, hins, hlst, List.length_append, List.length_take, List.length_drop, hmn, hsum, frW, wk2, wk1, wkL, wkB, hpW, List.mem_cons, Prod.mk.injEq, exists_eq_left, exists_eq_right, exists_eq]
                try simp [encR, rows]
              · simp (config := { maxSteps := 4000000 }) only [go_sem, simprocAttr, ↓dnA, Try.f75, rows_length, viewK, hins, hlst, List.length_append, List.length_take, List.length_drop, hmn, hsum, frW, wk2, wk1, wkL, wkB, hpW, List.mem_cons, Prod.mk.injEq, exists_eq_left, exists_eq_right, exists_eq]
                try omega
            | false =>
              simp (config := { maxSteps := 4000000 }) only [go_sem, simprocAttr, ↓dnA, Try.f75, rows_length, viewK, nlt hju, hju, rows_get _ _ _ hju, encR, nn0, k1, k2]
              refine semL_draw tab_ok mixed_ rfl (ord := [(0, []), (1, []), (2, []), (3, []), (4, []), (5, []), (6, []), (7, []), (8, []), (9, []), (10, []), (11, []), (12, []), (13, []), (14, []), (15, []), (16, []), (17, []), (18, []), (19, []), (20, []), (21, []), (22, []), (23, []), (24, []), (25, []), (26, []), (27, []), (28, []), (29, []), (30, []), (31, []), (32, [])]) (by dsimp only; decide +kernel) ?_
              simp (config := { maxSteps := 4000000 }) only [go_sem, simprocAttr, ↓dnA, Try.f75, rows_length, viewK, nlt hju, hju, rows_get _ _ _ hju, encR, nn0, k1, k2, hvw, rows_length, List.length_drop]
              repeat refine And.intro (by first | omega | (simp; done) | (simp; omega) | assumption) ?_
              refine semL_drawL tab_ok 8 mixed_ rfl (ord := [(0, []), (1, []), (2, []), (3, []), (6, []), (4, [0, 1, 2, 6]), (5, [6]), (7, [])]) (by dsimp only; decide +kernel) ?_
              simp (config := { maxSteps := 4000000 }) only [go_sem, simprocAttr, ↓dnA, Try.f75, rows_length, viewK, nlt hju, hju, rows_get _ _ _ hju, encR, nn0, k1, k2, hvw, hvw2, hw, htk, encR, List.length_append, List.length_take, List.length_drop, hmn, Nat.min_self]
              repeat refine And.intro (by first | omega | (simp; done) | (simp; omega) | assumption) ?_
              refine ⟨i + 1, [(80, 650)], by omega, by dsimp only; omega, Weak.of (by rfl) ?_ ?_ (by rfl)⟩
              · simp (config := { maxSteps := 4000000 }) only [go_sem, simprocAttr, ↓dnA, Try.f75, rows_length, viewK, hins, hlst, List.length_append, List.length_take, List.length_drop, hmn, hsum, frW, wk2, wk1, wkL, wkB, hpW, List.mem_cons, Prod.mk.injEq, exists_eq_left, exists_eq_right, exists_eq]
                try simp [encR, rows]
              · simp (config := { maxSteps := 4000000 }) only [go_sem, simprocAttr, ↓dnA, Try.f75, rows_length, viewK, hins, hlst, List.length_append, List.length_take, List.length_drop, hmn, hsum, frW, wk2, wk1, wkL, wkB, hpW, List.mem_cons, Prod.mk.injEq, exists_eq_left, exists_eq_right, exists_eq]
                try omega
          · have hje : j = u.length := by omega
            have nlj := nlf hju
            simp (config := { maxSteps := 4000000 }) only [go_sem, simprocAttr, ↓dnA, Try.f75, rows_length, viewK, nlj]
            refine semL_draw tab_ok mixed_ rfl (ord := [(0, []), (1, []), (2, []), (3, []), (4, []), (5, []), (6, []), (7, []), (8, []), (9, []), (10, []), (11, []), (12, []), (13, []), (14, []), (15, []), (16, []), (17, []), (18, []), (19, []), (20, []), (21, []), (22, []), (23, []), (24, []), (25, []), (26, []), (27, []), (28, []), (29, []), (30, []), (31, []), (32, [])]) (by dsimp only; decide +kernel) ?_
            simp (config := { maxSteps := 4000000 }) only [go_sem, simprocAttr, ↓dnA, Try.f75, rows_length, viewK, nlj, encR, nn0, hvw, rows_length, List.length_drop]
            repeat refine And.intro (by first | omega | (simp; done) | (simp; omega) | assumption) ?_
            refine semL_drawL tab_ok 8 mixed_ rfl (ord := [(0, []), (1, []), (2, []), (3, []), (6, []), (4, [0, 1, 2, 6]), (5, [6]), (7, [])]) (by dsimp only; decide +kernel) ?_
            simp (config := { maxSteps := 4000000 }) only [go_sem, simprocAttr, ↓dnA, Try.f75, rows_length, viewK, nlj, encR, nn0, hvw, hvw2, hw, htk, encR, List.length_append, List.length_take, List.length_drop, hmn, Nat.min_self]
            repeat refine And.intro (by first | omega | (simp; done) | (simp; omega) | assumption) ?_
            refine ⟨i + 1, [(80, 650)], by omega, by dsimp only; omega, Weak.of (by rfl) ?_ ?_ (by rfl)⟩
            · simp (config := { maxSteps := 4000000 }) only [go_sem, simprocAttr, ↓dnA, Try.f75, rows_length, viewK, hins, hlst, List.length_append, List.length_take, List.length_drop, hmn, hsum, frW, wk2, wk1, wkL, wkB, hpW, List.mem_cons, Prod.mk.injEq, exists_eq_left, exists_eq_right, exists_eq]
              try simp [encR, rows]
            · simp (config := { maxSteps := 4000000 }) only [go_sem, simprocAttr, ↓dnA, Try.f75, rows_length, viewK, hins, hlst, List.length_append, List.length_take, List.length_drop, hmn, hsum, frW, wk2, wk1, wkL, wkB, hpW, List.mem_cons, Prod.mk.injEq, exists_eq_left, exists_eq_right, exists_eq]
              try omega
    · have hi' : i = ws.length := by omega
      subst hi'
      simp (config := { maxSteps := 4000000 }) only [go_sem, simprocAttr, ↓dnA, Try.f75, rows_length, viewK, nlf h, List.take_length]


end Go.Proofs.Yteebkimhfaodnaa

/- Engines and their steps: plain. -/
namespace Go.Proofs.Yteebkimhfaodnaa
open Go Go.RowKit

theorem runX_congr {a : Action} (ha : ActOk a) {f t f' t' : Int} (h1 : a.fr ∈ readsA a → f = f') (h2 : a.to ∈ readsA a → t = t') : runX a f t = runX a f' t' := by
  by_cases h : a.fr = a.to
  · by_cases hk : a.kind = 1
    · simp [runX, readsA, writesA, doneA, newV, hk]
    · have hr : readsA a = [a.fr] := by unfold readsA; rw [if_neg hk, if_pos (.inr (.inr h))]
      rw [h1 (by rw [hr]; simp), h2 (by rw [hr, ← h]; simp)]
  · rcases ha.kind with e | e | e | e | e | e
    · simp [runX, readsA, writesA, doneA, newV, e]
    · rw [h1 (by simp [readsA, e, h]), h2 (by simp [readsA, e, h])]
    · rw [h1 (by simp [readsA, e, h])]
      simp [runX, readsA, writesA, doneA, newV, e]
    · rw [h1 (by simp [readsA, e, h]), h2 (by simp [readsA, e, h])]
    · rw [h1 (by simp [readsA, e, h]), h2 (by simp [readsA, e, h])]
    · rw [h1 (by simp [readsA, e, h])]
      simp [runX, readsA, writesA, doneA, newV, e]

theorem readsA_nodup (a : Action) : (readsA a).Nodup := by
  unfold readsA
  split
  · simp
  · split
    · simp
    · rename_i h; simp only [not_or] at h; simp [h.2.2]
theorem readsA_bd {a : Action} (ha : ActOk a) {k : Int} (hk : k ∈ readsA a) : 0 ≤ k ∧ k ≤ 31 := by
  have h1 := ha.fr; have h2 := ha.to
  rcases mem_reads hk with e | e <;> rw [e] <;> assumption

theorem valK_put {v : List Int} (hv : v.length = 32) (w : Entry) (hw : 0 ≤ w.key ∧ w.key ≤ 31) (k : Int) (hk : 0 ≤ k) : valK (putV v w) k = if k = w.key then w.value else valK v k := by
  unfold valK putV
  rw [List.getD_eq_getElem?_getD, List.getElem?_set]
  by_cases c : k = w.key
  · subst c; rw [if_pos rfl, if_pos rfl, if_pos (by omega)]; rfl
  · rw [if_neg (by omega), if_neg c, ← List.getD_eq_getElem?_getD]

theorem valOf_cons (w : Entry) (r : List Entry) (k : Int) : valOf (w :: r) k = if k = w.key then some w.value else valOf r k := by
  unfold valOf
  rw [List.find?_cons]
  by_cases c : k = w.key
  · subst c; simp
  · rw [if_neg c, show (w.key == k) = false by simp; exact fun e => c e.symm]

theorem applyW_val : ∀ (ws : List Entry) {v : List Int}, v.length = 32 → (ws.map Entry.key).Nodup → (∀ w, w ∈ ws → 0 ≤ w.key ∧ w.key ≤ 31) → ∀ k, 0 ≤ k → valK (applyW v ws) k = (valOf ws k).getD (valK v k)
  | [], v, _, _, _, k, _ => rfl
  | w :: r, v, hv, hd, hb, k, hk => by
    rw [List.map_cons, List.nodup_cons] at hd
    have hw := hb w (List.mem_cons_self ..)
    show valK (applyW (putV v w) r) k = _
    rw [applyW_val r (by unfold putV; rw [List.length_set]; exact hv) hd.2 (fun x hx => hb x (List.mem_cons_of_mem _ hx)) k hk, valK_put hv w hw k hk, valOf_cons]
    by_cases c : k = w.key
    · rw [if_pos c, if_pos c, (valOf_none (ws := r) (key := k)).2 (fun e he h => hd.1 (List.mem_map.2 ⟨e, he, h.trans c⟩))]; rfl
    · rw [if_neg c, if_neg c]

def readsG (a : Action) (g : Int → Int) : List Entry := (readsA a).map fun k => ⟨k, g k⟩
theorem readsG_keys (a : Action) (g : Int → Int) : (readsG a g).map Entry.key = readsA a := by
  unfold readsG; rw [List.map_map]; exact List.map_id' _
theorem readsG_val {a : Action} (g : Int → Int) {k : Int} (hk : k ∈ readsA a) : valOf (readsG a g) k = some (g k) :=
  (valOf_some (by rw [readsG_keys]; exact readsA_nodup a)).2 (List.mem_map.2 ⟨k, hk, rfl⟩)
theorem readsG_bd {a : Action} (ha : ActOk a) (g : Int → Int) : ∀ w, w ∈ readsG a g → 0 ≤ w.key ∧ w.key ≤ 31 := by
  intro w hw
  obtain ⟨k, hk, rfl⟩ := List.mem_map.1 hw
  exact readsA_bd ha hk
theorem valK_readsG {a : Action} (ha : ActOk a) (g : Int → Int) {v : List Int} (hv : v.length = 32) {k : Int} (hk : k ∈ readsA a) : valK (applyW v (readsG a g)) k = g k := by
  rw [applyW_val _ hv (by rw [readsG_keys]; exact readsA_nodup a) (readsG_bd ha g) k (readsA_bd ha hk).1, readsG_val g hk]; rfl
/-- An action is run with what it reads. -/
theorem runE_reads {a : Action} (ha : ActOk a) (g : Int → Int) {v : List Int} (hv : v.length = 32) : runE a (applyW v (readsG a g)) = runX a (g a.fr) (g a.to) := by
  rw [runE_eq]
  exact runX_congr ha (fun h => valK_readsG ha g hv h) (fun h => valK_readsG ha g hv h)
theorem runX_reads (a : Action) (g : Int → Int) : (runX a (g a.fr) (g a.to)).reads = readsG a g := by
  unfold runX readsG
  dsimp only
  apply List.map_congr_left
  intro k hk
  by_cases c : k = a.fr
  · rw [if_pos c, c]
  · rw [if_neg c]
    rcases mem_reads hk with e | e
    · exact absurd e c
    · rw [e]
theorem reads_map {a : Action} {rs : List Entry} (h : rs.map Entry.key = readsA a) : rs = readsG a fun k => (valOf rs k).getD 0 := by
  have hd : (rs.map Entry.key).Nodup := by rw [h]; exact readsA_nodup a
  unfold readsG
  rw [← h, List.map_map]
  conv => lhs; rw [← List.map_id rs]
  apply List.map_congr_left
  intro e he
  have : valOf rs e.key = some e.value := (valOf_some hd).2 he
  show e = (⟨e.key, (valOf rs e.key).getD 0⟩ : Entry)
  rw [this]; rfl

/-- What an action reads now. -/
def seenB (e : Engine) (n k : Int) : Int × Int := readF k n e.versions (valAt e.base k, -1)
def nowR (e : Engine) (n : Int) (a : Action) : List Entry := readsG a fun k => (seenB e n k).1
def tryW (e : Engine) (n : Int) (a : Action) : List Int := (readsA a).map fun k => (seenB e n k).2
def tryE (e : Engine) (n : Int) (a : Action) : Effect := runX a (seenB e n a.fr).1 (seenB e n a.to).1
def nowV (e : Engine) (n : Int) (a : Action) : List Int := applyW (valuesL e.base) (nowR e n a)
def currentE (e : Engine) (n : Int) (a : Action) (s : Slot) : Bool := s.res.reads == nowR e n a && s.fr == tryW e n a
def slotV (s : Slot) : List Int := applyW zeros32 s.res.reads
def readsOk (n : Int) (a : Action) (s : Slot) : Bool :=
  decide (s.res.reads.map Entry.key = readsA a) && s.res.reads.all (fun x => inB x.value 0 1000000) && decide (s.fr.length = (readsA a).length) && s.fr.all (fun w => inB w (-1) (n - 1))
/-- Whether the slot of an action can come to be. -/
def slotOk (n : Int) (a : Action) (s : Slot) : Bool :=
  if s.stage = 0 then inB s.tries 0 1000 && decide (s.fr = []) && decide (s.res = ⟨false, [], []⟩)
  else inB s.stage 1 2 && inB s.tries 1 1000 && readsOk n a s && decide (runE a (slotV s) = s.res)
def slotAt (e : Engine) (n : Nat) : Slot := e.slots.getD n slot0
def actAt (e : Engine) (n : Nat) : Action := e.list.getD n ⟨0, 0, 0, 0⟩

structure EngOk (e : Engine) : Prop where
  base : storeValid e.base = true
  list : actionsValid e.list = true
  len : e.slots.length = e.list.length
  slot : ∀ n : Nat, n < e.slots.length → slotOk n (actAt e n) (slotAt e n) = true
  vers : e.versions = allTo e.slots e.slots.length
  chk : ∀ n : Nat, n < e.slots.length → (slotAt e n).stage = 2 → (n = 0 ∨ (slotAt e (n - 1)).stage = 2) ∧ currentE e n (actAt e n) (slotAt e n) = true

theorem EngOk.len10 {e : Engine} (h : EngOk e) : e.slots.length ≤ 10 := by rw [h.len]; exact (actionsValid_ok h.list).2
theorem EngOk.act {e : Engine} (h : EngOk e) {n : Nat} (hn : n < e.slots.length) : ActOk (actAt e n) := by
  rw [h.len] at hn
  unfold actAt
  rw [List.getD_eq_getElem?_getD, List.getElem?_eq_getElem hn]
  exact (actionsValid_ok h.list).1 _ (List.getElem_mem hn)

theorem readsOk_writes {n : Int} {a : Action} {s : Slot} (ha : ActOk a) (h : readsOk n a s = true) : WritesOk s.res.reads := by
  unfold readsOk at h
  simp only [Bool.and_eq_true, decide_eq_true_eq, List.all_eq_true] at h
  intro w hw
  exact ⟨readsA_bd ha (by rw [← h.1.1.1]; exact List.mem_map.2 ⟨w, hw, rfl⟩), inB_iff.1 (h.1.1.2 w hw)⟩
theorem zeros32_ok : ValsOk zeros32 := ⟨by decide, fun k => by
  by_cases h : k < 32
  · have : ∀ k : Fin 32, 0 ≤ zeros32.getD k.val 0 ∧ zeros32.getD k.val 0 ≤ 1000000 := by decide
    exact this ⟨k, h⟩
  · rw [List.getD_eq_getElem?_getD, List.getElem?_eq_none (by show zeros32.length ≤ k; have : zeros32.length = 32 := by decide
                                                              omega)]; decide⟩
theorem slotV_ok {n : Int} {a : Action} {s : Slot} (ha : ActOk a) (h : readsOk n a s = true) : ValsOk (slotV s) := applyW_ok _ _ zeros32_ok (readsOk_writes ha h)
theorem slotOk_ent {n : Int} {a : Action} {s : Slot} (ha : ActOk a) (h : slotOk n a s = true) : entOk 0 (-1) s.res.writes = true := by
  unfold slotOk at h
  split at h
  · simp only [Bool.and_eq_true, decide_eq_true_eq] at h
    rw [h.2]; rfl
  · simp only [Bool.and_eq_true, decide_eq_true_eq] at h
    rw [← h.2]
    exact runE_ent ha (slotV_ok ha h.1.2)
theorem slotAt_ge {e : Engine} {n : Nat} (h : e.slots.length ≤ n) : slotAt e n = slot0 := by
  unfold slotAt; rw [List.getD_eq_getElem?_getD, List.getElem?_eq_none h]; rfl
theorem slotAt_lt {e : Engine} {n : Nat} (h : n < e.slots.length) : slotAt e n = e.slots[n] := by
  unfold slotAt; rw [List.getD_eq_getElem?_getD, List.getElem?_eq_getElem h]; rfl
theorem EngOk.w {e : Engine} (h : EngOk e) : WOk e.slots := by
  intro k
  by_cases c : k < e.slots.length
  · exact slotOk_ent (h.act c) (h.slot k c)
  · show entOk 0 (-1) (slotAt e k).res.writes = true
    rw [slotAt_ge (by omega)]; rfl
theorem seenB_eq {e : Engine} (hw : WOk e.slots) (hv : e.versions = allTo e.slots e.slots.length) {n : Nat} (hn : n ≤ e.slots.length) (k : Int) : seenB e n k = seenTo (valAt e.base k) e.slots k n := by
  unfold seenB; rw [hv]; exact read_all _ hw k hn
theorem EngOk.seen {e : Engine} (h : EngOk e) {n : Nat} (hn : n ≤ e.slots.length) (k : Int) : seenB e n k = seenTo (valAt e.base k) e.slots k n := seenB_eq h.w h.vers hn k
theorem EngOk.seen_bd {e : Engine} (h : EngOk e) {n : Nat} (hn : n ≤ e.slots.length) (k : Int) : (0 ≤ (seenB e n k).1 ∧ (seenB e n k).1 ≤ 1000000) ∧ -1 ≤ (seenB e n k).2 ∧ (seenB e n k).2 ≤ (n : Int) - 1 := by
  rw [h.seen hn k]
  rcases seenTo_spec (valAt e.base k) h.w k n with ⟨g1, _⟩ | ⟨j, x, g1, g2, g3, _⟩
  · rw [g1]; exact ⟨storeAt_bd h.base k, by dsimp only; omega⟩
  · rw [g2]
    have := writesOk_ent (h.w j) _ g3
    exact ⟨this.2, by dsimp only; omega⟩

/-- A slot and the versions are exchanged. -/
def setE (e : Engine) (n : Nat) (s : Slot) (vs : List Version) : Engine := ⟨e.base, e.list, vs, e.slots.set n s⟩
theorem slotAt_set {e : Engine} {n : Nat} (hn : n < e.slots.length) (s : Slot) (vs : List Version) (k : Nat) : slotAt (setE e n s vs) k = if k = n then s else slotAt e k := getD_set_slot _ _ _ _ hn
theorem actAt_set (e : Engine) (n : Nat) (s : Slot) (vs : List Version) (k : Nat) : actAt (setE e n s vs) k = actAt e k := rfl
theorem setE_len (e : Engine) (n : Nat) (s : Slot) (vs : List Version) : (setE e n s vs).slots.length = e.slots.length := List.length_set ..

theorem EngOk.before {e : Engine} (h : EngOk e) : ∀ {k : Nat}, k < e.slots.length → (slotAt e k).stage = 2 → ∀ j, j ≤ k → (slotAt e j).stage = 2
  | 0, _, h2, j, hj => by rw [show j = 0 by omega]; exact h2
  | k + 1, hk, h2, j, hj => by
    by_cases c : j = k + 1
    · rw [c]; exact h2
    · rcases (h.chk (k + 1) hk h2).1 with g | g
      · omega
      · exact h.before (k := k) (by omega) g j (by omega)

theorem seen_set {e : Engine} (h : EngOk e) {n k : Nat} (hn : n < e.slots.length) (hk : k ≤ n) {s : Slot} {vs : List Version} (hs : entOk 0 (-1) s.res.writes = true) (hv : vs = allTo (e.slots.set n s) e.slots.length) (key : Int) : seenB (setE e n s vs) k key = seenB e k key := by
  rw [h.seen (by omega) key, seenB_eq (e := setE e n s vs) (h.w.set hn hs) (by rw [setE_len]; exact hv) (by rw [setE_len]; omega) key]
  exact seenTo_set _ _ _ _ hk hn
theorem now_set {e : Engine} (h : EngOk e) {n k : Nat} (hn : n < e.slots.length) (hk : k ≤ n) {s : Slot} {vs : List Version} (hs : entOk 0 (-1) s.res.writes = true) (hv : vs = allTo (e.slots.set n s) e.slots.length) (a : Action) (t : Slot) : currentE (setE e n s vs) k a t = currentE e k a t := by
  unfold currentE nowR tryW
  simp only [seen_set h hn hk hs hv]

theorem EngOk.set {e : Engine} (h : EngOk e) {n : Nat} (hn : n < e.slots.length) (hst : (slotAt e n).stage ≠ 2) {s : Slot} {vs : List Version} (hs : slotOk n (actAt e n) s = true)
    (hv : vs = allTo (e.slots.set n s) e.slots.length) (hc : s.stage = 2 → (n = 0 ∨ (slotAt e (n - 1)).stage = 2) ∧ currentE e n (actAt e n) s = true) : EngOk (setE e n s vs) := by
  have hsw := slotOk_ent (h.act hn) hs
  refine ⟨h.base, h.list, by rw [setE_len]; exact h.len, fun k hk => ?_, by rw [setE_len]; exact hv, fun k hk h2 => ?_⟩
  · rw [setE_len] at hk
    rw [slotAt_set hn, actAt_set]
    split
    · rename_i c; rw [c]; exact hs
    · exact h.slot k hk
  · rw [setE_len] at hk
    rw [slotAt_set hn] at h2 ⊢
    rw [actAt_set, slotAt_set hn]
    split at h2
    · rename_i c
      subst c
      rw [if_pos rfl, now_set h hn (Nat.le_refl _) hsw hv]
      refine ⟨?_, (hc h2).2⟩
      rcases (hc h2).1 with g | g
      · exact .inl g
      · by_cases c0 : k = 0
        · exact .inl c0
        · rw [if_neg (by omega)]; exact .inr g
    · rename_i c
      have hkn : k < n := by
        rcases Nat.lt_or_ge k n with g | g
        · exact g
        · exact absurd (h.before hk h2 n g) hst
      rw [if_neg c, now_set h hn (by omega) hsw hv, if_neg (by omega)]
      exact h.chk k hk h2

/-- A step with an action. -/
def stepN (e : Engine) (n : Nat) : Engine × Bool :=
  if (slotAt e n).stage = 0 then
    if (slotAt e n).tries = 1000 then (e, false) else (setE e n ⟨1, (slotAt e n).tries + 1, tryW e n (actAt e n), tryE e n (actAt e n)⟩ (putVs e.versions n (tryE e n (actAt e n)).writes), true)
  else if (slotAt e n).stage = 1 then
    if 0 < n ∧ (slotAt e (n - 1)).stage ≠ 2 then (e, false)
    else if currentE e n (actAt e n) (slotAt e n) then (setE e n ⟨2, (slotAt e n).tries, (slotAt e n).fr, (slotAt e n).res⟩ e.versions, true)
    else (setE e n ⟨0, (slotAt e n).tries, [], ⟨false, [], []⟩⟩ (dropV n e.versions), true)
  else (e, false)
def stepE (e : Engine) (n : Int) : Engine × Bool := if 0 ≤ n ∧ n < e.slots.length then stepN e n.toNat else (e, false)

theorem nowR_tryE (e : Engine) (n : Int) (a : Action) : (tryE e n a).reads = nowR e n a := runX_reads a fun k => (seenB e n k).1

theorem try_ok {e : Engine} (h : EngOk e) {n : Nat} (hn : n < e.slots.length) {t : Int} (ht : 1 ≤ t ∧ t ≤ 1000) : slotOk n (actAt e n) ⟨1, t, tryW e n (actAt e n), tryE e n (actAt e n)⟩ = true := by
  have ha := h.act hn
  unfold slotOk
  rw [if_neg (by dsimp only; decide)]
  have hr : readsOk n (actAt e n) ⟨1, t, tryW e n (actAt e n), tryE e n (actAt e n)⟩ = true := by
    unfold readsOk
    simp only [Bool.and_eq_true, decide_eq_true_eq, List.all_eq_true]
    rw [nowR_tryE]
    refine ⟨⟨⟨readsG_keys _ _, fun x hx => ?_⟩, by unfold tryW; rw [List.length_map]⟩, fun w hw => ?_⟩
    · obtain ⟨k, _, rfl⟩ := List.mem_map.1 hx
      exact inB_iff.2 (h.seen_bd (by omega) k).1
    · obtain ⟨k, _, rfl⟩ := List.mem_map.1 hw
      exact inB_iff.2 (h.seen_bd (by omega) k).2
  have hv : runE (actAt e n) (slotV ⟨1, t, tryW e n (actAt e n), tryE e n (actAt e n)⟩) = tryE e n (actAt e n) := by
    unfold slotV
    rw [nowR_tryE]
    exact runE_reads ha _ zeros32_ok.1
  rw [hr, hv]
  simp only [Bool.and_true, decide_true, Bool.and_eq_true]
  exact ⟨by decide, inB_iff.2 ht⟩

theorem slotOk_zero {n : Int} {a : Action} {s : Slot} (h : slotOk n a s = true) (h0 : s.stage = 0) : (0 ≤ s.tries ∧ s.tries ≤ 1000) ∧ s.fr = [] ∧ s.res = ⟨false, [], []⟩ := by
  unfold slotOk at h
  rw [if_pos h0] at h
  simp only [Bool.and_eq_true, decide_eq_true_eq] at h
  exact ⟨inB_iff.1 h.1.1, h.1.2, h.2⟩
theorem slotOk_one {n : Int} {a : Action} {s : Slot} (h : slotOk n a s = true) (h0 : s.stage ≠ 0) : (1 ≤ s.stage ∧ s.stage ≤ 2) ∧ (1 ≤ s.tries ∧ s.tries ≤ 1000) ∧ readsOk n a s = true ∧ runE a (slotV s) = s.res := by
  unfold slotOk at h
  rw [if_neg h0] at h
  simp only [Bool.and_eq_true, decide_eq_true_eq] at h
  exact ⟨inB_iff.1 h.1.1.1, inB_iff.1 h.1.1.2, h.1.2, h.2⟩
theorem EngOk.stage {e : Engine} (h : EngOk e) (n : Nat) : (slotAt e n).stage = 0 ∨ (slotAt e n).stage = 1 ∨ (slotAt e n).stage = 2 := by
  by_cases hn : n < e.slots.length
  · by_cases c : (slotAt e n).stage = 0
    · exact .inl c
    · have := (slotOk_one (h.slot n hn) c).1; omega
  · rw [slotAt_ge (by omega)]; exact .inl rfl
theorem EngOk.tries {e : Engine} (h : EngOk e) (n : Nat) : 0 ≤ (slotAt e n).tries ∧ (slotAt e n).tries ≤ 1000 := by
  by_cases hn : n < e.slots.length
  · by_cases c : (slotAt e n).stage = 0
    · exact (slotOk_zero (h.slot n hn) c).1
    · have := (slotOk_one (h.slot n hn) c).2.1; omega
  · rw [slotAt_ge (by omega)]; decide

/-- Engines stay valid. -/
theorem stepN_ok {e : Engine} (h : EngOk e) {n : Nat} (hn : n < e.slots.length) : EngOk (stepN e n).1 := by
  unfold stepN
  have ht := h.tries n
  split
  · rename_i h0
    split
    · exact h
    · rename_i h1
      have ho := try_ok h hn (t := (slotAt e n).tries + 1) (by omega)
      refine h.set hn (by omega) ho ?_ (fun h2 => by dsimp only at h2; omega)
      rw [h.vers]
      exact allTo_set h.w hn (Nat.le_refl _) (slotOk_ent (h.act hn) ho)
  · rename_i h0
    split
    · rename_i h1
      split
      · exact h
      · rename_i h2
        split
        · rename_i h3
          have ho := h.slot n hn
          have h4 := slotOk_one ho h0
          have hs : slotOk n (actAt e n) ⟨2, (slotAt e n).tries, (slotAt e n).fr, (slotAt e n).res⟩ = true := by
            unfold slotOk
            rw [if_neg (by dsimp only; decide)]
            simp only [Bool.and_eq_true, decide_eq_true_eq]
            exact ⟨⟨⟨by decide, inB_iff.2 h4.2.1⟩, h4.2.2.1⟩, h4.2.2.2⟩
          refine h.set hn (by omega) hs ?_ (fun _ => ⟨?_, h3⟩)
          · have := allTo_set h.w hn (Nat.le_refl _) (s := ⟨2, (slotAt e n).tries, (slotAt e n).fr, (slotAt e n).res⟩) (h.w n)
            rw [← this, h.vers]
            have h5 := allTo_set h.w hn (Nat.le_refl _) (s := slotAt e n) (h.w n)
            have h6 : e.slots.set n (slotAt e n) = e.slots := by rw [slotAt_lt hn]; exact List.set_getElem_self hn
            rw [h6] at h5
            exact h5.symm
          · by_cases c : n = 0
            · exact .inl c
            · refine .inr (Classical.byContradiction fun g => h2 ⟨by omega, g⟩)
        · have hs : slotOk n (actAt e n) ⟨0, (slotAt e n).tries, [], ⟨false, [], []⟩⟩ = true := by
            unfold slotOk
            rw [if_pos rfl]
            simp only [Bool.and_eq_true, decide_eq_true_eq]
            exact ⟨⟨inB_iff.2 ht, trivial⟩, trivial⟩
          refine h.set hn (by omega) hs ?_ (fun h2 => by dsimp only at h2; omega)
          rw [h.vers]
          exact allTo_drop h.w hn (Nat.le_refl _) rfl
    · exact h
theorem stepE_ok {e : Engine} (h : EngOk e) (n : Int) : EngOk (stepE e n).1 := by
  unfold stepE
  split
  · exact stepN_ok h (by omega)
  · exact h
theorem stepN_len (e : Engine) (n : Nat) : (stepN e n).1.slots.length = e.slots.length ∧ (stepN e n).1.list = e.list ∧ (stepN e n).1.base = e.base := by
  unfold stepN
  split
  · split
    · exact ⟨rfl, rfl, rfl⟩
    · exact ⟨setE_len .., rfl, rfl⟩
  · split
    · split
      · exact ⟨rfl, rfl, rfl⟩
      · split
        · exact ⟨setE_len .., rfl, rfl⟩
        · exact ⟨setE_len .., rfl, rfl⟩
    · exact ⟨rfl, rfl, rfl⟩
theorem stepE_len (e : Engine) (n : Int) : (stepE e n).1.slots.length = e.slots.length ∧ (stepE e n).1.list = e.list ∧ (stepE e n).1.base = e.base := by
  unfold stepE
  split
  · exact stepN_len _ _
  · exact ⟨rfl, rfl, rfl⟩
/-- Only the action itself changes. -/
theorem stepN_other {e : Engine} {n : Nat} (hn : n < e.slots.length) {k : Nat} (hk : k ≠ n) : slotAt (stepN e n).1 k = slotAt e k := by
  unfold stepN
  split
  · split
    · rfl
    · rw [slotAt_set hn, if_neg hk]
  · split
    · split
      · rfl
      · split
        · rw [slotAt_set hn, if_neg hk]
        · rw [slotAt_set hn, if_neg hk]
    · rfl
end Go.Proofs.Yteebkimhfaodnaa

/- Engines come to an end: plain. -/
namespace Go.Proofs.Yteebkimhfaodnaa
open Go Go.RowKit

def rem (e : Engine) (n : Nat) : Nat := if (slotAt e n).stage = 2 then 0 else if (slotAt e n).stage = 1 then (if currentE e n (actAt e n) (slotAt e n) then 1 else 3) else 2
theorem rem_le (e : Engine) (n : Nat) : rem e n ≤ 3 := by
  unfold rem
  split
  · omega
  · split
    · split <;> omega
    · omega

theorem fin_one {e : Engine} (h : EngOk e) {n : Nat} (hn : n < e.slots.length) (hb : n = 0 ∨ (slotAt e (n - 1)).stage = 2) (h2 : (slotAt e n).stage ≠ 2) {b : Int} (b9 : b ≤ 999) (h3 : 2 ≤ rem e n → (slotAt e n).tries ≤ b) (h4 : (slotAt e n).tries ≤ b + 1) :
    (stepN e n).2 = true ∧ rem (stepN e n).1 n + 1 = rem e n ∧ (2 ≤ rem (stepN e n).1 n → (slotAt (stepN e n).1 n).tries ≤ b) ∧ (slotAt (stepN e n).1 n).tries ≤ b + 1 := by
  have hst := h.stage n
  unfold rem at h3
  unfold stepN
  by_cases h0 : (slotAt e n).stage = 0
  · have ht : (slotAt e n).tries ≤ b := h3 (by rw [if_neg h2, if_neg (by omega)]; omega)
    have htl := h.tries n
    rw [if_pos h0, if_neg (by omega)]
    have ho := try_ok h hn (t := (slotAt e n).tries + 1) (by omega)
    have hc : currentE (setE e n ⟨1, (slotAt e n).tries + 1, tryW e n (actAt e n), tryE e n (actAt e n)⟩ (putVs e.versions n (tryE e n (actAt e n)).writes)) n (actAt e n) ⟨1, (slotAt e n).tries + 1, tryW e n (actAt e n), tryE e n (actAt e n)⟩ = true := by
      rw [now_set h hn (Nat.le_refl _) (slotOk_ent (h.act hn) ho) (by rw [h.vers]; exact allTo_set h.w hn (Nat.le_refl _) (slotOk_ent (h.act hn) ho))]
      unfold currentE
      rw [nowR_tryE]
      simp
    refine ⟨rfl, ?_, ?_, ?_⟩
    · unfold rem
      dsimp only
      rw [slotAt_set hn, if_pos rfl, actAt_set, if_neg (by dsimp only; decide), if_pos rfl, if_pos hc, if_neg h2, if_neg (by omega)]
    · unfold rem
      dsimp only
      rw [slotAt_set hn, if_pos rfl, actAt_set, if_neg (by dsimp only; decide), if_pos rfl, if_pos hc]
      intro g; omega
    · dsimp only
      rw [slotAt_set hn, if_pos rfl]
      dsimp only; omega
  · have h1 : (slotAt e n).stage = 1 := by omega
    rw [if_neg h0, if_pos h1, if_neg (fun g => by rcases hb with g1 | g1; omega; exact g.2 g1)]
    by_cases hc : currentE e n (actAt e n) (slotAt e n) = true
    · rw [if_pos hc]
      refine ⟨rfl, ?_, ?_, ?_⟩
      · unfold rem
        dsimp only
        rw [slotAt_set hn, if_pos rfl, if_pos rfl, if_neg h2, if_pos h1, if_pos hc]
      · unfold rem
        dsimp only
        rw [slotAt_set hn, if_pos rfl, if_pos rfl]
        intro g; omega
      · dsimp only
        rw [slotAt_set hn, if_pos rfl]
        exact h4
    · have ht : (slotAt e n).tries ≤ b := h3 (by rw [if_neg h2, if_pos h1, if_neg hc]; omega)
      rw [if_neg hc]
      refine ⟨rfl, ?_, ?_, ?_⟩
      · unfold rem
        dsimp only
        rw [slotAt_set hn, if_pos rfl, if_neg (by dsimp only; decide), if_neg (by dsimp only; decide), if_neg h2, if_pos h1, if_neg hc]
      · intro _
        dsimp only
        rw [slotAt_set hn, if_pos rfl]
        exact ht
      · dsimp only
        rw [slotAt_set hn, if_pos rfl]
        exact h4

/-- Steps with the first action that is not checked. -/
structure FinSt (b : Int) (e0 : Engine) (k : Nat) (e : Engine) (m : Int) : Prop where
  ok : EngOk e
  kle : k ≤ e.slots.length
  pre : ∀ j, j < k → (slotAt e j).stage = 2
  hi : ∀ j, k < j → j < e.slots.length → (slotAt e j).tries ≤ b
  cur : k < e.slots.length → 2 ≤ rem e k → (slotAt e k).tries ≤ b
  top : ∀ j, j < e.slots.length → (slotAt e j).tries ≤ b + 1
  cnt : 0 ≤ m ∧ m + (if k < e.slots.length then (rem e k : Int) else 3) ≤ 3 * k + 3
  len : e.slots.length = e0.slots.length
  list : e.list = e0.list
  base : e.base = e0.base

theorem FinSt.next {b : Int} {e0 e : Engine} {k : Nat} {m : Int} (h : FinSt b e0 k e m) (hk : k < e.slots.length) (h2 : (slotAt e k).stage = 2) : FinSt b e0 (k + 1) e m := by
  refine ⟨h.ok, hk, fun j hj => ?_, fun j hj => h.hi j (by omega), fun g _ => h.hi (k + 1) (by omega) g, h.top, ?_, h.len, h.list, h.base⟩
  · by_cases c : j = k
    · rw [c]; exact h2
    · exact h.pre j (by omega)
  · have hc := h.cnt
    rw [if_pos hk] at hc
    have hr : rem e k = 0 := by unfold rem; rw [if_pos h2]
    have hr1 := rem_le e (k + 1)
    split <;> omega
theorem FinSt.before {b : Int} {e0 e : Engine} {k : Nat} {m : Int} (h : FinSt b e0 k e m) : k = 0 ∨ (slotAt e (k - 1)).stage = 2 := by
  by_cases c : k = 0
  · exact .inl c
  · exact .inr (h.pre _ (by omega))
theorem FinSt.one {b : Int} (b9 : b ≤ 999) {e0 e : Engine} {k : Nat} {m : Int} (h : FinSt b e0 k e m) (hk : k < e.slots.length) (h2 : (slotAt e k).stage ≠ 2) : FinSt b e0 k (stepN e k).1 (m + 1) := by
  obtain ⟨_, g2, g3, g4⟩ := fin_one h.ok hk h.before h2 b9 (h.cur hk) (h.top k hk)
  obtain ⟨l1, l2, l3⟩ := stepN_len e k
  refine ⟨stepN_ok h.ok hk, by omega, fun j hj => ?_, fun j hj hl => ?_, fun _ => g3, fun j hl => ?_, ?_, l1.trans h.len, l2.trans h.list, l3.trans h.base⟩
  · rw [stepN_other hk (by omega)]; exact h.pre j hj
  · rw [stepN_other hk (by omega)]; exact h.hi j hj (by omega)
  · by_cases c : j = k
    · rw [c]; exact g4
    · rw [stepN_other hk c]; exact h.top j (by omega)
  · have hc := h.cnt
    rw [if_pos hk] at hc
    rw [if_pos (by omega)]
    omega

def mu (k : Nat) (e : Engine) : Nat := if k < e.slots.length then 4 * (e.slots.length - k) + rem e k else 0
theorem mu_next {k : Nat} {e : Engine} (hk : k < e.slots.length) : mu (k + 1) e < mu k e := by
  unfold mu
  rw [if_pos hk]
  have := rem_le e (k + 1)
  split <;> omega
theorem mu_one {b : Int} (b9 : b ≤ 999) {e0 e : Engine} {k : Nat} {m : Int} (h : FinSt b e0 k e m) (hk : k < e.slots.length) (h2 : (slotAt e k).stage ≠ 2) : mu k (stepN e k).1 < mu k e := by
  have g2 := (fin_one h.ok hk h.before h2 b9 (h.cur hk) (h.top k hk)).2.1
  unfold mu
  rw [(stepN_len e k).1, if_pos hk, if_pos hk]
  omega

/-- The loop of the finish. -/
def loopF : Nat → Nat × Engine × Int → Nat × Engine × Int
  | 0, p => p
  | f + 1, p => if p.1 < p.2.1.slots.length then (if (slotAt p.2.1 p.1).stage = 2 then loopF f (p.1 + 1, p.2.1, p.2.2) else loopF f (p.1, (stepN p.2.1 p.1).1, p.2.2 + 1)) else p
/-- An engine that is finished, and how many steps. -/
def finE (e : Engine) : Engine × Int := (loopF 60 (0, e, 0)).2

theorem loopF_next {f k : Nat} {e : Engine} {m : Int} (hk : k < e.slots.length) (h2 : (slotAt e k).stage = 2) : loopF (f + 1) (k, e, m) = loopF f (k + 1, e, m) := by
  show (if k < e.slots.length then _ else _) = _
  rw [if_pos hk, if_pos h2]
theorem loopF_one {f k : Nat} {e : Engine} {m : Int} (hk : k < e.slots.length) (h2 : (slotAt e k).stage ≠ 2) : loopF (f + 1) (k, e, m) = loopF f (k, (stepN e k).1, m + 1) := by
  show (if k < e.slots.length then _ else _) = _
  rw [if_pos hk, if_neg h2]
theorem loopF_end {f k : Nat} {e : Engine} {m : Int} (hk : ¬ k < e.slots.length) : loopF (f + 1) (k, e, m) = (k, e, m) := by
  show (if k < e.slots.length then _ else _) = _
  rw [if_neg hk]

theorem loopF_fin {b : Int} (b9 : b ≤ 999) {e0 : Engine} : ∀ (f k : Nat) (e : Engine) (m : Int), FinSt b e0 k e m → mu k e < f → FinSt b e0 e0.slots.length (loopF f (k, e, m)).2.1 (loopF f (k, e, m)).2.2
  | 0, k, e, m, _, hf => by omega
  | f + 1, k, e, m, h, hf => by
    by_cases hk : k < e.slots.length
    · by_cases h2 : (slotAt e k).stage = 2
      · rw [loopF_next hk h2]
        exact loopF_fin b9 f _ _ _ (h.next hk h2) (by have := mu_next hk; omega)
      · rw [loopF_one hk h2]
        exact loopF_fin b9 f _ _ _ (h.one b9 hk h2) (by have := mu_one b9 h hk h2; omega)
    · rw [loopF_end hk]
      have : k = e0.slots.length := by have := h.kle; have := h.len; omega
      rw [← this]
      exact h

theorem FinSt.start {b : Int} {e : Engine} (h : EngOk e) (hb : ∀ j, j < e.slots.length → (slotAt e j).tries ≤ b) : FinSt b e 0 e 0 := by
  refine ⟨h, by omega, fun j hj => by omega, fun j _ hl => hb j hl, fun hk _ => hb 0 hk, fun j hl => by have := hb j hl; omega, ⟨by omega, ?_⟩, rfl, rfl, rfl⟩
  have := rem_le e 0
  split <;> omega
theorem mu_start {e : Engine} (h : EngOk e) : mu 0 e < 60 := by
  have := h.len10
  have := rem_le e 0
  unfold mu
  split <;> omega
theorem finE_fin {b : Int} (b9 : b ≤ 999) {e : Engine} (h : EngOk e) (hb : ∀ j, j < e.slots.length → (slotAt e j).tries ≤ b) : FinSt b e e.slots.length (finE e).1 (finE e).2 :=
  loopF_fin b9 60 0 e 0 (FinSt.start h hb) (mu_start h)
/-- Steps of a script. -/
def runStep (p : Engine × Int) (n : Int) : Engine × Int := ((stepE p.1 n).1, p.2 + if (stepE p.1 n).2 then 1 else 0)
def runS (e : Engine) (l : List Int) : Engine × Int := l.foldl runStep (e, 0)
theorem runS_ok : ∀ (l : List Int) {p : Engine × Int}, EngOk p.1 → EngOk (l.foldl runStep p).1
  | [], _, h => h
  | n :: r, p, h => runS_ok r (p := runStep p n) (stepE_ok h n)
theorem runS_from : ∀ (l : List Int) (e : Engine) (m : Int), l.foldl runStep (e, m) = ((runS e l).1, m + (runS e l).2)
  | [], e, m => by show (e, m) = (e, m + 0); rw [Int.add_zero]
  | n :: r, e, m => by
    unfold runS
    show r.foldl runStep ((stepE e n).1, m + if (stepE e n).2 then 1 else 0) = ((r.foldl runStep ((stepE e n).1, 0 + if (stepE e n).2 then 1 else 0)).1, m + (r.foldl runStep ((stepE e n).1, 0 + if (stepE e n).2 then 1 else 0)).2)
    rw [runS_from r, runS_from r]
    congr 1
    dsimp only
    omega
theorem runS_append (e : Engine) (a b : List Int) : runS e (a ++ b) = ((runS (runS e a).1 b).1, (runS e a).2 + (runS (runS e a).1 b).2) := by
  show (a ++ b).foldl runStep (e, 0) = _
  rw [List.foldl_append]
  show b.foldl runStep (runS e a) = _
  rw [show runS e a = ((runS e a).1, (runS e a).2) from rfl, runS_from]
theorem runS_take (e : Engine) (l : List Int) (i : Nat) (h : i < l.length) : runS e (l.take (i + 1)) = runStep (runS e (l.take i)) l[i] := by
  unfold runS
  rw [take_snoc _ _ h, List.foldl_append]
  rfl
theorem runS_cnt : ∀ (l : List Int) (e : Engine), 0 ≤ (runS e l).2 ∧ (runS e l).2 ≤ l.length
  | [], e => ⟨Int.le_refl _, Int.le_refl _⟩
  | n :: r, e => by
    have := runS_cnt r (stepE e n).1
    have h2 : runS e (n :: r) = r.foldl runStep ((stepE e n).1, 0 + if (stepE e n).2 then 1 else 0) := rfl
    rw [h2, runS_from]
    simp only [List.length_cons]
    split <;> omega
theorem runS_len : ∀ (l : List Int) (p : Engine × Int), (l.foldl runStep p).1.slots.length = p.1.slots.length ∧ (l.foldl runStep p).1.list = p.1.list ∧ (l.foldl runStep p).1.base = p.1.base
  | [], _ => ⟨rfl, rfl, rfl⟩
  | n :: r, p => by
    obtain ⟨a, b, c⟩ := runS_len r (runStep p n)
    obtain ⟨a', b', c'⟩ := stepE_len p.1 n
    exact ⟨a.trans a', b.trans b', c.trans c'⟩

/-- How often all actions were tried. -/
def triesE (e : Engine) : Int := (e.slots.map Slot.tries).sum
theorem sum_le {c : Int} : ∀ {l : List Slot}, (∀ s, s ∈ l → s.tries ≤ c) → (l.map Slot.tries).sum ≤ c * l.length
  | [], _ => by simp
  | s :: r, h => by
    have h1 := h s (List.mem_cons_self ..)
    have h2 := sum_le fun x hx => h x (List.mem_cons_of_mem _ hx)
    simp only [List.map_cons, List.sum_cons, List.length_cons]
    rw [show c * ((r.length + 1 : Nat) : Int) = c * r.length + c by rw [Int.natCast_add, Int.mul_add]; simp]
    omega
theorem sum_ge {c : Int} : ∀ {l : List Slot}, (∀ s, s ∈ l → c ≤ s.tries) → c * l.length ≤ (l.map Slot.tries).sum
  | [], _ => by simp
  | s :: r, h => by
    have h1 := h s (List.mem_cons_self ..)
    have h2 := sum_ge fun x hx => h x (List.mem_cons_of_mem _ hx)
    simp only [List.map_cons, List.sum_cons, List.length_cons]
    rw [show c * ((r.length + 1 : Nat) : Int) = c * r.length + c by rw [Int.natCast_add, Int.mul_add]; simp]
    omega
theorem EngOk.mem {e : Engine} (h : EngOk e) {s : Slot} (hs : s ∈ e.slots) : ∃ n : Nat, n < e.slots.length ∧ slotAt e n = s := by
  obtain ⟨n, hn, rfl⟩ := List.getElem_of_mem hs
  exact ⟨n, hn, slotAt_lt hn⟩
theorem triesE_bd {e : Engine} (h : EngOk e) : 0 ≤ triesE e ∧ triesE e ≤ 10000 := by
  have h1 := sum_le (c := 1000) (l := e.slots) fun s hs => by obtain ⟨n, _, rfl⟩ := h.mem hs; exact (h.tries n).2
  have h2 := sum_ge (c := 0) (l := e.slots) fun s hs => by obtain ⟨n, _, rfl⟩ := h.mem hs; exact (h.tries n).1
  have := h.len10
  unfold triesE
  omega
/-- Actions that are not new. -/
def manyE (l : List Slot) : Nat := (l.filter fun s => s.stage != 0).length
theorem many_le : ∀ {l : List Slot}, (∀ s, s ∈ l → 0 ≤ s.tries ∧ (s.stage ≠ 0 → 1 ≤ s.tries)) → (manyE l : Int) ≤ (l.map Slot.tries).sum
  | [], _ => by simp [manyE]
  | s :: r, h => by
    have h1 := h s (List.mem_cons_self ..)
    have h2 := many_le fun x hx => h x (List.mem_cons_of_mem _ hx)
    simp only [List.map_cons, List.sum_cons]
    unfold manyE at h2 ⊢
    rw [List.filter_cons]
    by_cases c : s.stage = 0
    · rw [if_neg (by simp [c])]; omega
    · rw [if_pos (by simp [c])]
      simp only [List.length_cons]
      have := h1.2 c
      omega
theorem EngOk.many {e : Engine} (h : EngOk e) : (manyE e.slots : Int) ≤ triesE e := many_le fun s hs => by
  obtain ⟨n, hn, rfl⟩ := h.mem hs
  exact ⟨(h.tries n).1, fun c => (slotOk_one (h.slot n hn) c).2.1.1⟩
theorem tries_step0 {e : Engine} (h : (stepE e 0).2 = true) : triesE e ≤ triesE (stepE e 0).1 ∧ triesE (stepE e 0).1 ≤ triesE e + 1 := by
  have hz : (0 : Int).toNat = 0 := rfl
  have hs : ∀ (s : Slot) (vs : List Version), 0 < e.slots.length → triesE (setE e 0 s vs) = triesE e - (slotAt e 0).tries + s.tries := by
    intro s vs hl
    unfold triesE setE slotAt
    obtain ⟨b0, l0, v0, sl⟩ := e
    cases sl with
    | nil => exact absurd hl (by simp)
    | cons x r =>
      simp only [List.set_cons_zero, List.map_cons, List.sum_cons, List.getD_cons_zero]
      omega
  unfold stepE at h ⊢
  split at h
  · rename_i g
    rw [if_pos g, hz]
    rw [hz] at h
    have hl : 0 < e.slots.length := by omega
    unfold stepN at h ⊢
    split
    · rename_i h0; rw [if_pos h0] at h
      split
      · rename_i h1; rw [if_pos h1] at h; cases h
      · dsimp only; rw [hs _ _ hl]; dsimp only; omega
    · rename_i h0; rw [if_neg h0] at h
      split
      · rename_i h1; rw [if_pos h1] at h
        split
        · rename_i h2; rw [if_pos h2] at h; cases h
        · split
          · dsimp only; rw [hs _ _ hl]; dsimp only; omega
          · dsimp only; rw [hs _ _ hl]; dsimp only; omega
      · rename_i h1; rw [if_neg h1] at h; cases h
  · cases h

end Go.Proofs.Yteebkimhfaodnaa

/- Done engines are serial runs; new engines; the reverse order: plain. -/
namespace Go.Proofs.Yteebkimhfaodnaa
open Go Go.RowKit

theorem valK_values {s : List Entry} (h : storeValid s = true) {k : Int} (h0 : 0 ≤ k) (h1 : k ≤ 31) : valK (valuesL s) k = valAt s k := by
  unfold valK
  rw [(valuesL_get h k.toNat (by omega)).2, Int.toNat_of_nonneg h0]
theorem actAt_lt {e : Engine} {n : Nat} (h : n < e.list.length) : actAt e n = e.list[n] := by
  unfold actAt; rw [List.getD_eq_getElem?_getD, List.getElem?_eq_getElem h]; rfl

/-- A checked action has the effect of what it sees. -/
theorem EngOk.res {e : Engine} (h : EngOk e) {n : Nat} (hn : n < e.slots.length) (h2 : (slotAt e n).stage = 2) : (slotAt e n).res = tryE e n (actAt e n) ∧ (slotAt e n).fr = tryW e n (actAt e n) := by
  have h3 := slotOk_one (h.slot n hn) (by omega)
  have h4 := (h.chk n hn h2).2
  unfold currentE at h4
  rw [Bool.and_eq_true, beq_iff_eq, beq_iff_eq] at h4
  refine ⟨?_, h4.2⟩
  rw [← h3.2.2.2]
  unfold slotV
  rw [h4.1]
  exact runE_reads (h.act hn) _ zeros32_ok.1

/-- Versions are valid. -/
def VersOk (l : List Version) : Prop := SortV l ∧ ∀ v, v ∈ l → VOk v
theorem EngOk.versOk {e : Engine} (h : EngOk e) : VersOk e.versions := by
  have h10 := h.len10
  rw [h.vers]
  exact ⟨allTo_sort h.w _, allTo_ok h.w _ h10⟩
theorem putW_len (n : Int) : ∀ (ws : List Entry) (l : List Version), (putW n l ws).length = l.length + ws.length
  | [], l => rfl
  | e :: r, l => by
    show (putW n (insV ⟨e.key, n, e.value⟩ l) r).length = _
    rw [putW_len n r]
    have : ∀ (v : Version) (l : List Version), (insV v l).length = l.length + 1 := by
      intro v l
      induction l with
      | nil => rfl
      | cons x r ih => unfold insV; split <;> simp [ih]
    rw [this]; simp only [List.length_cons]; omega
theorem dropV_len (n : Int) (l : List Version) : (dropV n l).length ≤ l.length := List.length_filter_le ..
theorem putVs_len (l : List Version) (n : Int) (ws : List Entry) : (putVs l n ws).length ≤ l.length + ws.length := by
  unfold putVs; rw [putW_len]; have := dropV_len n l; omega
theorem allTo_len {sl : List Slot} (h : ∀ k : Nat, (sl.getD k slot0).res.writes.length ≤ 2) : ∀ n, (allTo sl n).length ≤ 2 * n
  | 0 => by simp [allTo]
  | n + 1 => by
    unfold allTo
    have h1 := putVs_len (allTo sl n) (n : Int) (sl.getD n slot0).res.writes
    have h2 := allTo_len h n
    have h3 := h n
    omega
theorem slotOk_wlen {n : Int} {a : Action} {s : Slot} (h : slotOk n a s = true) : s.res.writes.length ≤ 2 ∧ s.res.reads.length ≤ 2 ∧ s.fr.length ≤ 2 := by
  by_cases c : s.stage = 0
  · obtain ⟨_, h1, h2⟩ := slotOk_zero h c
    rw [h1, h2]; simp
  · obtain ⟨_, _, h1, h2⟩ := slotOk_one h c
    have hr := readsA_len a
    unfold readsOk at h1
    simp only [Bool.and_eq_true, decide_eq_true_eq] at h1
    have h3 := congrArg List.length h1.1.1.1
    rw [List.length_map] at h3
    refine ⟨?_, by omega, by omega⟩
    rw [← h2]; exact runE_wlen _ _
theorem EngOk.wlen {e : Engine} (h : EngOk e) (k : Nat) : (e.slots.getD k slot0).res.writes.length ≤ 2 := by
  by_cases c : k < e.slots.length
  · exact (slotOk_wlen (h.slot k c)).1
  · show (slotAt e k).res.writes.length ≤ 2
    rw [slotAt_ge (by omega)]; decide
theorem EngOk.vlen {e : Engine} (h : EngOk e) : e.versions.length ≤ 20 := by
  have := allTo_len h.wlen e.slots.length
  have := h.len10
  rw [h.vers]; omega
theorem EngOk.sz {e : Engine} (h : EngOk e) : EngSz (2 ^ 32) e := by
  have h1 := store_len h.base
  have h2 := (actionsValid_ok h.list).2
  have h3 := h.vlen
  have h4 := h.len10
  refine ⟨by omega, by omega, by omega, by omega, fun s hs => ?_⟩
  obtain ⟨n, hn, rfl⟩ := h.mem hs
  have := slotOk_wlen (h.slot n hn)
  exact ⟨by omega, by omega, by omega⟩

/-- New engines are valid. -/
theorem slotAt_new (s : List Entry) (l : List Action) (n : Nat) : slotAt ⟨s, l, [], List.replicate l.length slot0⟩ n = slot0 := by
  unfold slotAt
  dsimp only
  rw [List.getD_eq_getElem?_getD, List.getElem?_replicate]
  split <;> rfl
theorem engineOf_is {s : List Entry} {l : List Action} (hs : storeValid s = true) (hl : actionsValid l = true) : engineOf s l = ⟨s, l, [], List.replicate l.length slot0⟩ := by
  unfold engineOf; rw [hs, hl]; rfl
theorem engineOf_ok {s : List Entry} {l : List Action} (hs : storeValid s = true) (hl : actionsValid l = true) : EngOk (engineOf s l) := by
  rw [engineOf_is hs hl]
  refine ⟨hs, hl, List.length_replicate, fun n _ => by rw [slotAt_new]; rfl, ?_, fun n _ h2 => by rw [slotAt_new] at h2; cases h2⟩
  symm
  rw [List.eq_nil_iff_forall_not_mem]
  intro v hv
  obtain ⟨k, _, _, h3⟩ := (allTo_mem _ _).1 hv
  change _ ∈ (slotAt ⟨s, l, [], List.replicate l.length slot0⟩ k).res.writes at h3
  rw [slotAt_new] at h3
  cases h3

/-- The reverse order. -/
def revS (len : Nat) : Nat → List Int
  | 0 => []
  | i + 1 => revS len i ++ [((len - 1 - i : Nat) : Int)]
theorem revS_len (len : Nat) : ∀ i, (revS len i).length = i
  | 0 => rfl
  | i + 1 => by unfold revS; rw [List.length_append, revS_len len i]; rfl
theorem rev_run {s : List Entry} {l : List Action} (hs : storeValid s = true) (hl : actionsValid l = true) : ∀ i, i ≤ l.length →
    EngOk (runS (engineOf s l) (revS l.length i)).1 ∧ (runS (engineOf s l) (revS l.length i)).1.slots.length = l.length ∧ (runS (engineOf s l) (revS l.length i)).2 = i ∧
    ∀ j, j < l.length → (l.length - i ≤ j → (slotAt (runS (engineOf s l) (revS l.length i)).1 j).tries = 1) ∧ (j < l.length - i → slotAt (runS (engineOf s l) (revS l.length i)).1 j = slot0)
  | 0, _ => by
    show EngOk (engineOf s l) ∧ (engineOf s l).slots.length = _ ∧ (0 : Int) = _ ∧ ∀ j, j < l.length → (l.length - 0 ≤ j → (slotAt (engineOf s l) j).tries = 1) ∧ (j < l.length - 0 → slotAt (engineOf s l) j = slot0)
    refine ⟨engineOf_ok hs hl, by rw [engineOf_is hs hl]; exact List.length_replicate, rfl, fun j hj => ⟨fun g => by omega, fun _ => by rw [engineOf_is hs hl, slotAt_new]⟩⟩
  | i + 1, hi => by
    obtain ⟨h1, h2, h3, h4⟩ := rev_run hs hl i (by omega)
    obtain ⟨x, hx⟩ : ∃ x, x = runS (engineOf s l) (revS l.length i) := ⟨_, rfl⟩
    rw [← hx] at h1 h2 h3 h4
    have hr : runS (engineOf s l) (revS l.length (i + 1)) = runStep x ((l.length - 1 - i : Nat) : Int) := by
      rw [hx]
      unfold runS
      show (revS l.length i ++ [((l.length - 1 - i : Nat) : Int)]).foldl runStep _ = _
      rw [List.foldl_append]; rfl
    obtain ⟨n, hn⟩ : ∃ n, n = l.length - 1 - i := ⟨_, rfl⟩
    rw [← hn] at hr
    have hnl : n < x.1.slots.length := by omega
    have h0 := (h4 n (by omega)).2 (by omega)
    have hst : stepE x.1 (n : Int) = (setE x.1 n ⟨1, 1, tryW x.1 n (actAt x.1 n), tryE x.1 n (actAt x.1 n)⟩ (putVs x.1.versions n (tryE x.1 n (actAt x.1 n)).writes), true) := by
      unfold stepE
      rw [if_pos (by omega), Int.toNat_natCast]
      unfold stepN
      rw [h0, if_pos (show slot0.stage = 0 from rfl), if_neg (show ¬ slot0.tries = 1000 by decide)]
      rfl
    have hr1 : runStep x (n : Int) = ((stepE x.1 (n : Int)).1, x.2 + 1) := by
      unfold runStep; rw [hst]; rfl
    rw [hr, hr1]
    refine ⟨stepE_ok h1 _, (stepE_len _ _).1.trans h2, by dsimp only; omega, fun j hj => ?_⟩
    dsimp only
    rw [hst]
    dsimp only
    rw [slotAt_set hnl]
    by_cases c : j = n
    · rw [if_pos c]
      exact ⟨fun _ => rfl, fun g => by omega⟩
    · rw [if_neg c]
      exact ⟨fun g => (h4 j hj).1 (by omega), fun g => (h4 j hj).2 (by omega)⟩
/-- The worst order is not so bad. -/
theorem rev_fin {s : List Entry} {l : List Action} (hs : storeValid s = true) (hl : actionsValid l = true) {x : Engine} (hx : x = (runS (engineOf s l) (revS l.length l.length)).1) :
    EngOk x ∧ x.slots.length = l.length ∧ (∀ j, j < x.slots.length → (slotAt x j).tries = 1) ∧ triesE x = l.length ∧ EngOk (finE x).1 ∧ triesE (finE x).1 ≤ 2 * l.length := by
  obtain ⟨h1, h2, h3, h4⟩ := rev_run hs hl l.length (Nat.le_refl _)
  rw [← hx] at h1 h2 h4
  have ht : ∀ j, j < x.slots.length → (slotAt x j).tries = 1 := fun j hj => (h4 j (by omega)).1 (by omega)
  have hf := finE_fin (b := 1) (by omega) h1 fun j hj => by rw [ht j hj]; omega
  refine ⟨h1, h2, ht, ?_, hf.ok, ?_⟩
  · have a1 := sum_le (c := 1) (l := x.slots) fun y hy => by obtain ⟨n, hn, rfl⟩ := h1.mem hy; rw [ht n hn]; omega
    have a2 := sum_ge (c := 1) (l := x.slots) fun y hy => by obtain ⟨n, hn, rfl⟩ := h1.mem hy; rw [ht n hn]; omega
    unfold triesE
    omega
  · have a1 := sum_le (c := 2) (l := (finE x).1.slots) fun y hy => by obtain ⟨n, hn, rfl⟩ := hf.ok.mem hy; exact hf.top n hn
    have := hf.len
    unfold triesE
    omega

end Go.Proofs.Yteebkimhfaodnaa

/- Contracts: equality of lists of numbers, entries and versions; effects. -/
set_option linter.unusedSimpArgs false
set_option linter.unusedVariables false
set_option maxRecDepth 20000
set_option maxHeartbeats 4000000
namespace Go.Proofs.Yteebkimhfaodnaa
open Go Go.RowKit

theorem eqE (a b : Entry) (K : Bool → Prop) : eqCellsK [.int .i64 a.key, .int .i64 a.value] [.int .i64 b.key, .int .i64 b.value] true K = K (decide (a = b)) := by
  simp only [eqCellsK, true_and, Bool.true_and]
  congr 1
  obtain ⟨a1, a2⟩ := a
  obtain ⟨b1, b2⟩ := b
  rw [Bool.eq_iff_iff]
  simp only [Bool.and_eq_true, beq_iff_eq, decide_eq_true_eq, Entry.mk.injEq, and_assoc]
theorem eqR (a b : Version) (K : Bool → Prop) : eqCellsK [.int .i64 a.key, .int .i64 a.by_, .int .i64 a.value] [.int .i64 b.key, .int .i64 b.by_, .int .i64 b.value] true K = K (decide (a = b)) := by
  simp only [eqCellsK, true_and, Bool.true_and]
  congr 1
  obtain ⟨a1, a2, a3⟩ := a
  obtain ⟨b1, b2, b3⟩ := b
  rw [Bool.eq_iff_iff]
  simp only [Bool.and_eq_true, beq_iff_eq, decide_eq_true_eq, Version.mk.injEq, and_assoc]

theorem c_slices_Equal_int (n1 n2 : Option Bool) (xs ys : List Int) (hx : xs.length < 2 ^ 62) (hy : ys.length < 2 ^ 62) :
    Det Try.prog 70 [.sl n1 (rows encI xs), .sl n2 (rows encI ys)] (.bool (decide (xs = ys))) := by
  refine fspec_det tab_ok Try.call70 Try.func70 rfl 26 Try.ntmps70 (of_decide_eq_true rfl) fun B => codeK_sound tab_ok _ _ _ ?_
  by_cases hl : xs.length = ys.length
  · have hd : (((xs.length : Int) != (ys.length : Int))) = false := by simp [hl]
    simp (config := { maxSteps := 4000000 }) only [go_sem, simprocAttr, ↓dnA, Try.f70, rows_length, hd]
    refine semL_for tab_ok (fun i : Nat => ⟨26, [(0, .sl n1 (rows encI xs)), (1, .sl n2 (rows encI ys)), (12, .int .i64 xs.length), (13, .int .i64 i)], []⟩) (fun i => xs.length - i)
      (fun i => i ≤ xs.length ∧ decide (xs.drop i = ys.drop i) = decide (xs = ys)) 0 [] (Weak.of (by rfl) trivial ?_ (by rfl)) ⟨by omega, rfl⟩ ?_
    · simp (config := { maxSteps := 4000000 }) only [go_sem, simprocAttr, ↓dnA, Try.f70, rows_length, frW, wk2, wk1, wkL, wkB, hpW, List.mem_cons, Prod.mk.injEq, exists_eq_left, exists_eq_right, exists_eq]
    · rintro i ⟨hi, hp⟩
      by_cases h : i < xs.length
      · have h2 : i < ys.length := by omega
        rw [eq_drop xs ys i hl h] at hp
        simp (config := { maxSteps := 4000000 }) only [go_sem, simprocAttr, ↓dnA, Try.f70, rows_length, nlt h]
        refine semL_still tab_ok mixed_ (by decide +kernel) ?_
        cases he : decide (xs[i] = ys[i]) with
        | false =>
          rw [he, Bool.false_and] at hp
          have hm : (xs[i] != ys[i]) = !false := by rw [← he]; rfl
          simp (config := { maxSteps := 4000000 }) only [go_sem, simprocAttr, ↓dnA, Try.f70, rows_length, rows_get _ _ _ h, rows_get _ _ _ h2, encI, nn0, nlt h, nlt h2, hm, he, ← hp]
        | true =>
          rw [he, Bool.true_and] at hp
          have hm : (xs[i] != ys[i]) = !true := by rw [← he]; rfl
          simp (config := { maxSteps := 4000000 }) only [go_sem, simprocAttr, ↓dnA, Try.f70, rows_length, rows_get _ _ _ h, rows_get _ _ _ h2, encI, nn0, nlt h, nlt h2, hm, he]
          refine ⟨i + 1, [], ⟨by omega, hp⟩, by dsimp only; omega, Weak.of (by rfl) trivial ?_ (by rfl)⟩
          simp (config := { maxSteps := 4000000 }) only [go_sem, simprocAttr, ↓dnA, Try.f70, wsucc h hx, frW, wk2, wk1, wkL, wkB, hpW, List.mem_cons, Prod.mk.injEq, exists_eq_left, exists_eq_right, exists_eq]
      · have : i = xs.length := by omega
        subst this
        rw [List.drop_length, List.drop_of_length_le (by omega)] at hp
        simp (config := { maxSteps := 4000000 }) only [go_sem, simprocAttr, ↓dnA, Try.f70, nlf h, ← hp]
  · have hd : (((xs.length : Int) != (ys.length : Int))) = true := by simp; omega
    have hne : xs ≠ ys := fun e => hl (by rw [e])
    simp (config := { maxSteps := 4000000 }) only [go_sem, simprocAttr, ↓dnA, Try.f70, rows_length, hd, decide_eq_false hne]

theorem c_slices_Equal_Entry (n1 n2 : Option Bool) (xs ys : List Entry) (hx : xs.length < 2 ^ 62) (hy : ys.length < 2 ^ 62) :
    Det Try.prog 87 [.sl n1 (rows encE xs), .sl n2 (rows encE ys)] (.bool (decide (xs = ys))) := by
  refine fspec_det tab_ok Try.call87 Try.func87 rfl 26 Try.ntmps87 (of_decide_eq_true rfl) fun B => codeK_sound tab_ok _ _ _ ?_
  by_cases hl : xs.length = ys.length
  · have hd : (((xs.length : Int) != (ys.length : Int))) = false := by simp [hl]
    simp (config := { maxSteps := 4000000 }) only [go_sem, simprocAttr, ↓dnA, Try.f87, rows_length, hd]
    refine semL_for tab_ok (fun i : Nat => ⟨26, [(0, .sl n1 (rows encE xs)), (1, .sl n2 (rows encE ys)), (12, .int .i64 xs.length), (13, .int .i64 i)], []⟩) (fun i => xs.length - i)
      (fun i => i ≤ xs.length ∧ decide (xs.drop i = ys.drop i) = decide (xs = ys)) 0 [] (Weak.of (by rfl) trivial ?_ (by rfl)) ⟨by omega, rfl⟩ ?_
    · simp (config := { maxSteps := 4000000 }) only [go_sem, simprocAttr, ↓dnA, Try.f87, rows_length, frW, wk2, wk1, wkL, wkB, hpW, List.mem_cons, Prod.mk.injEq, exists_eq_left, exists_eq_right, exists_eq]
    · rintro i ⟨hi, hp⟩
      by_cases h : i < xs.length
      · have h2 : i < ys.length := by omega
        rw [eq_drop xs ys i hl h] at hp
        simp (config := { maxSteps := 4000000 }) only [go_sem, simprocAttr, ↓dnA, Try.f87, rows_length, nlt h]
        refine semL_still tab_ok mixed_ (by decide +kernel) ?_
        cases he : decide (xs[i] = ys[i]) with
        | false =>
          rw [he, Bool.false_and] at hp
          simp (config := { maxSteps := 4000000 }) only [go_sem, simprocAttr, ↓dnA, Try.f87, rows_length, rows_get _ _ _ h, rows_get _ _ _ h2, encE, nn0, nlt h, nlt h2, eqE, he, ← hp]
        | true =>
          rw [he, Bool.true_and] at hp
          simp (config := { maxSteps := 4000000 }) only [go_sem, simprocAttr, ↓dnA, Try.f87, rows_length, rows_get _ _ _ h, rows_get _ _ _ h2, encE, nn0, nlt h, nlt h2, eqE, he]
          refine ⟨i + 1, [], ⟨by omega, hp⟩, by dsimp only; omega, Weak.of (by rfl) trivial ?_ (by rfl)⟩
          simp (config := { maxSteps := 4000000 }) only [go_sem, simprocAttr, ↓dnA, Try.f87, wsucc h hx, frW, wk2, wk1, wkL, wkB, hpW, List.mem_cons, Prod.mk.injEq, exists_eq_left, exists_eq_right, exists_eq]
      · have : i = xs.length := by omega
        subst this
        rw [List.drop_length, List.drop_of_length_le (by omega)] at hp
        simp (config := { maxSteps := 4000000 }) only [go_sem, simprocAttr, ↓dnA, Try.f87, nlf h, ← hp]
  · have hd : (((xs.length : Int) != (ys.length : Int))) = true := by simp; omega
    have hne : xs ≠ ys := fun e => hl (by rw [e])
    simp (config := { maxSteps := 4000000 }) only [go_sem, simprocAttr, ↓dnA, Try.f87, rows_length, hd, decide_eq_false hne]

theorem c_slices_Equal_Version (n1 n2 : Option Bool) (xs ys : List Version) (hx : xs.length < 2 ^ 62) (hy : ys.length < 2 ^ 62) :
    Det Try.prog 37 [.sl n1 (rows encR xs), .sl n2 (rows encR ys)] (.bool (decide (xs = ys))) := by
  refine fspec_det tab_ok Try.call37 Try.func37 rfl 26 Try.ntmps37 (of_decide_eq_true rfl) fun B => codeK_sound tab_ok _ _ _ ?_
  by_cases hl : xs.length = ys.length
  · have hd : (((xs.length : Int) != (ys.length : Int))) = false := by simp [hl]
    simp (config := { maxSteps := 4000000 }) only [go_sem, simprocAttr, ↓dnA, Try.f37, rows_length, hd]
    refine semL_for tab_ok (fun i : Nat => ⟨26, [(0, .sl n1 (rows encR xs)), (1, .sl n2 (rows encR ys)), (12, .int .i64 xs.length), (13, .int .i64 i)], []⟩) (fun i => xs.length - i)
      (fun i => i ≤ xs.length ∧ decide (xs.drop i = ys.drop i) = decide (xs = ys)) 0 [] (Weak.of (by rfl) trivial ?_ (by rfl)) ⟨by omega, rfl⟩ ?_
    · simp (config := { maxSteps := 4000000 }) only [go_sem, simprocAttr, ↓dnA, Try.f37, rows_length, frW, wk2, wk1, wkL, wkB, hpW, List.mem_cons, Prod.mk.injEq, exists_eq_left, exists_eq_right, exists_eq]
    · rintro i ⟨hi, hp⟩
      by_cases h : i < xs.length
      · have h2 : i < ys.length := by omega
        rw [eq_drop xs ys i hl h] at hp
        simp (config := { maxSteps := 4000000 }) only [go_sem, simprocAttr, ↓dnA, Try.f37, rows_length, nlt h]
        refine semL_still tab_ok mixed_ (by decide +kernel) ?_
        cases he : decide (xs[i] = ys[i]) with
        | false =>
          rw [he, Bool.false_and] at hp
          simp (config := { maxSteps := 4000000 }) only [go_sem, simprocAttr, ↓dnA, Try.f37, rows_length, rows_get _ _ _ h, rows_get _ _ _ h2, encR, nn0, nlt h, nlt h2, eqR, he, ← hp]
        | true =>
          rw [he, Bool.true_and] at hp
          simp (config := { maxSteps := 4000000 }) only [go_sem, simprocAttr, ↓dnA, Try.f37, rows_length, rows_get _ _ _ h, rows_get _ _ _ h2, encR, nn0, nlt h, nlt h2, eqR, he]
          refine ⟨i + 1, [], ⟨by omega, hp⟩, by dsimp only; omega, Weak.of (by rfl) trivial ?_ (by rfl)⟩
          simp (config := { maxSteps := 4000000 }) only [go_sem, simprocAttr, ↓dnA, Try.f37, wsucc h hx, frW, wk2, wk1, wkL, wkB, hpW, List.mem_cons, Prod.mk.injEq, exists_eq_left, exists_eq_right, exists_eq]
      · have : i = xs.length := by omega
        subst this
        rw [List.drop_length, List.drop_of_length_le (by omega)] at hp
        simp (config := { maxSteps := 4000000 }) only [go_sem, simprocAttr, ↓dnA, Try.f37, nlf h, ← hp]
  · have hd : (((xs.length : Int) != (ys.length : Int))) = true := by simp; omega
    have hne : xs ≠ ys := fun e => hl (by rw [e])
    simp (config := { maxSteps := 4000000 }) only [go_sem, simprocAttr, ↓dnA, Try.f37, rows_length, hd, decide_eq_false hne]

theorem c_impl_Effect_same (n1 n2 n3 n4 : Option Bool) (e f : Effect) (h1 : e.reads.length < 2 ^ 32) (h2 : e.writes.length < 2 ^ 32) (h3 : f.reads.length < 2 ^ 32) (h4 : f.writes.length < 2 ^ 32) :
    Det Try.prog 62 [.agg (encF n1 n2 e), .agg (encF n3 n4 f)] (.bool (decide (e = f))) := by
  refine fspec_det tab_ok Try.call62 Try.func62 rfl 24 Try.ntmps62 (of_decide_eq_true rfl) fun B => codeK_sound tab_ok _ _ _ ?_
  cases c1 : (e.done == f.done) with
  | false =>
    have hr : decide (e = f) = false := decide_eq_false fun h => by rw [h] at c1; simp at c1
    simp (config := { maxSteps := 4000000 }) only [go_sem, simprocAttr, ↓dnA, Try.f62, encF, c1, hr]
  | true =>
    have g1 : e.done = f.done := by simpa using c1
    simp (config := { maxSteps := 4000000 }) only [go_sem, simprocAttr, ↓dnA, Try.f62, encF, c1]
    refine CallTo.det (c_slices_Equal_Entry n1 n3 e.reads f.reads (by omega) (by omega)) fun _ => ?_
    cases c2 : decide (e.reads = f.reads) with
    | false =>
      have hr : decide (e = f) = false := decide_eq_false fun h => by rw [h] at c2; simp at c2
      simp (config := { maxSteps := 4000000 }) only [go_sem, simprocAttr, ↓dnA, Try.f62, encF, c1, c2, hr]
    | true =>
      have g2 : e.reads = f.reads := of_decide_eq_true c2
      simp (config := { maxSteps := 4000000 }) only [go_sem, simprocAttr, ↓dnA, Try.f62, encF, c1, c2]
      refine CallTo.det (c_slices_Equal_Entry n2 n4 e.writes f.writes (by omega) (by omega)) fun _ => ?_
      have hr : decide (e = f) = decide (e.writes = f.writes) := by
        obtain ⟨a1, a2, a3⟩ := e
        obtain ⟨b1, b2, b3⟩ := f
        dsimp only at g1 g2
        subst g1 g2
        exact decide_eq_decide.2 (by simp)
      simp (config := { maxSteps := 4000000 }) only [go_sem, simprocAttr, ↓dnA, Try.f62, encF, c1, c2, hr]

theorem c_spec_l10SameEntries (n1 n2 : Option Bool) (xs ys : List Entry) (hx : xs.length < 2 ^ 62) (hy : ys.length < 2 ^ 62) :
    Det Try.prog 98 [.sl n1 (rows encE xs), .sl n2 (rows encE ys)] (.bool (decide (xs = ys))) := by
  refine fspec_det tab_ok Try.call98 Try.func98 rfl 26 Try.ntmps98 (of_decide_eq_true rfl) fun B => codeK_sound tab_ok _ _ _ ?_
  by_cases hl : xs.length = ys.length
  · have hd : (((xs.length : Int) != (ys.length : Int))) = false := by simp [hl]
    simp (config := { maxSteps := 4000000 }) only [go_sem, simprocAttr, ↓dnA, Try.f98, rows_length, hd]
    refine semL_for tab_ok (fun i : Nat => ⟨26, [(0, .sl n1 (rows encE xs)), (1, .sl n2 (rows encE ys)), (5, .int .i64 i)], []⟩) (fun i => xs.length - i)
      (fun i => i ≤ xs.length ∧ decide (xs.drop i = ys.drop i) = decide (xs = ys)) 0 [] (Weak.of (by rfl) trivial ?_ (by rfl)) ⟨by omega, rfl⟩ ?_
    · simp (config := { maxSteps := 4000000 }) only [go_sem, simprocAttr, ↓dnA, Try.f98, rows_length, frW, wk2, wk1, wkL, wkB, hpW, List.mem_cons, Prod.mk.injEq, exists_eq_left, exists_eq_right, exists_eq]
    · rintro i ⟨hi, hp⟩
      by_cases h : i < xs.length
      · have h2 : i < ys.length := by omega
        rw [eq_drop xs ys i hl h] at hp
        simp (config := { maxSteps := 4000000 }) only [go_sem, simprocAttr, ↓dnA, Try.f98, rows_length, nlt h]
        refine semL_still tab_ok mixed_ (by decide +kernel) ?_
        cases he : decide (xs[i] = ys[i]) with
        | false =>
          rw [he, Bool.false_and] at hp
          simp (config := { maxSteps := 4000000 }) only [go_sem, simprocAttr, ↓dnA, Try.f98, rows_length, rows_get _ _ _ h, rows_get _ _ _ h2, encE, nn0, nlt h, nlt h2, eqE, he, ← hp]
        | true =>
          rw [he, Bool.true_and] at hp
          simp (config := { maxSteps := 4000000 }) only [go_sem, simprocAttr, ↓dnA, Try.f98, rows_length, rows_get _ _ _ h, rows_get _ _ _ h2, encE, nn0, nlt h, nlt h2, eqE, he]
          refine ⟨i + 1, [], ⟨by omega, hp⟩, by dsimp only; omega, Weak.of (by rfl) trivial ?_ (by rfl)⟩
          simp (config := { maxSteps := 4000000 }) only [go_sem, simprocAttr, ↓dnA, Try.f98, wsucc h hx, frW, wk2, wk1, wkL, wkB, hpW, List.mem_cons, Prod.mk.injEq, exists_eq_left, exists_eq_right, exists_eq]
      · have : i = xs.length := by omega
        subst this
        rw [List.drop_length, List.drop_of_length_le (by omega)] at hp
        simp (config := { maxSteps := 4000000 }) only [go_sem, simprocAttr, ↓dnA, Try.f98, rows_length, nlf h, ← hp]
  · have hd : (((xs.length : Int) != (ys.length : Int))) = true := by simp; omega
    have hne : xs ≠ ys := fun e => hl (by rw [e])
    simp (config := { maxSteps := 4000000 }) only [go_sem, simprocAttr, ↓dnA, Try.f98, rows_length, hd, decide_eq_false hne]

end Go.Proofs.Yteebkimhfaodnaa

/- Contracts: what an action of an engine reads now. -/
set_option linter.unusedSimpArgs false
set_option linter.unusedVariables false
set_option maxRecDepth 20000
set_option maxHeartbeats 4000000
namespace Go.Proofs.Yteebkimhfaodnaa
open Go Go.RowKit

theorem nowR_reads {e : Engine} {n : Int} {a : Action} {rs : List Entry} (hk : rs.map Entry.key = readsA a) : nowR e n a = rs.map fun x => ⟨x.key, (seenB e n x.key).1⟩ := by
  unfold nowR readsG
  rw [← hk, List.map_map]; rfl
theorem tryW_reads {e : Engine} {n : Int} {a : Action} {rs : List Entry} (hk : rs.map Entry.key = readsA a) : tryW e n a = rs.map fun x => (seenB e n x.key).2 := by
  unfold tryW
  rw [← hk, List.map_map]; rfl
theorem nowR_iff {e : Engine} {n : Int} {a : Action} {rs : List Entry} (hk : rs.map Entry.key = readsA a) : rs = nowR e n a ↔ ∀ (i : Nat) (h : i < rs.length), rs[i].value = (seenB e n rs[i].key).1 := by
  rw [nowR_reads hk]
  constructor
  · intro h i hi
    have := congrArg (fun l : List Entry => (l.getD i ⟨0, 0⟩).value) h
    rw [List.getD_eq_getElem?_getD, List.getD_eq_getElem?_getD, List.getElem?_map, List.getElem?_eq_getElem hi] at this
    exact this
  · intro h
    refine List.ext_getElem (by rw [List.length_map]) fun i h1 h2 => ?_
    rw [List.getElem_map, ← h i h1]
theorem current_iff {e : Engine} {n : Int} {a : Action} {s : Slot} (hk : s.res.reads.map Entry.key = readsA a) :
    currentE e n a s = true ↔ (∀ (i : Nat) (h : i < s.res.reads.length), s.res.reads[i].value = (seenB e n s.res.reads[i].key).1) ∧ s.fr = tryW e n a := by
  unfold currentE
  rw [Bool.and_eq_true, beq_iff_eq, beq_iff_eq, nowR_iff hk]

theorem nowV_take (e : Engine) (n : Int) (rs : List Int) (i : Nat) (h : i < rs.length) :
    applyW (valuesL e.base) ((rs.take (i + 1)).map fun k => (⟨k, (seenB e n k).1⟩ : Entry)) = (applyW (valuesL e.base) ((rs.take i).map fun k => ⟨k, (seenB e n k).1⟩)).set rs[i].toNat (seenB e n rs[i]).1 := by
  unfold applyW
  rw [take_snoc _ _ h, List.map_append, List.foldl_append]
  rfl
theorem nowV_len (e : Engine) (n : Int) (hb : storeValid e.base = true) : ∀ rs : List Int, (applyW (valuesL e.base) (rs.map fun k => (⟨k, (seenB e n k).1⟩ : Entry))).length = 32 := by
  intro rs
  have h0 := (valuesL_ok hb).1
  generalize valuesL e.base = v at h0
  unfold applyW
  induction rs generalizing v with
  | nil => exact h0
  | cons k r ih => exact ih (putV v ⟨k, _⟩) (by unfold putV; rw [List.length_set]; exact h0)

theorem c_impl_now (n1 n2 n3 n4 : Option Bool) (e : Engine) (n : Nat) (hs : EngSz (2 ^ 32) e) (hb : storeValid e.base = true) (hn : n < e.list.length) (ha : ActOk (actAt e n)) :
    Det Try.prog 69 [.agg (encG n1 n2 n3 n4 e), .int .i64 n] (.tup [.agg (cellsI (nowV e n (actAt e n))), .osl false 1 (rows encI (tryW e n (actAt e n)))]) := by
  refine fspec_det tab_ok Try.call69 Try.func69 rfl 47 Try.ntmps69 (of_decide_eq_true rfl) fun B => codeK_sound tab_ok _ _ _ ?_
  have hke := (entOk_spec 1 e.base (-1) hb).1
  have hg : e.list[n] = actAt e n := (actAt_lt hn).symm
  have h2 := readsA_len (actAt e n)
  have hvl := hs.versions
  simp (config := { maxSteps := 4000000 }) only [go_sem, simprocAttr, ↓dnA, Try.f69, rows_length, encG]
  refine CallTo.det (c_impl_valuesOf n1 e.base (by have := hs.base; omega) (fun x hx => by have := hke x hx; omega)) fun _ => ?_
  have hvo := valuesL_ok hb
  have cl : (cellsI (valuesL e.base)).length = 32 := by rw [cellsI_length, hvo.1]
  have ctk := cellsI_take _ 32 hvo.1
  simp (config := { maxSteps := 4000000 }) only [go_sem, simprocAttr, ↓dnA, Try.f69, rows_length, encG, cellsI_impL, cellsI_impLB, cl, ctk, cellsI_one, hn, nn0, rows_get _ _ _ hn, hg, encA]
  repeat refine And.intro (by first | omega | (simp; done) | (simp; omega) | assumption) ?_
  refine CallTo.det (c_impl_reads (actAt e n)) fun _ => ?_
  simp (config := { maxSteps := 4000000 }) only [go_sem, simprocAttr, ↓dnA, Try.f69, rows_length, encG, cellsI_impL, cellsI_impLB, cl, ctk, cellsI_one, hn, nn0, rows_get _ _ _ hn, hg, encA]
  refine semL_nilA 8 600 1 true (by rfl) (by rfl) (by decide) (by decide) ?_
  have hmr : ∀ k, k ∈ readsA (actAt e n) → 0 ≤ k ∧ k ≤ 31 := fun k hk => readsA_bd ha hk
  unfold nowV nowR readsG tryW
  generalize readsA (actAt e n) = rs at h2 hmr
  have hnl := nowV_len e n hb
  refine semL_for tab_ok (fun i : Nat => ⟨47, [(1, .int .i64 n), (2, .loc 2 0), (4, .loc 4 0), (6, .loc 6 0), (7, .loc 7 0), (8, .row 600 i), (22, .row 23000 rs.length), (23, .int .i64 rs.length), (24, .int .i64 i)],
      [(23000, .row true false 1 (rows encI rs)), (2, .var (encG n1 n2 n3 n4 e)), (4, .var (cellsI zeros32)), (6, .var (cellsI (valuesL e.base))), (7, .var (cellsI (applyW (valuesL e.base) ((rs.take i).map fun k => (⟨k, (seenB e n k).1⟩ : Entry))))),
        (600, .row true false 1 (rows encI ((rs.take i).map fun k => (seenB e n k).2)))]⟩) (fun i => rs.length - i)
    (fun i => i ≤ rs.length) 0 [(23000, 23000), (2, 2), (4, 4), (6, 6), (7, 7), (600, 600)] (Weak.of (by rfl) ?_ ?_ (by rfl)) (by omega) ?_
  · simp (config := { maxSteps := 4000000 }) only [go_sem, simprocAttr, ↓dnA, Try.f69, rows_length, encG, zeros32_cells, cellsI_wk, frW, wk2, wk1, wkL, wkB, hpW, List.mem_cons, Prod.mk.injEq, exists_eq_left, exists_eq_right, exists_eq]
    exact ⟨of_eq_true (cellsI_wk _ (valuesL e.base)), rfl⟩
  · simp (config := { maxSteps := 4000000 }) only [go_sem, simprocAttr, ↓dnA, Try.f69, rows_length, encG, frW, wk2, wk1, wkL, wkB, hpW, List.mem_cons, Prod.mk.injEq, exists_eq_left, exists_eq_right, exists_eq]
  · rintro i hi
    by_cases h : i < rs.length
    · have hk := hmr _ (List.getElem_mem h)
      have hb1 := hk.1
      have hb2 : rs[i] < 32 := by omega
      have hrd := c_impl_read n3 (valuesL e.base) e.versions rs[i] n hvo.1 hvl hk
      rw [valK_values hb hk.1 hk.2] at hrd
      change Det _ _ _ (.tup [.int .i64 (seenB e n rs[i]).1, .int .i64 (seenB e n rs[i]).2]) at hrd
      have hst := nowV_take e n rs i h
      have hvl1 := hnl (rs.take i)
      generalize hv : applyW (valuesL e.base) ((rs.take i).map fun k => (⟨k, (seenB e n k).1⟩ : Entry)) = v at hst hvl1
      have cv : (cellsI v).length = 32 := by rw [cellsI_length, hvl1]
      have hl : min i rs.length = i := by omega
      have htk : (rows encI ((rs.take i).map fun k => (seenB e n k).2)).take i = rows encI ((rs.take i).map fun k => (seenB e n k).2) := by
        rw [List.take_of_length_le]; rw [rows_length, List.length_map, List.length_take]; omega
      have hw : IntKind.i64.wrap ((i : Int) + 1) = ((i + 1 : Nat) : Int) := wsucc h (by omega)
      simp (config := { maxSteps := 4000000 }) only [go_sem, simprocAttr, ↓dnA, Try.f69, rows_length, encG, nlt h, h, rows_get _ _ _ h, encI, nn0, cl, ctk, hv, cellsI_noT, cellsI_argL]
      repeat refine And.intro (by first | omega | (simp; done) | (simp; omega) | assumption) ?_
      refine CallTo.det hrd fun _ => ?_
      simp (config := { maxSteps := 4000000 }) only [go_sem, simprocAttr, ↓dnA, Try.f69, rows_length, encG, nlt h, h, rows_get _ _ _ h, encI, nn0, cl, ctk, hv, cv, cellsI_set, hb1, hb2, Nat.mul_one, List.length_map, List.length_take, hl, htk, hw, show ¬ (1 = 32) by decide]
      repeat refine And.intro (by first | omega | (simp; done) | (simp; omega) | assumption) ?_
      refine ⟨i + 1, [(23000, 23000), (2, 2), (4, 4), (6, 6), (7, 7), (43, 600)], by omega, by dsimp only; omega, Weak.of (by rfl) ?_ ?_ (by rfl)⟩
      · simp (config := { maxSteps := 4000000 }) only [go_sem, simprocAttr, ↓dnA, Try.f69, rows_length, encG, cellsI_wk, hst, frW, wk2, wk1, wkL, wkB, hpW, List.mem_cons, Prod.mk.injEq, exists_eq_left, exists_eq_right, exists_eq]
        rw [take_snoc _ _ h, List.map_append, List.map_singleton, ← rows_snoc]
        first | rfl | exact ⟨of_eq_true (cellsI_wk _ _), rfl⟩ | exact of_eq_true (cellsI_wk _ _)
      · simp (config := { maxSteps := 4000000 }) only [go_sem, simprocAttr, ↓dnA, Try.f69, rows_length, encG, frW, wk2, wk1, wkL, wkB, hpW, List.mem_cons, Prod.mk.injEq, exists_eq_left, exists_eq_right, exists_eq]
    · have hi' : i = rs.length := by omega
      subst hi'
      have hvl1 := hnl rs
      rw [List.take_length]
      generalize applyW (valuesL e.base) (rs.map fun k => (⟨k, (seenB e n k).1⟩ : Entry)) = v at hvl1
      have cv : (cellsI v).length = 32 := by rw [cellsI_length, hvl1]
      have cz : (cellsI zeros32).length = 32 := by rw [cellsI_length]; rfl
      simp (config := { maxSteps := 4000000 }) only [go_sem, simprocAttr, ↓dnA, Try.f69, rows_length, encG, nlf h, cv, cz, cellsI_take _ 32 hvl1, cellsI_one, cellsI_exp, cellsI_rw, List.length_map]


theorem currentE_no1 {e : Engine} {n : Int} {a : Action} {s : Slot} (hk : s.res.reads.map Entry.key = readsA a) {i : Nat} (h : i < s.res.reads.length) (hv : s.res.reads[i].value ≠ (seenB e n s.res.reads[i].key).1) : currentE e n a s = false := by
  rw [Bool.eq_false_iff]
  intro g
  exact hv (((current_iff hk).1 g).1 i h)
theorem currentE_yes {e : Engine} {n : Int} {a : Action} {s : Slot} (hk : s.res.reads.map Entry.key = readsA a) (h : ∀ (i : Nat) (h : i < s.res.reads.length), s.res.reads[i].value = (seenB e n s.res.reads[i].key).1) : currentE e n a s = decide (tryW e n a = s.fr) := by
  rw [Bool.eq_iff_iff, current_iff hk, decide_eq_true_eq]
  exact ⟨fun g => g.2.symm, fun g => ⟨h, g.symm⟩⟩

theorem c_impl_current (n1 n2 n3 n4 : Option Bool) (e : Engine) (n : Nat) (hs : EngSz (2 ^ 32) e) (hb : storeValid e.base = true) (hn : n < e.list.length) (hl : n < e.slots.length) (ha : ActOk (actAt e n)) (hk : (slotAt e n).res.reads.map Entry.key = readsA (actAt e n)) :
    Det Try.prog 38 [.agg (encG n1 n2 n3 n4 e), .int .i64 n] (.bool (currentE e n (actAt e n) (slotAt e n))) := by
  refine fspec_det tab_ok Try.call38 Try.func38 rfl 43 Try.ntmps38 (of_decide_eq_true rfl) fun B => codeK_sound tab_ok _ _ _ ?_
  have hg : e.slots[n] = slotAt e n := (slotAt_lt hl).symm
  have hnw := nowV_len e n hb (readsA (actAt e n))
  change (nowV e n (actAt e n)).length = 32 at hnw
  have hsz := hs.each _ (List.getElem_mem hl)
  rw [hg] at hsz
  have hr1 := hsz.reads
  have hr2 := hsz.fr
  have hvl : ∀ k, k ∈ readsA (actAt e n) → valK (nowV e n (actAt e n)) k = (seenB e n k).1 := fun k h => valK_readsG ha _ (valuesL_ok hb).1 h
  simp (config := { maxSteps := 4000000 }) only [go_sem, simprocAttr, ↓dnA, Try.f38, rows_length, encG]
  refine CallTo.det (c_impl_now n1 n2 n3 n4 e n hs hb hn ha) fun _ => ?_
  have hc1 := fun {i : Nat} h hv => currentE_no1 (e := e) (n := n) (a := actAt e n) (s := slotAt e n) hk (i := i) h hv
  have hc2 := currentE_yes (e := e) (n := n) (a := actAt e n) (s := slotAt e n) hk
  have hkm : ∀ (i : Nat) (h : i < (slotAt e n).res.reads.length), (slotAt e n).res.reads[i].key ∈ readsA (actAt e n) := fun i h => by rw [← hk]; exact List.mem_map.2 ⟨_, List.getElem_mem h, rfl⟩
  have htl : (tryW e n (actAt e n)).length < 2 ^ 62 := by unfold tryW; rw [List.length_map]; have := readsA_len (actAt e n); omega
  generalize currentE e n (actAt e n) (slotAt e n) = cb at hc1 hc2
  generalize nowV e n (actAt e n) = v at hnw hvl
  generalize tryW e n (actAt e n) = tw at hc2 htl
  have cv : (cellsI v).length = 32 := by rw [cellsI_length, hnw]
  have ctk := cellsI_take _ 32 hnw
  simp (config := { maxSteps := 4000000 }) only [go_sem, simprocAttr, ↓dnA, Try.f38, rows_length, encG, cellsI_impL, cellsI_impLB, cv, ctk, cellsI_one, hl, nn0, rows_get _ _ _ hl, hg, encS1, encS]
  repeat refine And.intro (by first | omega | (simp; done) | (simp; omega) | assumption) ?_
  refine semL_for tab_ok (fun i : Nat => ⟨43, [(1, .int .i64 n), (2, .loc 2 0), (5, .loc 5 0), (6, .row 13100 tw.length), (21, .sl none (rows encE (slotAt e n).res.reads)), (22, .int .i64 (slotAt e n).res.reads.length), (23, .int .i64 i)],
      [(2, .var (encG n1 n2 n3 n4 e)), (5, .var (cellsI v)), (13100, .row true false 1 (rows encI tw))]⟩) (fun i => (slotAt e n).res.reads.length - i)
    (fun i => i ≤ (slotAt e n).res.reads.length ∧ ∀ (j : Nat) (h : j < (slotAt e n).res.reads.length), j < i → (slotAt e n).res.reads[j].value = (seenB e n (slotAt e n).res.reads[j].key).1) 0 [(2, 2), (5, 5), (13100, 13100)] (Weak.of (by rfl) ?_ ?_ (by rfl)) ⟨by omega, fun j _ hj => by omega⟩ ?_
  · simp (config := { maxSteps := 4000000 }) only [go_sem, simprocAttr, ↓dnA, Try.f38, rows_length, encG, cellsI_wk, frW, wk2, wk1, wkL, wkB, hpW, List.mem_cons, Prod.mk.injEq, exists_eq_left, exists_eq_right, exists_eq]
    try exact of_eq_true (cellsI_wk _ v)
  · simp (config := { maxSteps := 4000000 }) only [go_sem, simprocAttr, ↓dnA, Try.f38, rows_length, encG, frW, wk2, wk1, wkL, wkB, hpW, List.mem_cons, Prod.mk.injEq, exists_eq_left, exists_eq_right, exists_eq]
  · rintro i ⟨hi, hp⟩
    by_cases h : i < (slotAt e n).res.reads.length
    · have hkr := hkm i h
      have hkb := readsA_bd ha hkr
      have hb1 := hkb.1
      have hb2 : (slotAt e n).res.reads[i].key < 32 := by omega
      have g1 := cellsI_at v (slotAt e n).res.reads[i].key hb1 (by omega) (slotAt e n).res.reads[i].key.toNat 1 rfl rfl
      rw [hvl _ hkr] at g1
      have hw : IntKind.i64.wrap ((i : Int) + 1) = ((i + 1 : Nat) : Int) := wsucc h (by omega)
      have hc1i := hc1 h
      have hpi : (slotAt e n).res.reads[i].value = (seenB e n (slotAt e n).res.reads[i].key).1 → ∀ (j : Nat) (h' : j < (slotAt e n).res.reads.length), j < i + 1 → (slotAt e n).res.reads[j].value = (seenB e n (slotAt e n).res.reads[j].key).1 := by
        intro hv j h' hj
        by_cases c : j < i
        · exact hp j h' c
        · have e1 : j = i := by omega
          subst e1; exact hv
      cases hv : ((seenB e n (slotAt e n).res.reads[i].key).1 != (slotAt e n).res.reads[i].value) with
      | true =>
        have hcf := hc1i (fun g => by rw [g] at hv; simp at hv)
        simp (config := { maxSteps := 4000000 }) only [go_sem, simprocAttr, ↓dnA, Try.f38, rows_length, encG, nlt h, h, rows_get _ _ _ h, encE, nn0, cv, hb1, hb2, g1, Nat.mul_one, hv, hcf]
        refine semL_draw tab_ok mixed_ rfl (ord := [(0, []), (1, []), (2, []), (3, []), (4, []), (5, []), (6, [])]) (by dsimp only; decide +kernel) ?_
        simp (config := { maxSteps := 4000000 }) only [go_sem, simprocAttr, ↓dnA, Try.f38, rows_length, encG, nlt h, h, rows_get _ _ _ h, encE, nn0, cv, hb1, hb2, g1, Nat.mul_one, hv, hcf]
        omega
      | false =>
        have hve0 : (seenB e n (slotAt e n).res.reads[i].key).1 = (slotAt e n).res.reads[i].value := by simpa using hv
        have hve := hpi hve0.symm
        simp (config := { maxSteps := 4000000 }) only [go_sem, simprocAttr, ↓dnA, Try.f38, rows_length, encG, nlt h, h, rows_get _ _ _ h, encE, nn0, cv, hb1, hb2, g1, Nat.mul_one, hv, hw]
        refine semL_draw tab_ok mixed_ rfl (ord := [(0, []), (1, []), (2, []), (3, []), (4, []), (5, []), (6, [])]) (by dsimp only; decide +kernel) ?_
        simp (config := { maxSteps := 4000000 }) only [go_sem, simprocAttr, ↓dnA, Try.f38, rows_length, encG, nlt h, h, rows_get _ _ _ h, encE, nn0, cv, hb1, hb2, g1, Nat.mul_one, hv, hw]
        repeat refine And.intro (by first | omega | (simp; done) | (simp; omega) | assumption) ?_
        refine ⟨i + 1, [(2, 2), (5, 5), (13100, 13100)], ⟨by omega, hve⟩, by dsimp only; omega, Weak.of (by rfl) ?_ ?_ (by rfl)⟩
        · simp (config := { maxSteps := 4000000 }) only [go_sem, simprocAttr, ↓dnA, Try.f38, rows_length, encG, cellsI_wk, frW, wk2, wk1, wkL, wkB, hpW, List.mem_cons, Prod.mk.injEq, exists_eq_left, exists_eq_right, exists_eq]
          try exact of_eq_true (cellsI_wk _ v)
        · simp (config := { maxSteps := 4000000 }) only [go_sem, simprocAttr, ↓dnA, Try.f38, rows_length, encG, frW, wk2, wk1, wkL, wkB, hpW, List.mem_cons, Prod.mk.injEq, exists_eq_left, exists_eq_right, exists_eq]
    · have hi' : i = (slotAt e n).res.reads.length := by omega
      subst hi'
      have hc2i := hc2 fun j hj => hp j hj hj
      simp (config := { maxSteps := 4000000 }) only [go_sem, simprocAttr, ↓dnA, Try.f38, rows_length, encG, nlf h, encS1, encS, hl, nn0, rows_get _ _ _ hl, hg]
      repeat refine And.intro (by first | omega | (simp; done) | (simp; omega) | assumption) ?_
      refine CallTo.det (c_slices_Equal_int none none tw (slotAt e n).fr htl (by omega)) fun _ => ?_
      simp (config := { maxSteps := 4000000 }) only [go_sem, simprocAttr, ↓dnA, Try.f38, rows_length, hc2i]


end Go.Proofs.Yteebkimhfaodnaa

/- Contracts: slots that can come to be (the program). -/
set_option linter.unusedSimpArgs false
set_option linter.unusedVariables false
set_option maxRecDepth 20000
set_option maxHeartbeats 4000000
namespace Go.Proofs.Yteebkimhfaodnaa
open Go Go.RowKit

theorem slotOk_0 {n : Int} {a : Action} {s : Slot} (h : (s.stage == 0) = true) : slotOk n a s = (inB s.tries 0 1000 && decide (s.fr = []) && decide (s.res = ⟨false, [], []⟩)) := by
  unfold slotOk; rw [if_pos (by simpa using h)]
theorem slotOk_1 {n : Int} {a : Action} {s : Slot} (h : (s.stage == 0) = false) : slotOk n a s = (inB s.stage 1 2 && inB s.tries 1 1000 && readsOk n a s && decide (runE a (slotV s) = s.res)) := by
  unfold slotOk; rw [if_neg (by simpa using h)]
theorem readsOk_no1 {n : Int} {a : Action} {s : Slot} (h : ((s.res.reads.length : Int) != ((readsA a).length : Int)) = true) : readsOk n a s = false := by
  rw [Bool.eq_false_iff]
  intro g
  unfold readsOk at g
  simp only [Bool.and_eq_true, decide_eq_true_eq] at g
  have := congrArg List.length g.1.1.1
  rw [List.length_map] at this
  rw [this] at h; simp at h
theorem readsOk_no2 {n : Int} {a : Action} {s : Slot} (h : ((s.fr.length : Int) != ((readsA a).length : Int)) = true) : readsOk n a s = false := by
  rw [Bool.eq_false_iff]
  intro g
  unfold readsOk at g
  simp only [Bool.and_eq_true, decide_eq_true_eq] at g
  rw [g.1.2] at h; simp at h
/-- One read of a slot. -/
def readOk1 (n : Int) (a : Action) (s : Slot) (i : Nat) : Bool := decide ((s.res.reads.getD i ⟨0, 0⟩).key = (readsA a).getD i 0) && inB (s.res.reads.getD i ⟨0, 0⟩).value 0 1000000 && inB (s.fr.getD i 0) (-1) (n - 1)
theorem getD_lt {α : Type} (l : List α) (d : α) {i : Nat} (h : i < l.length) : l.getD i d = l[i] := by
  rw [List.getD_eq_getElem?_getD, List.getElem?_eq_getElem h]; rfl
theorem readsOk_iff {n : Int} {a : Action} {s : Slot} (h1 : s.res.reads.length = (readsA a).length) (h2 : s.fr.length = (readsA a).length) : readsOk n a s = true ↔ ∀ i, i < (readsA a).length → readOk1 n a s i = true := by
  unfold readsOk readOk1
  simp only [Bool.and_eq_true, decide_eq_true_eq, List.all_eq_true]
  constructor
  · rintro ⟨⟨⟨g1, g2⟩, _⟩, g4⟩ i hi
    have hr : i < s.res.reads.length := by omega
    have hf : i < s.fr.length := by omega
    refine ⟨⟨?_, ?_⟩, ?_⟩
    · rw [← g1, getD_lt _ _ hr, getD_lt _ _ (by rw [List.length_map]; exact hr), List.getElem_map]
    · rw [getD_lt _ _ hr]; exact g2 _ (List.getElem_mem hr)
    · rw [getD_lt _ _ hf]; exact g4 _ (List.getElem_mem hf)
  · intro h
    refine ⟨⟨⟨?_, fun x hx => ?_⟩, h2⟩, fun w hw => ?_⟩
    · refine List.ext_getElem (by rw [List.length_map]; exact h1) fun i i1 i2 => ?_
      have := (h i i2).1.1
      rw [List.length_map] at i1
      rw [getD_lt _ _ i1, getD_lt _ _ i2] at this
      rw [List.getElem_map]; exact this
    · obtain ⟨i, hi, rfl⟩ := List.getElem_of_mem hx
      have := (h i (by omega)).1.2
      rwa [getD_lt _ _ hi] at this
    · obtain ⟨i, hi, rfl⟩ := List.getElem_of_mem hw
      have := (h i (by omega)).2
      rwa [getD_lt _ _ hi] at this
theorem readsOk_no {n : Int} {a : Action} {s : Slot} (h1 : s.res.reads.length = (readsA a).length) (h2 : s.fr.length = (readsA a).length) {i : Nat} (hi : i < (readsA a).length) (h : readOk1 n a s i = false) : readsOk n a s = false := by
  rw [Bool.eq_false_iff]
  intro g
  rw [(readsOk_iff h1 h2).1 g i hi] at h; cases h

theorem c_impl_slotRight (n1 n2 n3 n4 : Option Bool) (e : Engine) (n : Nat) (hs : EngSz (2 ^ 32) e) (hn : n < e.list.length) (hl : n < e.slots.length) (hnb : n < 1000) (ha : ActOk (actAt e n)) :
    Det Try.prog 35 [.agg (encG n1 n2 n3 n4 e), .int .i64 n] (.bool (slotOk n (actAt e n) (slotAt e n))) := by
  refine fspec_det tab_ok Try.call35 Try.func35 rfl 115 Try.ntmps35 (of_decide_eq_true rfl) fun B => codeK_sound tab_ok _ _ _ ?_
  have hg : e.slots[n] = slotAt e n := (slotAt_lt hl).symm
  have hga : e.list[n] = actAt e n := (actAt_lt hn).symm
  have hsz := hs.each _ (List.getElem_mem hl)
  rw [hg] at hsz
  have hr1 := hsz.reads
  have hr2 := hsz.fr
  have hr3 := hsz.writes
  have hra := readsA_len (actAt e n)
  generalize slotAt e n = s at hg hr1 hr2 hr3
  cases c0 : (s.stage == 0) with
  | true =>
    rw [slotOk_0 c0]
    simp (config := { maxSteps := 4000000 }) only [go_sem, simprocAttr, ↓dnA, Try.f35, rows_length, encG, hl, nn0, rows_get _ _ _ hl, hg, encS1, encS, c0]
    repeat refine And.intro (by first | omega | (simp; done) | (simp; omega) | assumption) ?_
    refine CallTo.det (c_in _ _ _) fun _ => ?_
    cases c1 : inB s.tries 0 1000 with
    | false => simp (config := { maxSteps := 4000000 }) only [go_sem, simprocAttr, ↓dnA, Try.f35, rows_length, encG, c0, c1, Bool.false_and]
    | true =>
      cases c2 : ((s.fr.length : Int) == 0) with
      | false =>
        have e2 : decide (s.fr = []) = false := decide_eq_false fun h => by rw [h] at c2; simp at c2
        rw [e2]
        simp (config := { maxSteps := 4000000 }) only [go_sem, simprocAttr, ↓dnA, Try.f35, rows_length, encG, c0, c1, c2, Bool.true_and, Bool.false_and]
      | true =>
        have e2 : decide (s.fr = []) = true := decide_eq_true (by have : s.fr.length = 0 := by simpa using c2
                                                                  exact List.length_eq_zero_iff.1 this)
        rw [e2]
        simp (config := { maxSteps := 4000000 }) only [go_sem, simprocAttr, ↓dnA, Try.f35, rows_length, encG, c0, c1, c2, Bool.true_and]
        refine CallTo.det (c_impl_Effect_same none none (some false) (some false) s.res ⟨false, [], []⟩ (by omega) (by omega) (by decide) (by decide)) fun _ => ?_
        simp (config := { maxSteps := 4000000 }) only [go_sem, simprocAttr, ↓dnA, Try.f35, rows_length, encG, c0, c1, c2, Bool.true_and]
  | false =>
    rw [slotOk_1 c0]
    simp (config := { maxSteps := 4000000 }) only [go_sem, simprocAttr, ↓dnA, Try.f35, rows_length, encG, hl, hn, nn0, rows_get _ _ _ hl, rows_get _ _ _ hn, hg, hga, encS1, encS, encA, c0]
    repeat refine And.intro (by first | omega | (simp; done) | (simp; omega) | assumption) ?_
    refine CallTo.det (c_impl_reads (actAt e n)) fun _ => ?_
    simp (config := { maxSteps := 4000000 }) only [go_sem, simprocAttr, ↓dnA, Try.f35, rows_length, encG, c0, encS]
    refine CallTo.det (c_in _ _ _) fun _ => ?_
    cases c1 : inB s.stage 1 2 with
    | false => simp (config := { maxSteps := 4000000 }) only [go_sem, simprocAttr, ↓dnA, Try.f35, rows_length, encG, c0, c1, Bool.false_and]
    | true =>
      simp (config := { maxSteps := 4000000 }) only [go_sem, simprocAttr, ↓dnA, Try.f35, rows_length, encG, c0, c1, encS]
      refine CallTo.det (c_in _ _ _) fun _ => ?_
      cases c2 : inB s.tries 1 1000 with
      | false => simp (config := { maxSteps := 4000000 }) only [go_sem, simprocAttr, ↓dnA, Try.f35, rows_length, encG, c0, c1, c2, Bool.false_and, Bool.true_and]
      | true =>
        cases c3 : ((s.res.reads.length : Int) != ((readsA (actAt e n)).length : Int)) with
        | true =>
          have hno := readsOk_no1 (n := n) (a := actAt e n) c3
          simp (config := { maxSteps := 4000000 }) only [go_sem, simprocAttr, ↓dnA, Try.f35, rows_length, encG, c0, c1, c2, c3, hno, Bool.false_and, Bool.true_and]
        | false =>
          cases c4 : ((s.fr.length : Int) != ((readsA (actAt e n)).length : Int)) with
          | true =>
            have hno := readsOk_no2 (n := n) (a := actAt e n) c4
            simp (config := { maxSteps := 4000000 }) only [go_sem, simprocAttr, ↓dnA, Try.f35, rows_length, encG, c0, c1, c2, c3, c4, hno, Bool.false_and, Bool.true_and]
          | false =>
            have l1 : s.res.reads.length = (readsA (actAt e n)).length := by have : (s.res.reads.length : Int) = ((readsA (actAt e n)).length : Int) := by simpa using c3
                                                                             omega
            have l2 : s.fr.length = (readsA (actAt e n)).length := by have : (s.fr.length : Int) = ((readsA (actAt e n)).length : Int) := by simpa using c4
                                                                      omega
            have hyes := readsOk_iff (n := n) (a := actAt e n) l1 l2
            have hno := fun {i : Nat} hi => readsOk_no (n := n) (a := actAt e n) l1 l2 (i := i) hi
            simp (config := { maxSteps := 4000000 }) only [go_sem, simprocAttr, ↓dnA, Try.f35, rows_length, encG, c0, c1, c2, c3, c4, encS, Bool.true_and]
            refine semL_for tab_ok (fun i : Nat => ⟨115, [(1, .int .i64 n), (2, .loc 2 0), (5, .loc 5 0), (6, .row 39000 (readsA (actAt e n)).length), (7, .loc 7 0), (68, .sl none (rows encE s.res.reads)), (69, .int .i64 s.res.reads.length), (70, .int .i64 i)],
                [(2, .var (encG n1 n2 n3 n4 e)), (5, .var (encS none none none s)), (39000, .row true false 1 (rows encI (readsA (actAt e n)))), (7, .var (cellsI (applyW zeros32 (s.res.reads.take i))))]⟩) (fun i => (readsA (actAt e n)).length - i)
              (fun i => i ≤ (readsA (actAt e n)).length ∧ (applyW zeros32 (s.res.reads.take i)).length = 32 ∧ ∀ j, j < i → readOk1 n (actAt e n) s j = true) 0 [(2, 2), (5, 5), (39000, 39000), (7, 7)] (Weak.of (by rfl) ?_ ?_ (by rfl)) ⟨by omega, rfl, fun j hj => by omega⟩ ?_
            · simp (config := { maxSteps := 4000000 }) only [go_sem, simprocAttr, ↓dnA, Try.f35, rows_length, encG, encS, frW, wk2, wk1, wkL, wkB, hpW, List.mem_cons, Prod.mk.injEq, exists_eq_left, exists_eq_right, exists_eq]
              exact of_eq_true (cellsI_wk _ zeros32)
            · simp (config := { maxSteps := 4000000 }) only [go_sem, simprocAttr, ↓dnA, Try.f35, rows_length, encG, encS, frW, wk2, wk1, wkL, wkB, hpW, List.mem_cons, Prod.mk.injEq, exists_eq_left, exists_eq_right, exists_eq]
            · rintro i ⟨hi, hvl, hp⟩
              by_cases h : i < (readsA (actAt e n)).length
              · have hri : i < s.res.reads.length := by omega
                have hfi : i < s.fr.length := by omega
                have hno1 := hno h
                have hst := applyW_take zeros32 s.res.reads i hri
                have hkb := readsA_bd ha (List.getElem_mem h)
                have hw : IntKind.i64.wrap ((i : Int) + 1) = ((i + 1 : Nat) : Int) := wsucc h (by omega)
                have hwn : IntKind.i64.wrap ((n : Int) - 1) = (n : Int) - 1 := wrap_small _ (by omega) (by omega)
                have hps : readOk1 n (actAt e n) s i = true → ∀ j, j < i + 1 → readOk1 n (actAt e n) s j = true := by
                  intro g j hj
                  by_cases c : j < i
                  · exact hp j c
                  · rw [show j = i by omega]; exact g
                have hr1i : readOk1 n (actAt e n) s i = (decide (s.res.reads[i].key = (readsA (actAt e n))[i]) && inB s.res.reads[i].value 0 1000000 && inB s.fr[i] (-1) (n - 1)) := by
                  unfold readOk1; rw [getD_lt _ _ hri, getD_lt _ _ hfi, getD_lt _ _ h]
                generalize applyW zeros32 (s.res.reads.take i) = v at hst hvl
                have cv : (cellsI v).length = 32 := by rw [cellsI_length, hvl]
                cases d1 : (s.res.reads[i].key != (readsA (actAt e n))[i]) with
                | true =>
                  have e1 : decide (s.res.reads[i].key = (readsA (actAt e n))[i]) = false := decide_eq_false fun g => by rw [g] at d1; simp at d1
                  have hf := hno1 (by rw [hr1i, e1]; rfl)
                  simp (config := { maxSteps := 4000000 }) only [go_sem, simprocAttr, ↓dnA, Try.f35, rows_length, encG, encS, nlt h, nlt hri, h, hri, hfi, rows_get _ _ _ h, rows_get _ _ _ hri, rows_get _ _ _ hfi, encE, encI, nn0, d1, hf, Bool.false_and]
                  refine semL_draw tab_ok mixed_ rfl (ord := [(0, []), (1, []), (2, []), (3, []), (4, []), (5, []), (6, []), (7, []), (8, []), (9, []), (10, []), (11, []), (12, []), (13, []), (14, []), (15, []), (16, []), (17, []), (18, []), (19, []), (20, []), (21, []), (22, []), (23, [])]) (by dsimp only; decide +kernel) ?_
                  simp (config := { maxSteps := 4000000 }) only [go_sem, simprocAttr, ↓dnA, Try.f35, rows_length, encG, encS, nlt h, nlt hri, h, hri, hfi, rows_get _ _ _ h, rows_get _ _ _ hri, rows_get _ _ _ hfi, encE, encI, nn0, d1, hf, Bool.false_and]
                | false =>
                  have k1 : s.res.reads[i].key = (readsA (actAt e n))[i] := by simpa using d1
                  have e1 := decide_eq_true k1
                  simp (config := { maxSteps := 4000000 }) only [go_sem, simprocAttr, ↓dnA, Try.f35, rows_length, encG, encS, nlt h, nlt hri, h, hri, hfi, rows_get _ _ _ h, rows_get _ _ _ hri, rows_get _ _ _ hfi, encE, encI, nn0, d1]
                  refine semL_draw tab_ok mixed_ rfl (ord := [(0, []), (1, []), (2, []), (3, []), (4, []), (5, []), (6, []), (7, []), (8, []), (9, []), (10, []), (11, []), (12, []), (13, []), (14, []), (15, []), (16, []), (17, []), (18, []), (19, []), (20, []), (21, []), (22, []), (23, [])]) (by dsimp only; decide +kernel) ?_
                  simp (config := { maxSteps := 4000000 }) only [go_sem, simprocAttr, ↓dnA, Try.f35, rows_length, encG, encS, nlt h, nlt hri, h, hri, hfi, rows_get _ _ _ h, rows_get _ _ _ hri, rows_get _ _ _ hfi, encE, encI, nn0, d1]
                  refine CallTo.det (c_impl_isValue _) fun _ => ?_
                  cases d2 : inB s.res.reads[i].value 0 1000000 with
                  | false =>
                    have hf := hno1 (by rw [hr1i, e1, d2]; rfl)
                    simp (config := { maxSteps := 4000000 }) only [go_sem, simprocAttr, ↓dnA, Try.f35, rows_length, encG, encS, nlt h, nlt hri, h, hri, hfi, rows_get _ _ _ h, rows_get _ _ _ hri, rows_get _ _ _ hfi, encE, encI, nn0, d1, d2, hf, Bool.false_and]
                  | true =>
                    simp (config := { maxSteps := 4000000 }) only [go_sem, simprocAttr, ↓dnA, Try.f35, rows_length, encG, encS, nlt h, nlt hri, h, hri, hfi, rows_get _ _ _ h, rows_get _ _ _ hri, rows_get _ _ _ hfi, encE, encI, nn0, d1, d2, hwn]
                    repeat refine And.intro (by first | omega | (simp; done) | (simp; omega) | assumption) ?_
                    refine CallTo.det (c_in _ _ _) fun _ => ?_
                    cases d3 : inB s.fr[i] (-1) ((n : Int) - 1) with
                    | false =>
                      have hf := hno1 (by rw [hr1i, e1, d2, d3]; rfl)
                      simp (config := { maxSteps := 4000000 }) only [go_sem, simprocAttr, ↓dnA, Try.f35, rows_length, encG, encS, nlt h, nlt hri, h, hri, hfi, rows_get _ _ _ h, rows_get _ _ _ hri, rows_get _ _ _ hfi, encE, encI, nn0, d1, d2, d3, hwn, hf, Bool.false_and]
                    | true =>
                      have hall := hps (by rw [hr1i, e1, d2, d3]; rfl)
                      have hb1 : 0 ≤ s.res.reads[i].key := by rw [k1]; exact hkb.1
                      have hb2 : s.res.reads[i].key < 32 := by rw [k1]; omega
                      simp (config := { maxSteps := 4000000 }) only [go_sem, simprocAttr, ↓dnA, Try.f35, rows_length, encG, encS, nlt h, nlt hri, h, hri, hfi, rows_get _ _ _ h, rows_get _ _ _ hri, rows_get _ _ _ hfi, encE, encI, nn0, d1, d2, d3, hwn, cv, cellsI_set, hb1, hb2, Nat.mul_one, hw, show ¬ (1 = 32) by decide]
                      repeat refine And.intro (by first | omega | (simp; done) | (simp; omega) | assumption) ?_
                      refine ⟨i + 1, [(2, 2), (5, 5), (39000, 39000), (7, 7)], ⟨by omega, by rw [hst]; unfold putV; rw [List.length_set]; exact hvl, hall⟩, by dsimp only; omega, Weak.of (by rfl) ?_ ?_ (by rfl)⟩
                      · simp (config := { maxSteps := 4000000 }) only [go_sem, simprocAttr, ↓dnA, Try.f35, rows_length, encG, encS, cellsI_wk, hst, putV, frW, wk2, wk1, wkL, wkB, hpW, List.mem_cons, Prod.mk.injEq, exists_eq_left, exists_eq_right, exists_eq]
                        try exact of_eq_true (cellsI_wk _ _)
                      · simp (config := { maxSteps := 4000000 }) only [go_sem, simprocAttr, ↓dnA, Try.f35, rows_length, encG, encS, frW, wk2, wk1, wkL, wkB, hpW, List.mem_cons, Prod.mk.injEq, exists_eq_left, exists_eq_right, exists_eq]

              · have hi' : i = (readsA (actAt e n)).length := by omega
                have hri : ¬ i < s.res.reads.length := by omega
                have hro : readsOk n (actAt e n) s = true := hyes.2 fun j hj => hp j (by omega)
                have htk : s.res.reads.take i = s.res.reads := List.take_of_length_le (by omega)
                have hsv := slotV_ok ha hro
                rw [htk] at hvl ⊢
                have hsvd : applyW zeros32 s.res.reads = slotV s := rfl
                rw [hsvd] at hvl ⊢
                have hrw := c_impl_run (actAt e n) (slotV s) ha hsv
                have hwl := runE_wlen (actAt e n) (slotV s)
                have hrl : (runE (actAt e n) (slotV s)).reads.length ≤ 2 := by unfold runE; dsimp only; rw [List.length_map]; exact hra
                rw [hro]
                generalize runE (actAt e n) (slotV s) = r at hrw hwl hrl
                generalize slotV s = v at hvl hrw
                have cv : (cellsI v).length = 32 := by rw [cellsI_length, hvl]
                have ctk := cellsI_take _ 32 hvl
                simp (config := { maxSteps := 4000000 }) only [go_sem, simprocAttr, ↓dnA, Try.f35, rows_length, encG, encS, nlf hri]
                refine semL_draw tab_ok mixed_ rfl (ord := [(0, []), (1, []), (2, []), (3, []), (4, []), (5, []), (7, []), (8, []), (6, [7, 8]), (9, []), (10, [])]) (by dsimp only; decide +kernel) ?_
                simp (config := { maxSteps := 4000000 }) only [go_sem, simprocAttr, ↓dnA, Try.f35, rows_length, encG, encS, nlf hri, hn, nn0, rows_get _ _ _ hn, hga, encA, cv, ctk, cellsI_noT, cellsI_argL, cellsI_one]
                repeat refine And.intro (by first | omega | (simp; done) | (simp; omega) | assumption) ?_
                refine CallTo.det hrw fun _ => ?_
                simp (config := { maxSteps := 4000000 }) only [go_sem, simprocAttr, ↓dnA, Try.f35, rows_length, encG, encS, nlf hri, hn, nn0, rows_get _ _ _ hn, hga, encA, cv, ctk, cellsI_noT, cellsI_argL, cellsI_one, encFO]
                refine CallTo.det (c_impl_Effect_same none none none none r s.res (by omega) (by omega) (by omega) (by omega)) fun _ => ?_
                simp (config := { maxSteps := 4000000 }) only [go_sem, simprocAttr, ↓dnA, Try.f35, rows_length, encG, encS, Bool.true_and]



end Go.Proofs.Yteebkimhfaodnaa

/- Contracts: what an action of an engine reads now (the reference). -/
set_option linter.unusedSimpArgs false
set_option linter.unusedVariables false
set_option maxRecDepth 20000
set_option maxHeartbeats 4000000
namespace Go.Proofs.Yteebkimhfaodnaa
open Go Go.RowKit

def seenOk (e : Engine) (n : Int) (s : Slot) (i : Nat) : Bool := ((seenB e n (s.res.reads.getD i ⟨0, 0⟩).key).1 == (s.res.reads.getD i ⟨0, 0⟩).value) && ((seenB e n (s.res.reads.getD i ⟨0, 0⟩).key).2 == s.fr.getD i 0)
theorem current_all {e : Engine} {n : Int} {a : Action} {s : Slot} (hk : s.res.reads.map Entry.key = readsA a) (hf : s.fr.length = s.res.reads.length) : currentE e n a s = true ↔ ∀ i, i < s.res.reads.length → seenOk e n s i = true := by
  rw [current_iff hk, tryW_reads hk]
  unfold seenOk
  simp only [Bool.and_eq_true, beq_iff_eq]
  constructor
  · rintro ⟨h1, h2⟩ i hi
    rw [getD_lt _ _ hi, getD_lt _ _ (by omega)]
    refine ⟨(h1 i hi).symm, ?_⟩
    have h3 : i < (s.res.reads.map fun x => (seenB e n x.key).2).length := by rw [List.length_map]; exact hi
    have h4 : s.fr[i] = (s.res.reads.map fun x => (seenB e n x.key).2)[i] := by congr 1
    rw [h4, List.getElem_map]
  · intro h
    refine ⟨fun i hi => ?_, List.ext_getElem (by rw [List.length_map]; exact hf) fun i h1 h2 => ?_⟩
    · have := (h i hi).1
      rw [getD_lt _ _ hi] at this; exact this.symm
    · have := (h i (by omega)).2
      rw [getD_lt _ _ (by omega), getD_lt _ _ h1] at this
      rw [List.getElem_map]; exact this.symm
theorem current_not {e : Engine} {n : Int} {a : Action} {s : Slot} (hk : s.res.reads.map Entry.key = readsA a) (hf : s.fr.length = s.res.reads.length) {i : Nat} (hi : i < s.res.reads.length) (h : seenOk e n s i = false) : currentE e n a s = false := by
  rw [Bool.eq_false_iff]
  intro g
  rw [(current_all hk hf).1 g i hi] at h; cases h

theorem c_spec_l10Same (n1 n2 n3 n4 : Option Bool) (e : Engine) (n : Nat) (hs : EngSz (2 ^ 32) e) (hl : n < e.slots.length) (hk : (slotAt e n).res.reads.map Entry.key = readsA (actAt e n)) (hf : (slotAt e n).fr.length = (slotAt e n).res.reads.length) :
    Det Try.prog 76 [.agg (encG n1 n2 n3 n4 e), .int .i64 n] (.bool (currentE e n (actAt e n) (slotAt e n))) := by
  refine fspec_det tab_ok Try.call76 Try.func76 rfl 56 Try.ntmps76 (of_decide_eq_true rfl) fun B => codeK_sound tab_ok _ _ _ ?_
  have hg : e.slots[n] = slotAt e n := (slotAt_lt hl).symm
  have hsz := hs.each _ (List.getElem_mem hl)
  rw [hg] at hsz
  have hr1 := hsz.reads
  have hr2 := hsz.fr
  have hb1 := hs.base
  have hb2 := hs.versions
  have hyes := current_all (e := e) (n := n) hk hf
  have hno := fun {i : Nat} hi => current_not (e := e) (n := n) hk hf (i := i) hi
  have hrd := fun k => c_spec_l9Read n1 n3 e.base e.versions k n hb1 hb2
  change ∀ k, Det _ _ _ (.tup [.int .i64 (seenB e n k).1, .int .i64 (seenB e n k).2]) at hrd
  generalize currentE e n (actAt e n) (slotAt e n) = cb at hyes hno
  generalize slotAt e n = s at hg hf hr1 hr2 hyes hno
  simp (config := { maxSteps := 4000000 }) only [go_sem, simprocAttr, ↓dnA, Try.f76, rows_length, encG, hl, nn0, rows_get _ _ _ hl, hg, encS1, encS]
  repeat refine And.intro (by first | omega | (simp; done) | (simp; omega) | assumption) ?_
  refine semL_for tab_ok (fun i : Nat => ⟨56, [(1, .int .i64 n), (2, .loc 2 0), (5, .loc 5 0), (6, .int .i64 i)],
      [(2, .var (encG n1 n2 n3 n4 e)), (5, .var (encS none none none s))]⟩) (fun i => s.res.reads.length - i)
    (fun i => i ≤ s.res.reads.length ∧ ∀ j, j < i → seenOk e n s j = true) 0 [(2, 2), (5, 5)] (Weak.of (by rfl) ?_ ?_ (by rfl)) ⟨by omega, fun j hj => by omega⟩ ?_
  · simp (config := { maxSteps := 4000000 }) only [go_sem, simprocAttr, ↓dnA, Try.f76, rows_length, encG, encS, frW, wk2, wk1, wkL, wkB, hpW, List.mem_cons, Prod.mk.injEq, exists_eq_left, exists_eq_right, exists_eq]
    try rfl
  · simp (config := { maxSteps := 4000000 }) only [go_sem, simprocAttr, ↓dnA, Try.f76, rows_length, encG, encS, frW, wk2, wk1, wkL, wkB, hpW, List.mem_cons, Prod.mk.injEq, exists_eq_left, exists_eq_right, exists_eq]
  · rintro i ⟨hi, hp⟩
    by_cases h : i < s.res.reads.length
    · have hfi : i < s.fr.length := by omega
      have hno1 := hno h
      have hw : IntKind.i64.wrap ((i : Int) + 1) = ((i + 1 : Nat) : Int) := wsucc h (by omega)
      have hso : seenOk e n s i = (((seenB e n s.res.reads[i].key).1 == s.res.reads[i].value) && ((seenB e n s.res.reads[i].key).2 == s.fr[i])) := by
        unfold seenOk; rw [getD_lt _ _ h, getD_lt _ _ hfi]
      have hps : seenOk e n s i = true → ∀ j, j < i + 1 → seenOk e n s j = true := by
        intro g j hj
        by_cases c : j < i
        · exact hp j c
        · rw [show j = i by omega]; exact g
      simp (config := { maxSteps := 4000000 }) only [go_sem, simprocAttr, ↓dnA, Try.f76, rows_length, encG, encS, nlt h, h]
      refine semL_draw tab_ok mixed_ rfl (ord := [(0, []), (1, []), (2, []), (3, []), (4, []), (5, []), (6, []), (7, []), (8, []), (9, []), (10, []), (11, []), (12, []), (13, []), (14, []), (15, []), (16, []), (17, [])]) (by dsimp only; decide +kernel) ?_
      simp (config := { maxSteps := 4000000 }) only [go_sem, simprocAttr, ↓dnA, Try.f76, rows_length, encG, encS, nlt h, h, rows_get _ _ _ h, encE, nn0]
      repeat refine And.intro (by first | omega | (simp; done) | (simp; omega) | assumption) ?_
      refine CallTo.det (hrd _) fun _ => ?_
      cases d1 : ((seenB e n s.res.reads[i].key).1 != s.res.reads[i].value) with
      | true =>
        have hcf := hno1 (by rw [hso]; have : ((seenB e n s.res.reads[i].key).1 == s.res.reads[i].value) = false := by simpa using d1
                             rw [this]; rfl)
        simp (config := { maxSteps := 4000000 }) only [go_sem, simprocAttr, ↓dnA, Try.f76, rows_length, encG, encS, nlt h, h, rows_get _ _ _ h, encE, nn0, d1, hcf]
      | false =>
        have k1 : ((seenB e n s.res.reads[i].key).1 == s.res.reads[i].value) = true := by simpa using d1
        cases d2 : ((seenB e n s.res.reads[i].key).2 != s.fr[i]) with
        | true =>
          have hcf := hno1 (by rw [hso, k1]; have : ((seenB e n s.res.reads[i].key).2 == s.fr[i]) = false := by simpa using d2
                               rw [this]; rfl)
          simp (config := { maxSteps := 4000000 }) only [go_sem, simprocAttr, ↓dnA, Try.f76, rows_length, encG, encS, nlt h, h, hfi, rows_get _ _ _ h, rows_get _ _ _ hfi, encE, encI, nn0, d1, d2, hcf]
          omega
        | false =>
          have k2 : ((seenB e n s.res.reads[i].key).2 == s.fr[i]) = true := by simpa using d2
          have hall := hps (by rw [hso, k1, k2]; rfl)
          simp (config := { maxSteps := 4000000 }) only [go_sem, simprocAttr, ↓dnA, Try.f76, rows_length, encG, encS, nlt h, h, hfi, rows_get _ _ _ h, rows_get _ _ _ hfi, encE, encI, nn0, d1, d2, hw]
          repeat refine And.intro (by first | omega | (simp; done) | (simp; omega) | assumption) ?_
          refine ⟨i + 1, [(2, 2), (5, 5)], ⟨by omega, hall⟩, by dsimp only; omega, Weak.of (by rfl) ?_ ?_ (by rfl)⟩
          · simp (config := { maxSteps := 4000000 }) only [go_sem, simprocAttr, ↓dnA, Try.f76, rows_length, encG, encS, frW, wk2, wk1, wkL, wkB, hpW, List.mem_cons, Prod.mk.injEq, exists_eq_left, exists_eq_right, exists_eq]
            try rfl
          · simp (config := { maxSteps := 4000000 }) only [go_sem, simprocAttr, ↓dnA, Try.f76, rows_length, encG, encS, frW, wk2, wk1, wkL, wkB, hpW, List.mem_cons, Prod.mk.injEq, exists_eq_left, exists_eq_right, exists_eq]
    · have hi' : i = s.res.reads.length := by omega
      subst hi'
      have hct := hyes.2 hp
      simp (config := { maxSteps := 4000000 }) only [go_sem, simprocAttr, ↓dnA, Try.f76, rows_length, encG, encS, nlf h, hct]


theorem c_spec_l10Try (n1 n3 : Option Bool) (e : Engine) (n : Nat) (a : Action) (hs : e.base.length < 2 ^ 32) (hv : e.versions.length < 2 ^ 32) (ha : actionValid a = true)
    (hb : ∀ k, 0 ≤ (seenB e n k).1 ∧ (seenB e n k).1 ≤ 1000000) :
    Det Try.prog 78 [.sl n1 (rows encE e.base), .agg (encA a), .sl n3 (rows encR e.versions), .int .i64 n] (.tup [.agg (encFO (tryE e n a)), .osl true 1 (rows encI (tryW e n a))]) := by
  refine fspec_det tab_ok Try.call78 Try.func78 rfl 66 Try.ntmps78 (of_decide_eq_true rfl) fun B => codeK_sound tab_ok _ _ _ ?_
  have hrd := fun k => c_spec_l9Read n1 n3 e.base e.versions k n hs hv
  change ∀ k, Det _ _ _ (.tup [.int .i64 (seenB e n k).1, .int .i64 (seenB e n k).2]) at hrd
  have hra := readsA_len a
  simp (config := { maxSteps := 4000000 }) only [go_sem, simprocAttr, ↓dnA, Try.f78, rows_length, encA]
  refine CallTo.det (hrd _) fun _ => ?_
  simp (config := { maxSteps := 4000000 }) only [go_sem, simprocAttr, ↓dnA, Try.f78, rows_length, encA]
  refine CallTo.det (hrd _) fun _ => ?_
  simp (config := { maxSteps := 4000000 }) only [go_sem, simprocAttr, ↓dnA, Try.f78, rows_length, encA]
  refine CallTo.det (c_spec_ActionReads a ha) fun _ => ?_
  simp (config := { maxSteps := 4000000 }) only [go_sem, simprocAttr, ↓dnA, Try.f78, rows_length, encA]
  unfold tryW
  have hl6 := c_spec_l6Run a (seenB e n a.fr).1 (seenB e n a.to).1 ha (hb _) (hb _)
  change Det _ _ _ (.agg (encFO (tryE e n a))) at hl6
  generalize readsA a = rs at hra
  refine semL_for tab_ok (fun i : Nat => ⟨66, [(0, .sl n1 (rows encE e.base)), (2, .sl n3 (rows encR e.versions)), (3, .int .i64 n), (5, .loc 5 0), (8, .loc 8 0), (10, .int .i64 (seenB e n a.fr).1), (12, .int .i64 (seenB e n a.to).1), (14, .row 600 i), (15, .row 40000 rs.length), (16, .int .i64 i)],
      [(40000, .row true true 1 (rows encI rs)), (600, .row true true 1 (rows encI ((rs.take i).map fun k => (seenB e n k).2))), (8, .var [.bool false, .sl (some false) [], .sl (some false) []]), (5, .var (encA a))]⟩) (fun i => rs.length - i)
    (fun i => i ≤ rs.length) 0 [(40000, 40000), (37, 600), (8, 8), (5, 5)] (Weak.of (by rfl) ?_ ?_ (by rfl)) (by omega) ?_
  · simp (config := { maxSteps := 4000000 }) only [go_sem, simprocAttr, ↓dnA, Try.f78, rows_length, encA, frW, wk2, wk1, wkL, wkB, hpW, List.mem_cons, Prod.mk.injEq, exists_eq_left, exists_eq_right, exists_eq]
    try rfl
  · simp (config := { maxSteps := 4000000 }) only [go_sem, simprocAttr, ↓dnA, Try.f78, rows_length, encA, frW, wk2, wk1, wkL, wkB, hpW, List.mem_cons, Prod.mk.injEq, exists_eq_left, exists_eq_right, exists_eq]
    try rfl
  · rintro i hi
    by_cases h : i < rs.length
    · have hl : min i rs.length = i := by omega
      have htk : (rows encI ((rs.take i).map fun k => (seenB e n k).2)).take i = rows encI ((rs.take i).map fun k => (seenB e n k).2) := by
        rw [List.take_of_length_le]; rw [rows_length, List.length_map, List.length_take]; omega
      have hw : IntKind.i64.wrap ((i : Int) + 1) = ((i + 1 : Nat) : Int) := wsucc h (by omega)
      simp (config := { maxSteps := 4000000 }) only [go_sem, simprocAttr, ↓dnA, Try.f78, rows_length, encA, nlt h, h, rows_get _ _ _ h, encI, nn0]
      repeat refine And.intro (by first | omega | (simp; done) | (simp; omega) | assumption) ?_
      refine CallTo.det (hrd _) fun _ => ?_
      simp (config := { maxSteps := 4000000 }) only [go_sem, simprocAttr, ↓dnA, Try.f78, rows_length, encA, nlt h, h, rows_get _ _ _ h, encI, nn0, List.length_map, List.length_take, hl, htk, hw]
      repeat refine And.intro (by first | omega | (simp; done) | (simp; omega) | assumption) ?_
      refine ⟨i + 1, [(40000, 40000), (60, 600), (8, 8), (5, 5)], by omega, by dsimp only; omega, Weak.of (by rfl) ?_ ?_ (by rfl)⟩
      · simp (config := { maxSteps := 4000000 }) only [go_sem, simprocAttr, ↓dnA, Try.f78, rows_length, encA, frW, wk2, wk1, wkL, wkB, hpW, List.mem_cons, Prod.mk.injEq, exists_eq_left, exists_eq_right, exists_eq]
        rw [take_snoc _ _ h, List.map_append, List.map_singleton, ← rows_snoc]
        try rfl
      · simp (config := { maxSteps := 4000000 }) only [go_sem, simprocAttr, ↓dnA, Try.f78, rows_length, encA, frW, wk2, wk1, wkL, wkB, hpW, List.mem_cons, Prod.mk.injEq, exists_eq_left, exists_eq_right, exists_eq]
    · have hi' : i = rs.length := by omega
      subst hi'
      simp (config := { maxSteps := 4000000 }) only [go_sem, simprocAttr, ↓dnA, Try.f78, rows_length, encA, nlf h, List.take_length]
      refine CallTo.det hl6 fun _ => ?_
      generalize tryE e n a = r
      simp (config := { maxSteps := 4000000 }) only [go_sem, simprocAttr, ↓dnA, Try.f78, rows_length, encA, encFO, List.take_length, List.length_map]


end Go.Proofs.Yteebkimhfaodnaa

/- Contracts: slots that can come to be (the reference). -/
set_option linter.unusedSimpArgs false
set_option linter.unusedVariables false
set_option maxRecDepth 20000
set_option maxHeartbeats 4000000
namespace Go.Proofs.Yteebkimhfaodnaa
open Go Go.RowKit

/-- What the reference takes as the values of From and To. -/
def seekF (k : Int) (rs : List Entry) (x : Int) : Int := rs.foldl (fun x e => if e.key = k then e.value else x) x
theorem seekF_take (k : Int) (rs : List Entry) (x : Int) (i : Nat) (h : i < rs.length) : seekF k (rs.take (i + 1)) x = if rs[i].key = k then rs[i].value else seekF k (rs.take i) x := by
  unfold seekF
  rw [take_snoc _ _ h, List.foldl_append]
  rfl
theorem seekF_val {k : Int} : ∀ (rs : List Entry) {v : List Int} (x : Int), v.length = 32 → (∀ w, w ∈ rs → 0 ≤ w.key ∧ w.key ≤ 31) → 0 ≤ k → valK v k = x → valK (applyW v rs) k = seekF k rs x
  | [], v, x, _, _, _, hx => hx
  | w :: r, v, x, hv, hb, hk, hx => by
    show valK (applyW (putV v w) r) k = seekF k r (if w.key = k then w.value else x)
    refine seekF_val r _ (by unfold putV; rw [List.length_set]; exact hv) (fun y hy => hb y (List.mem_cons_of_mem _ hy)) hk ?_
    rw [valK_put hv w (hb w (List.mem_cons_self ..)) k hk, hx]
    by_cases c : k = w.key
    · rw [if_pos c, if_pos c.symm]
    · rw [if_neg c, if_neg (fun g => c g.symm)]
theorem zeros_val (k : Int) : valK zeros32 k = 0 := by
  unfold valK
  by_cases h : k.toNat < 32
  · have : ∀ j : Fin 32, zeros32.getD j.val 0 = 0 := by decide
    exact this ⟨k.toNat, h⟩
  · rw [List.getD_eq_getElem?_getD, List.getElem?_eq_none (by show zeros32.length ≤ _; have : zeros32.length = 32 := by decide
                                                              omega)]; rfl
theorem runE_seek {n : Int} {a : Action} {s : Slot} (ha : ActOk a) (h : readsOk n a s = true) : runE a (slotV s) = runX a (seekF a.fr s.res.reads 0) (seekF a.to s.res.reads 0) := by
  have hw := readsOk_writes ha h
  rw [runE_eq]
  unfold slotV
  rw [seekF_val s.res.reads 0 zeros32_ok.1 (fun w hw' => (hw w hw').1) ha.fr.1 (zeros_val _), seekF_val s.res.reads 0 zeros32_ok.1 (fun w hw' => (hw w hw').1) ha.to.1 (zeros_val _)]
theorem runE_rd {n : Int} {a : Action} {s : Slot} (ha : ActOk a) (h : readsOk n a s = true) : (runE a (slotV s)).reads = s.res.reads := by
  have h1 := h
  unfold readsOk at h1
  simp only [Bool.and_eq_true, decide_eq_true_eq] at h1
  have hm := reads_map h1.1.1.1
  unfold slotV
  rw [hm, runE_reads ha _ zeros32_ok.1]
  exact runX_reads a fun k => (valOf s.res.reads k).getD 0
theorem slotRes_eq {n : Int} {a : Action} {s : Slot} (ha : ActOk a) (h : readsOk n a s = true) : decide (runE a (slotV s) = s.res) = ((s.res.done == (runX a (seekF a.fr s.res.reads 0) (seekF a.to s.res.reads 0)).done) && decide (s.res.writes = (runX a (seekF a.fr s.res.reads 0) (seekF a.to s.res.reads 0)).writes)) := by
  have h1 := runE_rd ha h
  rw [runE_seek ha h] at h1 ⊢
  generalize runX a (seekF a.fr s.res.reads 0) (seekF a.to s.res.reads 0) = r at h1 ⊢
  obtain ⟨r1, r2, r3⟩ := r
  obtain ⟨_, _, _, s1, s2, s3⟩ := s
  dsimp only at h1 ⊢
  subst h1
  rw [Bool.eq_iff_iff]
  simp only [Effect.mk.injEq, Bool.and_eq_true, decide_eq_true_eq, beq_iff_eq, true_and]
  exact ⟨fun g => ⟨g.1.symm, g.2.symm⟩, fun g => ⟨g.1.symm, g.2.symm⟩⟩
theorem seek_bd {rs : List Entry} (h : WritesOk rs) (k : Int) : 0 ≤ seekF k rs 0 ∧ seekF k rs 0 ≤ 1000000 := by
  unfold seekF
  have : ∀ (l : List Entry) (x : Int), (∀ w, w ∈ l → w ∈ rs) → 0 ≤ x ∧ x ≤ 1000000 → 0 ≤ l.foldl (fun x e => if e.key = k then e.value else x) x ∧ l.foldl (fun x e => if e.key = k then e.value else x) x ≤ 1000000 := by
    intro l
    induction l with
    | nil => exact fun x _ hx => hx
    | cons w r ih =>
      intro x hm hx
      refine ih _ (fun y hy => hm y (List.mem_cons_of_mem _ hy)) ?_
      have := h w (hm w (List.mem_cons_self ..))
      dsimp only
      split
      · exact this.2
      · exact hx
  exact this rs 0 (fun w hw => hw) (by omega)

theorem c_spec_l10Slot (n1 n2 n3 n4 : Option Bool) (e : Engine) (n : Nat) (hs : EngSz (2 ^ 32) e) (hn : n < e.list.length) (hl : n < e.slots.length) (hnb : n < 1000) (hav : actionValid (actAt e n) = true) :
    Det Try.prog 74 [.agg (encG n1 n2 n3 n4 e), .int .i64 n] (.bool (slotOk n (actAt e n) (slotAt e n))) := by
  refine fspec_det tab_ok Try.call74 Try.func74 rfl 167 Try.ntmps74 (of_decide_eq_true rfl) fun B => codeK_sound tab_ok _ _ _ ?_
  have ha := actOk_of hav
  have hg : e.slots[n] = slotAt e n := (slotAt_lt hl).symm
  have hga : e.list[n] = actAt e n := (actAt_lt hn).symm
  have hsz := hs.each _ (List.getElem_mem hl)
  rw [hg] at hsz
  have hr1 := hsz.reads
  have hr2 := hsz.fr
  have hr3 := hsz.writes
  have hra := readsA_len (actAt e n)
  generalize slotAt e n = s at hg hr1 hr2 hr3
  cases c0 : (s.stage == 0) with
  | true =>
    rw [slotOk_0 c0]
    have hsl : (inB s.tries 0 1000 && decide (s.fr = []) && decide (s.res = ⟨false, [], []⟩)) = (decide (s.tries ≥ 0) && decide (s.tries ≤ 1000) && ((s.fr.length : Int) == 0) && !s.res.done && ((s.res.reads.length : Int) == 0) && ((s.res.writes.length : Int) == 0)) := by
      obtain ⟨_, _, f, d, r, w⟩ := s
      rw [Bool.eq_iff_iff]
      simp only [inB, Bool.and_eq_true, decide_eq_true_eq, beq_iff_eq, Effect.mk.injEq, Bool.not_eq_true']
      have e1 : ∀ {α : Type} (l : List α), ((l.length : Int) = 0) ↔ l = [] := fun l => by rw [← List.length_eq_zero_iff]; omega
      rw [e1, e1, e1]
      constructor
      · rintro ⟨⟨⟨a1, a2⟩, a3⟩, a4, a5, a6⟩; exact ⟨⟨⟨⟨⟨a1, a2⟩, a3⟩, a4⟩, a5⟩, a6⟩
      · rintro ⟨⟨⟨⟨⟨a1, a2⟩, a3⟩, a4⟩, a5⟩, a6⟩; exact ⟨⟨⟨a1, a2⟩, a3⟩, a4, a5, a6⟩
    rw [hsl]
    cases d1 : decide (s.tries ≥ 0) with
    | false => 
      simp (config := { maxSteps := 4000000 }) only [go_sem, simprocAttr, ↓dnA, Try.f74, rows_length, encG, hl, nn0, rows_get _ _ _ hl, hg, encS1, encS, c0, d1, Bool.false_and]
      try omega
    | true =>
      cases d2 : decide (s.tries ≤ 1000) with
      | false =>
        simp (config := { maxSteps := 4000000 }) only [go_sem, simprocAttr, ↓dnA, Try.f74, rows_length, encG, hl, nn0, rows_get _ _ _ hl, hg, encS1, encS, c0, d1, d2, Bool.false_and, Bool.true_and]
        try omega
      | true =>
        cases d3 : ((s.fr.length : Int) == 0) with
        | false =>
          simp (config := { maxSteps := 4000000 }) only [go_sem, simprocAttr, ↓dnA, Try.f74, rows_length, encG, hl, nn0, rows_get _ _ _ hl, hg, encS1, encS, c0, d1, d2, d3, Bool.false_and, Bool.true_and]
          try omega
        | true =>
          cases d4 : s.res.done with
          | true =>
            simp (config := { maxSteps := 4000000 }) only [go_sem, simprocAttr, ↓dnA, Try.f74, rows_length, encG, hl, nn0, rows_get _ _ _ hl, hg, encS1, encS, c0, d1, d2, d3, d4, Bool.not_true, Bool.false_and, Bool.true_and]
            try omega
          | false =>
            cases d5 : ((s.res.reads.length : Int) == 0) with
            | false =>
              simp (config := { maxSteps := 4000000 }) only [go_sem, simprocAttr, ↓dnA, Try.f74, rows_length, encG, hl, nn0, rows_get _ _ _ hl, hg, encS1, encS, c0, d1, d2, d3, d4, d5, Bool.not_false, Bool.false_and, Bool.true_and]
              try omega
            | true =>
              simp (config := { maxSteps := 4000000 }) only [go_sem, simprocAttr, ↓dnA, Try.f74, rows_length, encG, hl, nn0, rows_get _ _ _ hl, hg, encS1, encS, c0, d1, d2, d3, d4, d5, Bool.not_false, Bool.false_and, Bool.true_and]
              try omega
  | false =>
    have hin : ∀ x lo hi : Int, Det Try.prog 32 [.int .i64 x, .int .i64 lo, .int .i64 hi] (.bool (inB x lo hi)) := c_spec_l1In
    rw [slotOk_1 c0]
    simp (config := { maxSteps := 4000000 }) only [go_sem, simprocAttr, ↓dnA, Try.f74, rows_length, encG, hl, hn, nn0, rows_get _ _ _ hl, rows_get _ _ _ hn, hg, hga, encS1, encS, encA, c0]
    repeat refine And.intro (by first | omega | (simp; done) | (simp; omega) | assumption) ?_
    refine CallTo.det (c_spec_ActionReads (actAt e n) hav) fun _ => ?_
    cases c3 : ((s.res.reads.length : Int) != ((readsA (actAt e n)).length : Int)) with
    | true =>
      have hno := readsOk_no1 (n := n) (a := actAt e n) c3
      simp (config := { maxSteps := 4000000 }) only [go_sem, simprocAttr, ↓dnA, Try.f74, rows_length, encG, encS, c0, c3, hno, Bool.false_and, Bool.and_false]
    | false =>
      cases c4 : ((s.fr.length : Int) != ((readsA (actAt e n)).length : Int)) with
      | true =>
        have hno := readsOk_no2 (n := n) (a := actAt e n) c4
        simp (config := { maxSteps := 4000000 }) only [go_sem, simprocAttr, ↓dnA, Try.f74, rows_length, encG, encS, c0, c3, c4, hno, Bool.false_and, Bool.and_false]
      | false =>
        simp (config := { maxSteps := 4000000 }) only [go_sem, simprocAttr, ↓dnA, Try.f74, rows_length, encG, encS, c0, c3, c4]
        refine CallTo.det (hin _ _ _) fun _ => ?_
        cases c2 : inB s.tries 1 1000 with
        | false => simp (config := { maxSteps := 4000000 }) only [go_sem, simprocAttr, ↓dnA, Try.f74, rows_length, encG, encS, c0, c2, c3, c4, Bool.false_and, Bool.and_false]
        | true =>
          simp (config := { maxSteps := 4000000 }) only [go_sem, simprocAttr, ↓dnA, Try.f74, rows_length, encG, encS, c0, c2, c3, c4]
          refine CallTo.det (hin _ _ _) fun _ => ?_
          cases c1 : inB s.stage 1 2 with
          | false => simp (config := { maxSteps := 4000000 }) only [go_sem, simprocAttr, ↓dnA, Try.f74, rows_length, encG, encS, c0, c1, c2, c3, c4, Bool.false_and, Bool.and_false]
          | true =>
            have l1 : s.res.reads.length = (readsA (actAt e n)).length := by have : (s.res.reads.length : Int) = ((readsA (actAt e n)).length : Int) := by simpa using c3
                                                                             omega
            have l2 : s.fr.length = (readsA (actAt e n)).length := by have : (s.fr.length : Int) = ((readsA (actAt e n)).length : Int) := by simpa using c4
                                                                      omega
            have hyes := readsOk_iff (n := n) (a := actAt e n) l1 l2
            have hno := fun {i : Nat} hi => readsOk_no (n := n) (a := actAt e n) l1 l2 (i := i) hi
            simp (config := { maxSteps := 4000000 }) only [go_sem, simprocAttr, ↓dnA, Try.f74, rows_length, encG, encS, c0, c1, c2, c3, c4, Bool.true_and]
            refine semL_for tab_ok (fun i : Nat => ⟨167, [(1, .int .i64 n), (2, .loc 2 0), (5, .loc 5 0), (6, .row 60000 (readsA (actAt e n)).length), (7, .int .i64 (seekF (actAt e n).fr (s.res.reads.take i) 0)), (8, .int .i64 (seekF (actAt e n).to (s.res.reads.take i) 0)), (9, .int .i64 i)],
                [(2, .var (encG n1 n2 n3 n4 e)), (5, .var (encS none none none s)), (60000, .row true true 1 (rows encI (readsA (actAt e n))))]⟩) (fun i => (readsA (actAt e n)).length - i)
              (fun i => i ≤ (readsA (actAt e n)).length ∧ ∀ j, j < i → readOk1 n (actAt e n) s j = true) 0 [(2, 2), (5, 5), (60000, 60000)] (Weak.of (by rfl) ?_ ?_ (by rfl)) ⟨by omega, fun j hj => by omega⟩ ?_
            · simp (config := { maxSteps := 4000000 }) only [go_sem, simprocAttr, ↓dnA, Try.f74, rows_length, encG, encS, frW, wk2, wk1, wkL, wkB, hpW, List.mem_cons, Prod.mk.injEq, exists_eq_left, exists_eq_right, exists_eq]
              try rfl
            · simp (config := { maxSteps := 4000000 }) only [go_sem, simprocAttr, ↓dnA, Try.f74, rows_length, encG, encS, frW, wk2, wk1, wkL, wkB, hpW, List.mem_cons, Prod.mk.injEq, exists_eq_left, exists_eq_right, exists_eq]
              try exact ⟨rfl, rfl⟩
            · rintro i ⟨hi, hp⟩
              by_cases h : i < (readsA (actAt e n)).length
              · have hri : i < s.res.reads.length := by omega
                have hfi : i < s.fr.length := by omega
                have hno1 := hno h
                have hst1 := seekF_take (actAt e n).fr s.res.reads 0 i hri
                have hst2 := seekF_take (actAt e n).to s.res.reads 0 i hri
                have hw : IntKind.i64.wrap ((i : Int) + 1) = ((i + 1 : Nat) : Int) := wsucc h (by omega)
                have hwn : IntKind.i64.wrap ((n : Int) - 1) = (n : Int) - 1 := wrap_small _ (by omega) (by omega)
                have hps : readOk1 n (actAt e n) s i = true → ∀ j, j < i + 1 → readOk1 n (actAt e n) s j = true := by
                  intro g j hj
                  by_cases c : j < i
                  · exact hp j c
                  · rw [show j = i by omega]; exact g
                have hr1i : readOk1 n (actAt e n) s i = (decide (s.res.reads[i].key = (readsA (actAt e n))[i]) && inB s.res.reads[i].value 0 1000000 && inB s.fr[i] (-1) (n - 1)) := by
                  unfold readOk1; rw [getD_lt _ _ hri, getD_lt _ _ hfi, getD_lt _ _ h]
                generalize seekF (actAt e n).fr (s.res.reads.take i) 0 = vf at hst1
                generalize seekF (actAt e n).to (s.res.reads.take i) 0 = vt at hst2
                cases d1 : (s.res.reads[i].key != (readsA (actAt e n))[i]) with
                | true =>
                  have e1 : decide (s.res.reads[i].key = (readsA (actAt e n))[i]) = false := decide_eq_false fun g => by rw [g] at d1; simp at d1
                  have hf := hno1 (by rw [hr1i, e1]; rfl)
                  simp (config := { maxSteps := 4000000 }) only [go_sem, simprocAttr, ↓dnA, Try.f74, rows_length, encG, encS, nlt h, nlt hri, h, hri, hfi, rows_get _ _ _ h, rows_get _ _ _ hri, rows_get _ _ _ hfi, rows_get _ _ _ hn, hga, encA, encE, encI, nn0, d1, hf, Bool.false_and]
                  refine semL_draw tab_ok mixed_ rfl (ord := [(0, []), (1, []), (2, []), (3, []), (4, []), (5, []), (6, []), (7, []), (8, []), (9, []), (10, []), (11, []), (12, []), (13, []), (14, []), (15, []), (16, []), (17, []), (18, []), (19, []), (20, []), (21, []), (22, []), (23, [])]) (by dsimp only; decide +kernel) ?_
                  simp (config := { maxSteps := 4000000 }) only [go_sem, simprocAttr, ↓dnA, Try.f74, rows_length, encG, encS, nlt h, nlt hri, h, hri, hfi, rows_get _ _ _ h, rows_get _ _ _ hri, rows_get _ _ _ hfi, rows_get _ _ _ hn, hga, encA, encE, encI, nn0, d1, hf, Bool.false_and]
                  try omega
                | false =>
                  have k1 : s.res.reads[i].key = (readsA (actAt e n))[i] := by simpa using d1
                  have e1 := decide_eq_true k1
                  simp (config := { maxSteps := 4000000 }) only [go_sem, simprocAttr, ↓dnA, Try.f74, rows_length, encG, encS, nlt h, nlt hri, h, hri, hfi, rows_get _ _ _ h, rows_get _ _ _ hri, rows_get _ _ _ hfi, rows_get _ _ _ hn, hga, encA, encE, encI, nn0, d1]
                  refine semL_draw tab_ok mixed_ rfl (ord := [(0, []), (1, []), (2, []), (3, []), (4, []), (5, []), (6, []), (7, []), (8, []), (9, []), (10, []), (11, []), (12, []), (13, []), (14, []), (15, []), (16, []), (17, []), (18, []), (19, []), (20, []), (21, []), (22, []), (23, [])]) (by dsimp only; decide +kernel) ?_
                  simp (config := { maxSteps := 4000000 }) only [go_sem, simprocAttr, ↓dnA, Try.f74, rows_length, encG, encS, nlt h, nlt hri, h, hri, hfi, rows_get _ _ _ h, rows_get _ _ _ hri, rows_get _ _ _ hfi, rows_get _ _ _ hn, hga, encA, encE, encI, nn0, d1]
                  repeat refine And.intro (by first | omega | (simp; done) | (simp; omega) | assumption) ?_
                  refine CallTo.det (hin _ _ _) fun _ => ?_
                  cases d2 : inB s.res.reads[i].value 0 1000000 with
                  | false =>
                    have hf := hno1 (by rw [hr1i, e1, d2]; rfl)
                    simp (config := { maxSteps := 4000000 }) only [go_sem, simprocAttr, ↓dnA, Try.f74, rows_length, encG, encS, nlt h, nlt hri, h, hri, hfi, rows_get _ _ _ h, rows_get _ _ _ hri, rows_get _ _ _ hfi, rows_get _ _ _ hn, hga, encA, encE, encI, nn0, d1, d2, hf, Bool.false_and]
                  | true =>
                    simp (config := { maxSteps := 4000000 }) only [go_sem, simprocAttr, ↓dnA, Try.f74, rows_length, encG, encS, nlt h, nlt hri, h, hri, hfi, rows_get _ _ _ h, rows_get _ _ _ hri, rows_get _ _ _ hfi, rows_get _ _ _ hn, hga, encA, encE, encI, nn0, d1, d2, hwn]
                    repeat refine And.intro (by first | omega | (simp; done) | (simp; omega) | assumption) ?_
                    refine CallTo.det (hin _ _ _) fun _ => ?_
                    cases d3 : inB s.fr[i] (-1) ((n : Int) - 1) with
                    | false =>
                      have hf := hno1 (by rw [hr1i, e1, d2, d3]; rfl)
                      simp (config := { maxSteps := 4000000 }) only [go_sem, simprocAttr, ↓dnA, Try.f74, rows_length, encG, encS, nlt h, nlt hri, h, hri, hfi, rows_get _ _ _ h, rows_get _ _ _ hri, rows_get _ _ _ hfi, rows_get _ _ _ hn, hga, encA, encE, encI, nn0, d1, d2, d3, hwn, hf, Bool.false_and]
                    | true =>
                      have hall := hps (by rw [hr1i, e1, d2, d3]; rfl)
                      simp (config := { maxSteps := 4000000 }) only [go_sem, simprocAttr, ↓dnA, Try.f74, rows_length, encG, encS, nlt h, nlt hri, h, hri, hfi, rows_get _ _ _ h, rows_get _ _ _ hri, rows_get _ _ _ hfi, rows_get _ _ _ hn, hga, encA, encE, encI, nn0, d1, d2, d3, hwn]
                      have hq1 : seekF (actAt e n).fr (s.res.reads.take (i + 1)) 0 = if (s.res.reads[i].key == (actAt e n).fr) = true then s.res.reads[i].value else vf := by rw [hst1]; simp
                      have hq2 : seekF (actAt e n).to (s.res.reads.take (i + 1)) 0 = if (s.res.reads[i].key == (actAt e n).to) = true then s.res.reads[i].value else vt := by rw [hst2]; simp
                      clear hst1 hst2
                      cases g1 : (s.res.reads[i].key == (actAt e n).fr) <;> cases g2 : (s.res.reads[i].key == (actAt e n).to)
                      all_goals (rw [g1] at hq1; rw [g2] at hq2; simp only [Bool.false_eq_true, if_true, if_false] at hq1 hq2)
                      all_goals (refine semL_draw tab_ok mixed_ rfl (ord := [(0, []), (1, []), (2, []), (3, []), (4, []), (5, []), (6, []), (7, []), (8, [])]) (by dsimp only; decide +kernel) ?_)
                      all_goals (simp (config := { maxSteps := 4000000 }) only [go_sem, simprocAttr, ↓dnA, Try.f74, rows_length, encG, encS, nlt h, nlt hri, h, hri, hfi, rows_get _ _ _ h, rows_get _ _ _ hri, rows_get _ _ _ hfi, rows_get _ _ _ hn, hn, hga, encA, encE, encI, nn0, d1, d2, d3, hwn, g1, g2])
                      all_goals repeat refine And.intro (by first | omega | (simp; done) | (simp; omega) | assumption) ?_
                      all_goals (refine semL_draw tab_ok mixed_ rfl (ord := [(0, []), (1, []), (2, []), (3, []), (4, []), (5, []), (6, []), (7, []), (8, [])]) (by dsimp only; decide +kernel) ?_)
                      all_goals (simp (config := { maxSteps := 4000000 }) only [go_sem, simprocAttr, ↓dnA, Try.f74, rows_length, encG, encS, nlt h, nlt hri, h, hri, hfi, rows_get _ _ _ h, rows_get _ _ _ hri, rows_get _ _ _ hfi, rows_get _ _ _ hn, hn, hga, encA, encE, encI, nn0, d1, d2, d3, hwn, g1, g2, hw])
                      all_goals repeat refine And.intro (by first | omega | (simp; done) | (simp; omega) | assumption) ?_
                      all_goals (refine ⟨i + 1, [(2, 2), (5, 5), (60000, 60000)], ⟨by omega, hall⟩, by dsimp only; omega, Weak.of (by rfl) ?_ ?_ (by rfl)⟩)
                      all_goals (simp (config := { maxSteps := 4000000 }) only [go_sem, simprocAttr, ↓dnA, Try.f74, rows_length, encG, encS, hq1, hq2, frW, wk2, wk1, wkL, wkB, hpW, List.mem_cons, Prod.mk.injEq, exists_eq_left, exists_eq_right, exists_eq])
                      all_goals (try rfl)
              · have hi' : i = (readsA (actAt e n)).length := by omega
                have hri : ¬ i < s.res.reads.length := by omega
                have hro : readsOk n (actAt e n) s = true := hyes.2 fun j hj => hp j (by omega)
                have htk : s.res.reads.take i = s.res.reads := List.take_of_length_le (by omega)
                have hrw := readsOk_writes ha hro
                have hl6 := c_spec_l6Run (actAt e n) _ _ hav (seek_bd hrw (actAt e n).fr) (seek_bd hrw (actAt e n).to)
                have hwl : (runX (actAt e n) (seekF (actAt e n).fr s.res.reads 0) (seekF (actAt e n).to s.res.reads 0)).writes.length ≤ 2 := by rw [← runE_seek ha hro]; exact runE_wlen _ _
                rw [htk, slotRes_eq ha hro, hro]
                generalize seekF (actAt e n).fr s.res.reads 0 = vf at hl6 hwl ⊢
                generalize seekF (actAt e n).to s.res.reads 0 = vt at hl6 hwl ⊢
                generalize runX (actAt e n) vf vt = r at hl6 hwl ⊢
                subst hi'
                simp (config := { maxSteps := 4000000 }) only [go_sem, simprocAttr, ↓dnA, Try.f74, rows_length, encG, encS, nlf h, hn, nn0, rows_get _ _ _ hn, hga, encA]
                repeat refine And.intro (by first | omega | (simp; done) | (simp; omega) | assumption) ?_
                refine CallTo.det hl6 fun _ => ?_
                cases h1 : (s.res.done == r.done) with
                | false => simp (config := { maxSteps := 4000000 }) only [go_sem, simprocAttr, ↓dnA, Try.f74, rows_length, encG, encS, encFO, h1, Bool.false_and, Bool.true_and]
                | true =>
                  simp (config := { maxSteps := 4000000 }) only [go_sem, simprocAttr, ↓dnA, Try.f74, rows_length, encG, encS, encFO, h1, Bool.true_and]
                  refine CallTo.det (c_spec_l10SameEntries none none s.res.writes r.writes (by omega) (by omega)) fun _ => ?_
                  simp (config := { maxSteps := 4000000 }) only [go_sem, simprocAttr, ↓dnA, Try.f74, rows_length, encG, encS, encFO, h1, Bool.true_and]



end Go.Proofs.Yteebkimhfaodnaa

/- Contracts: valid engines (the reference). -/
set_option linter.unusedSimpArgs false
set_option linter.unusedVariables false
set_option maxRecDepth 20000
set_option maxHeartbeats 4000000
namespace Go.Proofs.Yteebkimhfaodnaa
open Go Go.RowKit

open Classical in
noncomputable def engValid (e : Engine) : Bool := decide (EngOk e)
open Classical in
theorem engValid_iff {e : Engine} : engValid e = true ↔ EngOk e := by unfold engValid; simp
theorem engValid_no {e : Engine} (h : ¬ EngOk e) : engValid e = false := by rw [Bool.eq_false_iff]; exact fun g => h (engValid_iff.1 g)
theorem engValid_yes {e : Engine} (h : EngOk e) : engValid e = true := engValid_iff.2 h

theorem allTo_len' {sl : List Slot} : ∀ n, (∀ k : Nat, k < n → (sl.getD k slot0).res.writes.length ≤ 2) → (allTo sl n).length ≤ 2 * n
  | 0, _ => by simp [allTo]
  | n + 1, h => by
    unfold allTo
    have h1 := putVs_len (allTo sl n) (n : Int) (sl.getD n slot0).res.writes
    have h2 := allTo_len' n fun k hk => h k (by omega)
    have h3 := h n (by omega)
    omega
/-- What is asked of the checked slots. -/
def chkOk (e : Engine) (n : Nat) : Prop := (slotAt e n).stage = 2 → (n = 0 ∨ (slotAt e (n - 1)).stage = 2) ∧ currentE e n (actAt e n) (slotAt e n) = true
theorem act_valid {e : Engine} (h : actionsValid e.list = true) {n : Nat} (hn : n < e.list.length) : actionValid (actAt e n) = true := by
  unfold actionsValid at h
  rw [Bool.and_eq_true, List.all_eq_true] at h
  rw [actAt_lt hn]
  exact h.2 _ (List.getElem_mem hn)

theorem c_spec_EngineValid (n1 n2 n3 n4 : Option Bool) (e : Engine) (hs : EngSz (2 ^ 32) e) : Det Try.prog 44 [.agg (encG n1 n2 n3 n4 e)] (.bool (engValid e)) := by
  refine fspec_det tab_ok Try.call44 Try.func44 rfl 102 Try.ntmps44 (of_decide_eq_true rfl) fun B => codeK_sound tab_ok _ _ _ ?_
  have hb := hs.base
  have hll := hs.list
  have hsl := hs.slots
  have hvl := hs.versions
  simp (config := { maxSteps := 4000000 }) only [go_sem, simprocAttr, ↓dnA, Try.f44, rows_length, encG]
  refine CallTo.det (c_spec_StoreValid n1 e.base (by omega)) fun _ => ?_
  cases h1 : storeValid e.base with
  | false =>
    have hno := engValid_no (e := e) fun g => by have := g.base; rw [h1] at this; cases this
    simp (config := { maxSteps := 4000000 }) only [go_sem, simprocAttr, ↓dnA, Try.f44, rows_length, encG, h1, hno]
  | true =>
    simp (config := { maxSteps := 4000000 }) only [go_sem, simprocAttr, ↓dnA, Try.f44, rows_length, encG, h1]
    refine CallTo.det (c_spec_ActionsValid n2 e.list (by omega)) fun _ => ?_
    cases h2 : actionsValid e.list with
    | false =>
      have hno := engValid_no (e := e) fun g => by have := g.list; rw [h2] at this; cases this
      simp (config := { maxSteps := 4000000 }) only [go_sem, simprocAttr, ↓dnA, Try.f44, rows_length, encG, h1, h2, hno]
    | true =>
      have h10 := (actionsValid_ok h2).2
      cases h3 : ((e.slots.length : Int) != (e.list.length : Int)) with
      | true =>
        have hno := engValid_no (e := e) fun g => by have := g.len; rw [this] at h3; simp at h3
        simp (config := { maxSteps := 4000000 }) only [go_sem, simprocAttr, ↓dnA, Try.f44, rows_length, encG, h1, h2, h3, hno]
      | false =>
        have hle : e.slots.length = e.list.length := by have : (e.slots.length : Int) = (e.list.length : Int) := by simpa using h3
                                                        omega
        simp (config := { maxSteps := 4000000 }) only [go_sem, simprocAttr, ↓dnA, Try.f44, rows_length, encG, h1, h2, h3]
        refine semL_for tab_ok (fun i : Nat => ⟨102, [(1, .loc 1 0), (3, .row 600 (allTo e.slots i).length), (4, .int .i64 i)],
            [(1, .var (encG n1 n2 n3 n4 e)), (600, .row true true 3 (rows encR (allTo e.slots i)))]⟩) (fun i => e.slots.length - i)
          (fun i => i ≤ e.slots.length ∧ ∀ j : Nat, j < i → slotOk j (actAt e j) (slotAt e j) = true) 0 [(1, 1), (26, 600)] (Weak.of (by rfl) ?_ ?_ (by rfl)) ⟨by omega, fun j hj => by omega⟩ ?_
        · simp (config := { maxSteps := 4000000 }) only [go_sem, simprocAttr, ↓dnA, Try.f44, rows_length, encG, frW, wk2, wk1, wkL, wkB, hpW, List.mem_cons, Prod.mk.injEq, exists_eq_left, exists_eq_right, exists_eq]
          try rfl
        · simp (config := { maxSteps := 4000000 }) only [go_sem, simprocAttr, ↓dnA, Try.f44, rows_length, encG, frW, wk2, wk1, wkL, wkB, hpW, List.mem_cons, Prod.mk.injEq, exists_eq_left, exists_eq_right, exists_eq]
          try rfl
        · rintro i ⟨hi, hp⟩
          by_cases h : i < e.slots.length
          · have hav := act_valid h2 (n := i) (by omega)
            have hw : IntKind.i64.wrap ((i : Int) + 1) = ((i + 1 : Nat) : Int) := wsucc h (by omega)
            have hal := allTo_len' (sl := e.slots) i fun k hk => (slotOk_wlen (hp k hk)).1
            simp (config := { maxSteps := 4000000 }) only [go_sem, simprocAttr, ↓dnA, Try.f44, rows_length, encG, nlt h, h]
            refine CallTo.det (c_spec_l10Slot n1 n2 n3 n4 e i hs (by omega) h (by omega) hav) fun _ => ?_
            cases d1 : slotOk i (actAt e i) (slotAt e i) with
            | false =>
              have hno := engValid_no (e := e) fun g => by have := g.slot i h; rw [d1] at this; cases this
              simp (config := { maxSteps := 4000000 }) only [go_sem, simprocAttr, ↓dnA, Try.f44, rows_length, encG, nlt h, h, d1, hno]
            | true =>
              have hg : e.slots[i] = slotAt e i := (slotAt_lt h).symm
              have hwl := (slotOk_wlen d1).1
              have hput := c_spec_l9Put (some true) none (allTo e.slots i) i (slotAt e i).res.writes (by omega) (by omega)
              simp (config := { maxSteps := 4000000 }) only [go_sem, simprocAttr, ↓dnA, Try.f44, rows_length, encG, nlt h, h, d1, rows_get _ _ _ h, nn0, hg, encS1, encS]
              refine CallTo.det hput fun _ => ?_
              have hall : ∀ j : Nat, j < i + 1 → slotOk j (actAt e j) (slotAt e j) = true := by
                intro j hj
                by_cases c : j < i
                · exact hp j c
                · rw [show j = i by omega]; exact d1
              simp (config := { maxSteps := 4000000 }) only [go_sem, simprocAttr, ↓dnA, Try.f44, rows_length, encG, nlt h, h, d1, rows_get _ _ _ h, nn0, hg, encS1, encS, hw]
              refine ⟨i + 1, [(1, 1), (48000, 600)], ⟨by omega, hall⟩, by dsimp only; omega, Weak.of (by rfl) ?_ ?_ (by rfl)⟩
              · simp (config := { maxSteps := 4000000 }) only [go_sem, simprocAttr, ↓dnA, Try.f44, rows_length, encG, frW, wk2, wk1, wkL, wkB, hpW, List.mem_cons, Prod.mk.injEq, exists_eq_left, exists_eq_right, exists_eq]
                try rfl
              · simp (config := { maxSteps := 4000000 }) only [go_sem, simprocAttr, ↓dnA, Try.f44, rows_length, encG, frW, wk2, wk1, wkL, wkB, hpW, List.mem_cons, Prod.mk.injEq, exists_eq_left, exists_eq_right, exists_eq]
                try rfl
          · have hi' : i = e.slots.length := by omega
            subst hi'
            obtain ⟨vs, hvs⟩ : ∃ vs, vs = allTo e.slots e.slots.length := ⟨_, rfl⟩
            have hal := allTo_len' (sl := e.slots) e.slots.length fun k hk => (slotOk_wlen (hp k hk)).1
            rw [← hvs] at hal ⊢
            have hnv : vs ≠ e.versions → engValid e = false := fun g => engValid_no fun o => g (by rw [hvs]; exact o.vers.symm)
            cases d2 : ((vs.length : Int) != (e.versions.length : Int)) with
            | true =>
              have hno := hnv fun g => by rw [g] at d2; simp at d2
              simp (config := { maxSteps := 4000000 }) only [go_sem, simprocAttr, ↓dnA, Try.f44, rows_length, encG, nlf h, d2, hno]
            | false =>
              have hvl2 : vs.length = e.versions.length := by have : (vs.length : Int) = (e.versions.length : Int) := by simpa using d2
                                                              omega
              simp (config := { maxSteps := 4000000 }) only [go_sem, simprocAttr, ↓dnA, Try.f44, rows_length, encG, nlf h, d2]
              refine semL_for tab_ok (fun k : Nat => ⟨102, [(1, .loc 1 0), (3, .row 600 vs.length), (5, .int .i64 k)],
                  [(1, .var (encG n1 n2 n3 n4 e)), (600, .row true true 3 (rows encR vs))]⟩) (fun k => vs.length - k)
                (fun k => k ≤ vs.length ∧ decide (vs.drop k = e.versions.drop k) = decide (vs = e.versions)) 0 [(1, 1), (600, 600)] (Weak.of (by rfl) ?_ ?_ (by rfl)) ⟨by omega, rfl⟩ ?_
              · simp (config := { maxSteps := 4000000 }) only [go_sem, simprocAttr, ↓dnA, Try.f44, rows_length, encG, frW, wk2, wk1, wkL, wkB, hpW, List.mem_cons, Prod.mk.injEq, exists_eq_left, exists_eq_right, exists_eq]
                try rfl
              · simp (config := { maxSteps := 4000000 }) only [go_sem, simprocAttr, ↓dnA, Try.f44, rows_length, encG, frW, wk2, wk1, wkL, wkB, hpW, List.mem_cons, Prod.mk.injEq, exists_eq_left, exists_eq_right, exists_eq]
                try rfl
              · rintro k ⟨hk, hq⟩
                by_cases g : k < vs.length
                · have g2 : k < e.versions.length := by omega
                  rw [eq_drop vs e.versions k hvl2 g] at hq
                  have hw : IntKind.i64.wrap ((k : Int) + 1) = ((k + 1 : Nat) : Int) := wsucc g (by omega)
                  simp (config := { maxSteps := 4000000 }) only [go_sem, simprocAttr, ↓dnA, Try.f44, rows_length, encG, nlt g, g]
                  cases he : decide (vs[k] = e.versions[k]) with
                  | false =>
                    rw [he, Bool.false_and] at hq
                    have hno := hnv (of_decide_eq_false hq.symm)
                    refine semL_draw tab_ok mixed_ rfl (ord := [(0, []), (1, []), (2, []), (3, []), (4, []), (5, []), (6, []), (7, []), (8, []), (9, [])]) (by dsimp only; decide +kernel) ?_
                    simp (config := { maxSteps := 4000000 }) only [go_sem, simprocAttr, ↓dnA, Try.f44, rows_length, encG, nlt g, g, g2, rows_get _ _ _ g, rows_get _ _ _ g2, encR, nn0, eqR, he, hno]
                    omega
                  | true =>
                    rw [he, Bool.true_and] at hq
                    refine semL_draw tab_ok mixed_ rfl (ord := [(0, []), (1, []), (2, []), (3, []), (4, []), (5, []), (6, []), (7, []), (8, []), (9, [])]) (by dsimp only; decide +kernel) ?_
                    simp (config := { maxSteps := 4000000 }) only [go_sem, simprocAttr, ↓dnA, Try.f44, rows_length, encG, nlt g, g, g2, rows_get _ _ _ g, rows_get _ _ _ g2, encR, nn0, eqR, he, hw]
                    repeat refine And.intro (by first | omega | (simp; done) | (simp; omega) | assumption) ?_
                    refine ⟨k + 1, [(1, 1), (600, 600)], ⟨by omega, hq⟩, by dsimp only; omega, Weak.of (by rfl) ?_ ?_ (by rfl)⟩
                    · simp (config := { maxSteps := 4000000 }) only [go_sem, simprocAttr, ↓dnA, Try.f44, rows_length, encG, frW, wk2, wk1, wkL, wkB, hpW, List.mem_cons, Prod.mk.injEq, exists_eq_left, exists_eq_right, exists_eq]
                      try rfl
                    · simp (config := { maxSteps := 4000000 }) only [go_sem, simprocAttr, ↓dnA, Try.f44, rows_length, encG, frW, wk2, wk1, wkL, wkB, hpW, List.mem_cons, Prod.mk.injEq, exists_eq_left, exists_eq_right, exists_eq]
                      try rfl
                · have hk' : k = vs.length := by omega
                  subst hk'
                  rw [List.drop_length, List.drop_of_length_le (by omega)] at hq
                  have hve : vs = e.versions := by simpa using hq.symm
                  simp (config := { maxSteps := 4000000 }) only [go_sem, simprocAttr, ↓dnA, Try.f44, rows_length, encG, nlf g]
                  refine semL_for tab_ok (fun i : Nat => ⟨102, [(1, .loc 1 0), (6, .int .i64 i)], [(1, .var (encG n1 n2 n3 n4 e))]⟩) (fun i => e.slots.length - i)
                    (fun i => i ≤ e.slots.length ∧ ∀ j : Nat, j < i → chkOk e j) 0 [(1, 1)] (Weak.of (by rfl) ?_ ?_ (by rfl)) ⟨by omega, fun j hj => by omega⟩ ?_
                  · simp (config := { maxSteps := 4000000 }) only [go_sem, simprocAttr, ↓dnA, Try.f44, rows_length, encG, frW, wk2, wk1, wkL, wkB, hpW, List.mem_cons, Prod.mk.injEq, exists_eq_left, exists_eq_right, exists_eq]
                    try rfl
                  · simp (config := { maxSteps := 4000000 }) only [go_sem, simprocAttr, ↓dnA, Try.f44, rows_length, encG, frW, wk2, wk1, wkL, wkB, hpW, List.mem_cons, Prod.mk.injEq, exists_eq_left, exists_eq_right, exists_eq]
                    try rfl
                  · rintro i ⟨hi, hc⟩
                    by_cases h : i < e.slots.length
                    · have hw : IntKind.i64.wrap ((i : Int) + 1) = ((i + 1 : Nat) : Int) := wsucc h (by omega)
                      have hg : e.slots[i] = slotAt e i := (slotAt_lt h).symm
                      have hso := hp i h
                      have hnc : ¬ chkOk e i → engValid e = false := fun g => engValid_no fun o => g (o.chk i h)
                      have hcs : chkOk e i → ∀ j : Nat, j < i + 1 → chkOk e j := by
                        intro g j hj
                        by_cases c : j < i
                        · exact hc j c
                        · rw [show j = i by omega]; exact g
                      cases c1 : ((slotAt e i).stage != 2) with
                      | true =>
                        have hck : chkOk e i := fun g => by rw [g] at c1; simp at c1
                        simp (config := { maxSteps := 4000000 }) only [go_sem, simprocAttr, ↓dnA, Try.f44, rows_length, encG, encS1, encS, nlt h, h, rows_get _ _ _ h, hg, nn0, c1, hw]
                        repeat refine And.intro (by first | omega | (simp; done) | (simp; omega) | assumption) ?_
                        refine ⟨i + 1, [(1, 1)], ⟨by omega, hcs hck⟩, by dsimp only; omega, Weak.of (by rfl) ?_ ?_ (by rfl)⟩
                        · simp (config := { maxSteps := 4000000 }) only [go_sem, simprocAttr, ↓dnA, Try.f44, rows_length, encG, frW, wk2, wk1, wkL, wkB, hpW, List.mem_cons, Prod.mk.injEq, exists_eq_left, exists_eq_right, exists_eq]
                          try rfl
                        · simp (config := { maxSteps := 4000000 }) only [go_sem, simprocAttr, ↓dnA, Try.f44, rows_length, encG, frW, wk2, wk1, wkL, wkB, hpW, List.mem_cons, Prod.mk.injEq, exists_eq_left, exists_eq_right, exists_eq]
                          try rfl
                      | false =>
                        have hst : (slotAt e i).stage = 2 := by simpa using c1
                        have hs1 := slotOk_one hso (by omega)
                        have hro := hs1.2.2.1
                        unfold readsOk at hro
                        simp only [Bool.and_eq_true, decide_eq_true_eq] at hro
                        have hkk := hro.1.1.1
                        have hfl : (slotAt e i).fr.length = (slotAt e i).res.reads.length := by rw [hro.1.2, ← hkk, List.length_map]
                        have hsame := c_spec_l10Same n1 n2 n3 n4 e i hs h hkk hfl
                        by_cases h0 : i = 0
                        · have k0 : decide ((i : Int) > 0) = false := by simp; omega
                          simp (config := { maxSteps := 4000000 }) only [go_sem, simprocAttr, ↓dnA, Try.f44, rows_length, encG, encS1, encS, nlt h, h, rows_get _ _ _ h, hg, nn0, c1, k0]
                          repeat refine And.intro (by first | omega | (simp; done) | (simp; omega) | assumption) ?_
                          refine CallTo.det hsame fun _ => ?_
                          cases c2 : currentE e i (actAt e i) (slotAt e i) with
                          | false =>
                            have hno := hnc fun g => by have := (g hst).2; rw [c2] at this; cases this
                            simp (config := { maxSteps := 4000000 }) only [go_sem, simprocAttr, ↓dnA, Try.f44, rows_length, encG, encS1, encS, nlt h, h, rows_get _ _ _ h, hg, nn0, c1, k0, c2, hno]
                          | true =>
                            simp (config := { maxSteps := 4000000 }) only [go_sem, simprocAttr, ↓dnA, Try.f44, rows_length, encG, encS1, encS, nlt h, h, rows_get _ _ _ h, hg, nn0, c1, k0, c2, hw]
                            refine ⟨i + 1, [(1, 1)], ⟨by omega, hcs fun _ => ⟨.inl h0, c2⟩⟩, by dsimp only; omega, Weak.of (by rfl) ?_ ?_ (by rfl)⟩
                            · simp (config := { maxSteps := 4000000 }) only [go_sem, simprocAttr, ↓dnA, Try.f44, rows_length, encG, frW, wk2, wk1, wkL, wkB, hpW, List.mem_cons, Prod.mk.injEq, exists_eq_left, exists_eq_right, exists_eq]
                              try rfl
                            · simp (config := { maxSteps := 4000000 }) only [go_sem, simprocAttr, ↓dnA, Try.f44, rows_length, encG, frW, wk2, wk1, wkL, wkB, hpW, List.mem_cons, Prod.mk.injEq, exists_eq_left, exists_eq_right, exists_eq]
                              try rfl
                        · have k0 : decide ((i : Int) > 0) = true := by simp; omega
                          have h' : i - 1 < e.slots.length := by omega
                          have hgp : e.slots[i - 1] = slotAt e (i - 1) := (slotAt_lt h').symm
                          have hw1 : IntKind.i64.wrap ((i : Int) - 1) = ((i - 1 : Nat) : Int) := by rw [wrap_small _ (by omega) (by omega)]; omega
                          cases c3 : ((slotAt e (i - 1)).stage != 2) with
                          | true =>
                            have hno := hnc fun g => by
                              rcases (g hst).1 with g1 | g1
                              · exact h0 g1
                              · rw [g1] at c3; simp at c3
                            simp (config := { maxSteps := 4000000 }) only [go_sem, simprocAttr, ↓dnA, Try.f44, rows_length, encG, encS1, encS, nlt h, h, h', rows_get _ _ _ h, rows_get _ _ _ h', hg, hgp, nn0, hw1, c1, k0, c3, hno]
                            omega
                          | false =>
                            have hsp : (slotAt e (i - 1)).stage = 2 := by simpa using c3
                            simp (config := { maxSteps := 4000000 }) only [go_sem, simprocAttr, ↓dnA, Try.f44, rows_length, encG, encS1, encS, nlt h, h, h', rows_get _ _ _ h, rows_get _ _ _ h', hg, hgp, nn0, hw1, c1, k0, c3]
                            repeat refine And.intro (by first | omega | (simp; done) | (simp; omega) | assumption) ?_
                            refine CallTo.det hsame fun _ => ?_
                            cases c2 : currentE e i (actAt e i) (slotAt e i) with
                            | false =>
                              have hno := hnc fun g => by have := (g hst).2; rw [c2] at this; cases this
                              simp (config := { maxSteps := 4000000 }) only [go_sem, simprocAttr, ↓dnA, Try.f44, rows_length, encG, encS1, encS, nlt h, h, h', rows_get _ _ _ h, rows_get _ _ _ h', hg, hgp, nn0, hw1, c1, k0, c2, c3, hno]
                            | true =>
                              simp (config := { maxSteps := 4000000 }) only [go_sem, simprocAttr, ↓dnA, Try.f44, rows_length, encG, encS1, encS, nlt h, h, h', rows_get _ _ _ h, rows_get _ _ _ h', hg, hgp, nn0, hw1, c1, k0, c2, c3, hw]
                              refine ⟨i + 1, [(1, 1)], ⟨by omega, hcs fun _ => ⟨.inr hsp, c2⟩⟩, by dsimp only; omega, Weak.of (by rfl) ?_ ?_ (by rfl)⟩
                              · simp (config := { maxSteps := 4000000 }) only [go_sem, simprocAttr, ↓dnA, Try.f44, rows_length, encG, frW, wk2, wk1, wkL, wkB, hpW, List.mem_cons, Prod.mk.injEq, exists_eq_left, exists_eq_right, exists_eq]
                                try rfl
                              · simp (config := { maxSteps := 4000000 }) only [go_sem, simprocAttr, ↓dnA, Try.f44, rows_length, encG, frW, wk2, wk1, wkL, wkB, hpW, List.mem_cons, Prod.mk.injEq, exists_eq_left, exists_eq_right, exists_eq]
                                try rfl
                    · have hi' : i = e.slots.length := by omega
                      subst hi'
                      have hyes := engValid_yes (e := e) ⟨h1, h2, hle, hp, by rw [← hve, hvs], fun j hj => hc j hj⟩
                      simp (config := { maxSteps := 4000000 }) only [go_sem, simprocAttr, ↓dnA, Try.f44, rows_length, encG, nlf h, hyes]



end Go.Proofs.Yteebkimhfaodnaa

/- Contracts: copies of engines (the reference). -/
set_option linter.unusedSimpArgs false
set_option linter.unusedVariables false
set_option maxRecDepth 20000
set_option maxHeartbeats 4000000
namespace Go.Proofs.Yteebkimhfaodnaa
open Go Go.RowKit

theorem c_spec_l10Effect (n1 n2 : Option Bool) (e : Effect) (h1 : e.reads.length < 2 ^ 32) (h2 : e.writes.length < 2 ^ 32) : Det Try.prog 77 [.agg (encF n1 n2 e)] (.agg [.bool e.done, .osl true 2 (rows encE e.reads), .osl true 2 (rows encE e.writes)]) := by
  refine fspec_det tab_ok Try.call77 Try.func77 rfl 14 Try.ntmps77 (of_decide_eq_true rfl) fun B => codeK_sound tab_ok _ _ _ ?_
  have a1 := all_rows encE AV.flat (fun _ => rfl) e.reads
  have a2 := all_rows encE AV.one (fun _ => rfl) e.reads
  have a3 := sz0_rows encE 2 (fun _ => rfl) e.reads
  have b1 := all_rows encE AV.flat (fun _ => rfl) e.writes
  have b2 := all_rows encE AV.one (fun _ => rfl) e.writes
  have b3 := sz0_rows encE 2 (fun _ => rfl) e.writes
  simp (config := { maxSteps := 4000000 }) only [go_sem, simprocAttr, ↓dnA, Try.f77, rows_length, encF]
  refine semL_draw tab_ok mixed_ rfl (ord := [(0, []), (1, []), (3, []), (4, []), (7, []), (8, []), (2, [0, 1, 3, 4, 7, 8]), (5, [0, 1, 7, 8]), (6, [0, 1, 3, 4, 7, 8]), (9, [0, 1]), (10, []), (11, [])]) (by dsimp only; decide +kernel) ?_
  simp (config := { maxSteps := 4000000 }) only [go_sem, simprocAttr, ↓dnA, Try.f77, rows_length, encF]
  repeat refine And.intro (by first | omega | (simp; done) | (simp; omega) | assumption) ?_
  omega


theorem c_spec_l10Copy (n1 n2 n3 n4 : Option Bool) (e : Engine) (hx : EngSz (2 ^ 32) e) : Det Try.prog 47 [.agg (encG n1 n2 n3 n4 e)] (.agg (encGF e)) := by
  refine fspec_det tab_ok Try.call47 Try.func47 rfl 49 Try.ntmps47 (of_decide_eq_true rfl) fun B => codeK_sound tab_ok _ _ _ ?_
  have b1 := all_rows encE AV.flat (fun _ => rfl) e.base
  have b2 := all_rows encE AV.one (fun _ => rfl) e.base
  have b3 := sz0_rows encE 2 (fun _ => rfl) e.base
  have a1 := all_rows encA AV.flat (fun _ => rfl) e.list
  have a2 := all_rows encA AV.one (fun _ => rfl) e.list
  have a3 := sz0_rows encA 4 (fun _ => rfl) e.list
  have r1 := all_rows encR AV.flat (fun _ => rfl) e.versions
  have r2 := all_rows encR AV.one (fun _ => rfl) e.versions
  have r3 := sz0_rows encR 3 (fun _ => rfl) e.versions
  have q0 := hx.base
  have q1 := hx.list
  have q2 := hx.versions
  have q3 := hx.slots
  simp (config := { maxSteps := 4000000 }) only [go_sem, simprocAttr, ↓dnA, Try.f47, rows_length, encG]
  refine semL_draw tab_ok mixed_ rfl (ord := [(1, []), (2, []), (5, []), (6, []), (9, []), (10, []), (0, [1, 2, 5, 6, 9, 10]), (3, [5, 6, 9, 10]), (4, [1, 2, 5, 6, 9, 10]), (7, [9, 10]), (8, [1, 2, 5, 6, 9, 10]), (11, []), (12, []), (13, [1, 2, 5, 6, 9, 10, 12]), (14, [])]) (by dsimp only; decide +kernel) ?_
  simp (config := { maxSteps := 4000000 }) only [go_sem, simprocAttr, ↓dnA, Try.f47, rows_length, encG]
  repeat refine And.intro (by first | omega | (simp; done) | (simp; omega) | assumption) ?_
  refine semL_nilVA 3 3 600 6 true (by rfl) (by simp) (by rfl) (by rfl) (by decide) (by decide) ?_
  refine semL_for tab_ok (fun i : Nat => ⟨49, [(1, .loc 1 0), (2, .loc 2 0), (3, .loc 3 0), (4, .int .i64 i)],
      [(1, .var (encG n1 n2 n3 n4 e)), (2, .var [.sl (some false) [], .sl (some false) [], .sl (some false) [], .sl (some false) []]), (3, .var [.row 9 e.base.length, .row 13 e.list.length, .row 17 e.versions.length, .row 600 i]),
        (9, .row true true 2 (rows encE e.base)), (13, .row true true 4 (rows encA e.list)), (17, .row true true 3 (rows encR e.versions)), (600, .row true false 6 (rows encS1 (e.slots.take i)))]⟩) (fun i => e.slots.length - i)
    (fun i => i ≤ e.slots.length) 0 [(1, 1), (2, 2), (3, 3), (9, 9), (13, 13), (17, 17), (600, 600)] (Weak.of (by rfl) ?_ ?_ (by rfl)) (by omega) ?_
  · simp (config := { maxSteps := 4000000 }) only [go_sem, simprocAttr, ↓dnA, Try.f47, rows_length, encG, frW, wk2, wk1, wkL, wkB, hpW, List.mem_cons, Prod.mk.injEq, exists_eq_left, exists_eq_right, exists_eq]
    try rfl
  · simp (config := { maxSteps := 4000000 }) only [go_sem, simprocAttr, ↓dnA, Try.f47, rows_length, encG, frW, wk2, wk1, wkL, wkB, hpW, List.mem_cons, Prod.mk.injEq, exists_eq_left, exists_eq_right, exists_eq]
  · rintro i hi
    by_cases h : i < e.slots.length
    · have hs := hx.each _ (List.getElem_mem h)
      have hs1 := hs.fr
      have i1 := all_rows encI AV.flat (fun _ => rfl) e.slots[i].fr
      have i2 := all_rows encI AV.one (fun _ => rfl) e.slots[i].fr
      have i3 := sz0_rows encI 1 (fun _ => rfl) e.slots[i].fr
      have htk : (rows encS1 (e.slots.take i)).take i = rows encS1 (e.slots.take i) := by
        rw [List.take_of_length_le]; rw [rows_length, List.length_take]; omega
      have hl : min i e.slots.length = i := by omega
      have hw : IntKind.i64.wrap ((i : Int) + 1) = ((i + 1 : Nat) : Int) := wsucc h (by omega)
      simp (config := { maxSteps := 4000000 }) only [go_sem, simprocAttr, ↓dnA, Try.f47, rows_length, nlt h, h, encG, rows_get _ _ _ h, encS1, encS, nn0]
      refine semL_draw tab_ok mixed_ rfl (ord := [(0, []), (1, []), (2, []), (3, []), (4, []), (5, []), (7, []), (8, []), (10, []), (11, []), (6, [0, 1, 2, 3, 4, 5, 7, 8, 10, 11]), (9, [0, 1, 2, 3, 4, 5, 10, 11]), (12, [0, 1, 2, 3, 4, 5]), (13, []), (14, [0, 1]), (15, []), (16, []), (17, [])]) (by dsimp only; decide +kernel) ?_
      simp (config := { maxSteps := 4000000 }) only [go_sem, simprocAttr, ↓dnA, Try.f47, rows_length, nlt h, h, encG, rows_get _ _ _ h, encS1, encS, nn0, List.length_take, hl, htk]
      repeat refine And.intro (by first | omega | (simp; done) | (simp; omega) | assumption) ?_
      refine CallTo.det (c_spec_l10Effect none none e.slots[i].res hs.reads hs.writes) fun _ => ?_
      simp (config := { maxSteps := 4000000 }) only [go_sem, simprocAttr, ↓dnA, Try.f47, rows_length, List.length_take, hl, htk, hw]
      repeat refine And.intro (by first | omega | (simp; done) | (simp; omega) | assumption) ?_
      refine ⟨i + 1, [(1, 1), (2, 2), (3, 3), (9, 9), (13, 13), (17, 17), (46, 600)], by omega, by dsimp only; omega, Weak.of (by rfl) ?_ ?_ (by rfl)⟩
      · simp (config := { maxSteps := 4000000 }) only [go_sem, simprocAttr, ↓dnA, Try.f47, rows_length, encG, frW, wk2, wk1, wkL, wkB, hpW, List.mem_cons, Prod.mk.injEq, exists_eq_left, exists_eq_right, exists_eq]
        rw [take_snoc _ _ h, ← rows_snoc]
        try rfl
      · simp (config := { maxSteps := 4000000 }) only [go_sem, simprocAttr, ↓dnA, Try.f47, rows_length, encG, frW, wk2, wk1, wkL, wkB, hpW, List.mem_cons, Prod.mk.injEq, exists_eq_left, exists_eq_right, exists_eq]
    · have hi' : i = e.slots.length := by omega
      subst hi'
      simp (config := { maxSteps := 4000000 }) only [go_sem, simprocAttr, ↓dnA, Try.f47, rows_length, nlf h, encG, encGF, List.take_length]


end Go.Proofs.Yteebkimhfaodnaa

/- Contracts: the laws' marks. -/
set_option linter.unusedSimpArgs false
set_option linter.unusedVariables false
set_option maxRecDepth 20000
set_option maxHeartbeats 4000000
namespace Go.Proofs.Yteebkimhfaodnaa
open Go Go.RowKit

section
variable {α : Type} (e : α → List AV) (mk : α → Int → α) (st : α → Nat)

end

end Go.Proofs.Yteebkimhfaodnaa

/- Contracts: reversed lists, the way to a block. -/
set_option linter.unusedSimpArgs false
set_option linter.unusedVariables false
set_option maxRecDepth 20000
set_option maxHeartbeats 4000000
namespace Go.Proofs.Yteebkimhfaodnaa
open Go Go.RowKit

theorem semL_ghost {P : Program} {B : Base} {c : Code} {s t : AState} {Kx : Exit → AState → Prop} (hg : Ghost s t) (h : @SemL P B c t ⟨Kx⟩) : @SemL P B c s ⟨Kx⟩ := by
  intro X a w hB hR
  obtain ⟨X', e, hR'⟩ := hg X a w hR
  exact h X' a w (e.trans hB) hR'

end Go.Proofs.Yteebkimhfaodnaa

/- Contracts: a step of an engine (the reference). -/
set_option linter.unusedSimpArgs false
set_option linter.unusedVariables false
set_option maxRecDepth 20000
set_option maxHeartbeats 4000000
namespace Go.Proofs.Yteebkimhfaodnaa
open Go Go.RowKit

/-- Before a function ends its state may be seen as another one. -/
theorem semC_ghostX {P : Program} {B : Base} {c : Code} {s : AState} {Kx : Exit → AState → Prop} (h : SemC P B c (fun e s => @GhostK s ⟨Kx e⟩) s) : SemC P B c Kx s := by
  intro X a w hB hR
  refine wp_mono (h X a w hB hR) ?_
  rintro e a' w' ⟨X', s', h1, h2, t, hg, hk⟩
  obtain ⟨X2, h3, h4⟩ := hg X' a' w' h2
  exact ⟨X2, t, h3.trans h1, h4, hk⟩

/-- A slot whose writes are out is put back whole. -/
theorem slot_cells (s : Slot) (ws : List Entry) (l : Nat) (h : l ≠ 5) : (encS1 s).getD l .top = (encS1 ⟨s.stage, s.tries, s.fr, ⟨s.res.done, s.res.reads, ws⟩⟩).getD l .top := by
  unfold encS1 encS
  match l, h with
  | 0, _ => rfl
  | 1, _ => rfl
  | 2, _ => rfl
  | 3, _ => rfl
  | 4, _ => rfl
  | l + 6, _ => rfl
theorem slots_same {sl : List Slot} {k : Nat} (hk : k < sl.length) (s : Slot) (ws : List Entry) (i l : Nat) (hne : ¬ (i = k ∧ l = 5)) :
    ((rows encS1 (sl.set k s)).getD i []).getD l .top = (((rows encS1 sl).set k (encS1 ⟨s.stage, s.tries, s.fr, ⟨s.res.done, s.res.reads, ws⟩⟩)).getD i []).getD l .top := by
  rw [rows_set]
  by_cases hi : i < sl.length
  · rw [rows_get _ _ _ (by rw [List.length_set]; exact hi), rows_get _ _ _ (by rw [List.length_set]; exact hi), List.getElem_set, List.getElem_set]
    by_cases e : k = i
    · rw [if_pos e, if_pos e]
      exact slot_cells s ws l fun g => hne ⟨e.symm, g⟩
    · rw [if_neg e, if_neg e]
  · have g : ∀ L : List (List AV), L.length ≤ i → L.getD i [] = [] := fun L hL => by rw [List.getD_eq_getElem?_getD, List.getElem?_eq_none hL]; rfl
    rw [g _ (by rw [rows_length, List.length_set]; omega), g _ (by rw [rows_length, List.length_set]; omega)]
/-- The slot that was stored is put back whole. -/
theorem Ghost.closeSlot {s : AState} (id2 n k : Nat) {nn nn2 : Bool} {sl : List Slot} (t : Slot) (ws : List Entry) (hk : k < sl.length)
    (hb : s.blk 651 = .hole nn 6 ((rows encS1 sl).set k (encS1 ⟨t.stage, t.tries, t.fr, ⟨t.res.done, t.res.reads, ws⟩⟩)) k 5 (.row id2 n)) (hb2 : s.blk id2 = .row true nn2 2 (rows encE t.res.writes)) (hn : n = t.res.writes.length) :
    Ghost s { s with hp := (651, .row true nn 6 (rows encS1 (sl.set k t))) :: (id2, .dead) :: s.hp } := by
  refine Ghost.close 651 id2 k 5 _ hb hb2 (by rw [rows_length]; exact hn) (by rw [rows_length, List.length_set, List.length_set, rows_length]) (fun e he => ?_) (fun i l _ _ hne => slots_same hk t ws i l hne) ?_
  · obtain ⟨x, _, rfl⟩ := List.mem_map.1 he; rfl
  · rw [rows_get _ _ _ (by rw [List.length_set]; exact hk), List.getElem_set_self]; rfl

theorem c_spec_l11Step (n1 n2 n3 n4 : Option Bool) (e : Engine) (n : Int) (he : EngOk e) : Det Try.prog 48 [.agg (encG n1 n2 n3 n4 e), .int .i64 n] (.tup [.agg (encGF (stepE e n).1), .bool (stepE e n).2]) := by
  refine fspec_det tab_ok Try.call48 Try.func48 rfl 103 Try.ntmps48 (of_decide_eq_true rfl) fun B => semC_ghostX (codeK_sound tab_ok _ _ _ ?_)
  have hs := he.sz
  have h10 := he.len10
  have hll := he.len
  have hin : ∀ x lo hi : Int, Det Try.prog 32 [.int .i64 x, .int .i64 lo, .int .i64 hi] (.bool (inB x lo hi)) := c_spec_l1In
  simp (config := { maxSteps := 4000000 }) only [go_sem, simprocAttr, ↓dnA, Try.f48, rows_length, encG]
  refine CallTo.det (c_spec_l10Copy n1 n2 n3 n4 e hs) fun _ => ?_
  have hw0 : IntKind.i64.wrap ((e.slots.length : Int) - 1) = (e.slots.length : Int) - 1 := wrap_small _ (by omega) (by omega)
  simp (config := { maxSteps := 4000000 }) only [go_sem, simprocAttr, ↓dnA, Try.f48, rows_length, encG, encGF, hw0]
  refine CallTo.det (hin _ _ _) fun _ => ?_
  cases c0 : inB n 0 ((e.slots.length : Int) - 1) with
  | false =>
    have hst : stepE e n = (e, false) := by
      unfold stepE
      rw [if_neg (fun g => by have := inB_iff.2 (show 0 ≤ n ∧ n ≤ (e.slots.length : Int) - 1 by omega); rw [c0] at this; cases this)]
    rw [hst]
    simp (config := { maxSteps := 4000000 }) only [go_sem, simprocAttr, ↓dnA, Try.f48, rows_length, encG, encGF, c0]
    refine GhostK.go _ (Ghost.refl _) ?_
    simp (config := { maxSteps := 4000000 }) only [go_sem, simprocAttr, ↓dnA, Try.f48, rows_length, encG, encGF]
  | true =>
    have c0' := inB_iff.1 c0
    obtain ⟨k, rfl⟩ : ∃ k : Nat, n = (k : Int) := ⟨n.toNat, by omega⟩
    have hk : k < e.slots.length := by omega
    have hst : stepE e (k : Int) = stepN e k := by
      unfold stepE
      rw [if_pos (by omega)]; rfl
    rw [hst]
    have hg : e.slots[k] = slotAt e k := (slotAt_lt hk).symm
    have hka : k < e.list.length := by omega
    have hga : e.list[k] = actAt e k := (actAt_lt hka).symm
    have hso := he.slot k hk
    rcases he.stage k with hs0 | hs1 | hs2
    · have d0 : ((slotAt e k).stage == 0) = true := by rw [hs0]; rfl
      cases t0 : ((slotAt e k).tries == 1000) with
      | true =>
        have hN : stepN e k = (e, false) := by unfold stepN; rw [if_pos hs0, if_pos (by simpa using t0)]
        rw [hN]
        simp (config := { maxSteps := 4000000 }) only [go_sem, simprocAttr, ↓dnA, Try.f48, rows_length, encG, encGF, c0, hk, rows_get _ _ _ hk, hg, encS1, encS, nn0, d0, t0]
        repeat refine And.intro (by first | omega | (simp; done) | (simp; omega) | assumption) ?_
        refine GhostK.go _ (Ghost.refl _) ?_
        simp (config := { maxSteps := 4000000 }) only [go_sem, simprocAttr, ↓dnA, Try.f48, rows_length, encG, encGF]
      | false =>
        have hN : stepN e k = (setE e k ⟨1, (slotAt e k).tries + 1, tryW e k (actAt e k), tryE e k (actAt e k)⟩ (putVs e.versions k (tryE e k (actAt e k)).writes), true) := by
          unfold stepN; rw [if_pos hs0, if_neg (by simpa using t0)]
        rw [hN]
        simp (config := { maxSteps := 4000000 }) only [go_sem, simprocAttr, ↓dnA, Try.f48, rows_length, encG, encGF, c0, hk, rows_get _ _ _ hk, hg, encS1, encS, nn0, d0, t0]
        repeat refine And.intro (by first | omega | (simp; done) | (simp; omega) | assumption) ?_
        refine semL_ghost (Ghost.weak (t := ⟨103, [(1, .int .i64 k), (2, .loc 2 0), (4, .loc 4 0), (6, .loc 6 0), (7, .loc 7 0)],
          [(2, .var (encG n1 n2 n3 n4 e)), (4, .var [.sl (some false) [], .sl (some false) [], .sl (some false) [], .sl (some false) []]), (6, .var [.row 12000 e.base.length, .row 12001 e.list.length, .row 12002 e.versions.length, .row 651 e.slots.length]),
            (7, .var (encS1 (slotAt e k))), (12000, .row true false 2 (rows encE e.base)), (12001, .row true false 4 (rows encA e.list)), (12002, .row true false 3 (rows encR e.versions)), (651, .row true false 6 (rows encS1 e.slots))]⟩)
          (ρ := [(2, 2), (4, 4), (6, 6), (7, 7), (12000, 12000), (12001, 12001), (12002, 12002), (12003, 651)]) (Weak.of (by rfl) ?_ ?_ (by rfl))) ?_
        · simp (config := { maxSteps := 4000000 }) only [go_sem, simprocAttr, ↓dnA, Try.f48, rows_length, encG, encS1, encS, frW, wk2, wk1, wkL, wkB, hpW, List.mem_cons, Prod.mk.injEq, exists_eq_left, exists_eq_right, exists_eq]
          try rfl
        · simp (config := { maxSteps := 4000000 }) only [go_sem, simprocAttr, ↓dnA, Try.f48, rows_length, encG, encS1, encS, frW, wk2, wk1, wkL, wkB, hpW, List.mem_cons, Prod.mk.injEq, exists_eq_left, exists_eq_right, exists_eq]
          try rfl
        have hb1 := fun k' => he.seen_bd (n := k) (by omega) k'
        have htr := c_spec_l10Try n1 n3 e k (actAt e k) (by have := hs.base; omega) (by have := hs.versions; omega) (act_valid he.list (n := k) (by omega)) fun k' => (hb1 k').1
        simp (config := { maxSteps := 4000000 }) only [go_sem, simprocAttr, ↓dnA, Try.f48, rows_length, encG, encGF]
        refine semL_draw tab_ok mixed_ rfl (ord := [(0, []), (1, []), (2, []), (3, []), (4, []), (5, []), (6, []), (7, []), (8, []), (9, []), (10, []), (11, []), (12, []), (13, []), (14, [0, 1, 2, 3, 4, 5, 6, 7, 8, 9, 11, 12, 13]), (15, [13]), (16, [])]) (by dsimp only; decide +kernel) ?_
        simp (config := { maxSteps := 4000000 }) only [go_sem, simprocAttr, ↓dnA, Try.f48, rows_length, encG, encGF, encS1, encS, hka, rows_get _ _ _ hka, hga, encA, nn0]
        repeat refine And.intro (by first | omega | (simp; done) | (simp; omega) | assumption) ?_
        refine CallTo.det htr fun _ => ?_
        simp (config := { maxSteps := 4000000 }) only [go_sem, simprocAttr, ↓dnA, Try.f48, rows_length, encG, encGF, encS1, encS, encFO, hk, rows_get _ _ _ hk, hg, hka, rows_get _ _ _ hka, hga, encA, nn0]
        repeat refine And.intro (by first | omega | (simp; done) | (simp; omega) | assumption) ?_
        have hto := he.tries k
        have hwl := slotOk_wlen (try_ok he hk (t := 1) (by omega))
        have hwl1 : (tryE e k (actAt e k)).writes.length ≤ 2 := hwl.1
        refine CallTo.det (c_spec_l9Put n3 none e.versions k (tryE e k (actAt e k)).writes (by have := hs.versions; omega) (by omega)) fun _ => ?_
        have hwt : IntKind.i64.wrap ((slotAt e k).tries + 1) = (slotAt e k).tries + 1 := wrap_small _ (by omega) (by omega)
        simp (config := { maxSteps := 4000000 }) only [go_sem, simprocAttr, ↓dnA, Try.f48, rows_length, encG, encGF, encS1, encS, encFO, hk, rows_get _ _ _ hk, hg, hka, rows_get _ _ _ hka, hga, encA, nn0, hwt]
        refine GhostK.go _ (Ghost.closeSlot 45002 _ k ⟨1, (slotAt e k).tries + 1, tryW e k (actAt e k), tryE e k (actAt e k)⟩ (slotAt e k).res.writes hk (by rfl) (by rfl) (by rfl)) ?_
        simp (config := { maxSteps := 4000000 }) only [go_sem, simprocAttr, ↓dnA, Try.f48, rows_length, encGF, setE, List.length_set]
    · have d0 : ((slotAt e k).stage == 0) = false := by rw [hs1]; rfl
      have d1 : ((slotAt e k).stage == 1) = true := by rw [hs1]; rfl
      have hz0 : ¬ (slotAt e k).stage = 0 := by omega
      have hs1' := slotOk_one hso hz0
      have hro := hs1'.2.2.1
      unfold readsOk at hro
      simp only [Bool.and_eq_true, decide_eq_true_eq] at hro
      have hkk := hro.1.1.1
      have hfl : (slotAt e k).fr.length = (slotAt e k).res.reads.length := by rw [hro.1.2, ← hkk, List.length_map]
      have hsame := c_spec_l10Same n1 n2 n3 n4 e k hs hk hkk hfl
      have hset2 : (rows encS1 e.slots).set k [.int .i64 2, .int .i64 (slotAt e k).tries, .sl none (rows encI (slotAt e k).fr), .bool (slotAt e k).res.done, .sl none (rows encE (slotAt e k).res.reads), .sl none (rows encE (slotAt e k).res.writes)] = rows encS1 (e.slots.set k ⟨2, (slotAt e k).tries, (slotAt e k).fr, (slotAt e k).res⟩) := rows_set encS1 _ _ ⟨2, (slotAt e k).tries, (slotAt e k).fr, (slotAt e k).res⟩
      have hset0 : (rows encS1 e.slots).set k [.int .i64 0, .int .i64 (slotAt e k).tries, .sl none [], .bool false, .sl none [], .sl none []] = rows encS1 (e.slots.set k ⟨0, (slotAt e k).tries, [], ⟨false, [], []⟩⟩) := rows_set encS1 _ _ ⟨0, (slotAt e k).tries, [], ⟨false, [], []⟩⟩
      by_cases h0 : k = 0
      · have k0 : decide ((k : Int) > 0) = false := by simp; omega
        have hN : stepN e k = if currentE e k (actAt e k) (slotAt e k) then (setE e k ⟨2, (slotAt e k).tries, (slotAt e k).fr, (slotAt e k).res⟩ e.versions, true) else (setE e k ⟨0, (slotAt e k).tries, [], ⟨false, [], []⟩⟩ (dropV k e.versions), true) := by
          unfold stepN; rw [if_neg hz0, if_pos hs1, if_neg (by omega)]
        rw [hN]
        simp (config := { maxSteps := 4000000 }) only [go_sem, simprocAttr, ↓dnA, Try.f48, rows_length, encG, encGF, c0, hk, rows_get _ _ _ hk, hg, encS1, encS, nn0, d0, d1, k0]
        repeat refine And.intro (by first | omega | (simp; done) | (simp; omega) | assumption) ?_
        refine CallTo.det hsame fun _ => ?_
        cases c2 : currentE e k (actAt e k) (slotAt e k) with
        | true =>
          simp (config := { maxSteps := 4000000 }) only [go_sem, simprocAttr, ↓dnA, Try.f48, rows_length, encG, encGF, c0, hk, rows_get _ _ _ hk, hg, encS1, encS, nn0, d0, d1, c2]
          repeat refine And.intro (by first | omega | (simp; done) | (simp; omega) | assumption) ?_
          refine GhostK.go _ (Ghost.refl _) ?_
          simp (config := { maxSteps := 4000000 }) only [go_sem, simprocAttr, ↓dnA, Try.f48, rows_length, encGF, setE, List.length_set, hset2]
        | false =>
          simp (config := { maxSteps := 4000000 }) only [go_sem, simprocAttr, ↓dnA, Try.f48, rows_length, encG, encGF, c0, hk, rows_get _ _ _ hk, hg, encS1, encS, nn0, d0, d1, c2]
          repeat refine And.intro (by first | omega | (simp; done) | (simp; omega) | assumption) ?_
          refine CallTo.det (c_spec_l9Drop n3 e.versions k (by have := hs.versions; omega)) fun _ => ?_
          simp (config := { maxSteps := 4000000 }) only [go_sem, simprocAttr, ↓dnA, Try.f48, rows_length, encG, encGF, c0, hk, rows_get _ _ _ hk, hg, encS1, encS, nn0, d0, d1, c2]
          refine GhostK.go _ (Ghost.refl _) ?_
          simp (config := { maxSteps := 4000000 }) only [go_sem, simprocAttr, ↓dnA, Try.f48, rows_length, encGF, setE, List.length_set, hset0]
      · have k0 : decide ((k : Int) > 0) = true := by simp; omega
        have hk' : k - 1 < e.slots.length := by omega
        have hgp : e.slots[k - 1] = slotAt e (k - 1) := (slotAt_lt hk').symm
        have hw1 : IntKind.i64.wrap ((k : Int) - 1) = ((k - 1 : Nat) : Int) := by rw [wrap_small _ (by omega) (by omega)]; omega
        cases c3 : ((slotAt e (k - 1)).stage != 2) with
        | true =>
          have hN : stepN e k = (e, false) := by
            unfold stepN; rw [if_neg hz0, if_pos hs1, if_pos ⟨by omega, by simpa using c3⟩]
          rw [hN]
          simp (config := { maxSteps := 4000000 }) only [go_sem, simprocAttr, ↓dnA, Try.f48, rows_length, encG, encGF, c0, hk, hk', rows_get _ _ _ hk, rows_get _ _ _ hk', hg, hgp, encS1, encS, nn0, hw1, d0, d1, k0, c3]
          repeat refine And.intro (by first | omega | (simp; done) | (simp; omega) | assumption) ?_
          refine GhostK.go _ (Ghost.refl _) ?_
          simp (config := { maxSteps := 4000000 }) only [go_sem, simprocAttr, ↓dnA, Try.f48, rows_length, encG, encGF]
        | false =>
          have hN : stepN e k = if currentE e k (actAt e k) (slotAt e k) then (setE e k ⟨2, (slotAt e k).tries, (slotAt e k).fr, (slotAt e k).res⟩ e.versions, true) else (setE e k ⟨0, (slotAt e k).tries, [], ⟨false, [], []⟩⟩ (dropV k e.versions), true) := by
            unfold stepN; rw [if_neg hz0, if_pos hs1, if_neg (fun g => g.2 (by simpa using c3))]
          rw [hN]
          simp (config := { maxSteps := 4000000 }) only [go_sem, simprocAttr, ↓dnA, Try.f48, rows_length, encG, encGF, c0, hk, hk', rows_get _ _ _ hk, rows_get _ _ _ hk', hg, hgp, encS1, encS, nn0, hw1, d0, d1, k0, c3]
          repeat refine And.intro (by first | omega | (simp; done) | (simp; omega) | assumption) ?_
          refine CallTo.det hsame fun _ => ?_
          cases c2 : currentE e k (actAt e k) (slotAt e k) with
          | true =>
            simp (config := { maxSteps := 4000000 }) only [go_sem, simprocAttr, ↓dnA, Try.f48, rows_length, encG, encGF, c0, hk, rows_get _ _ _ hk, hg, encS1, encS, nn0, d0, d1, c2]
            repeat refine And.intro (by first | omega | (simp; done) | (simp; omega) | assumption) ?_
            refine GhostK.go _ (Ghost.refl _) ?_
            simp (config := { maxSteps := 4000000 }) only [go_sem, simprocAttr, ↓dnA, Try.f48, rows_length, encGF, setE, List.length_set, hset2]
          | false =>
            simp (config := { maxSteps := 4000000 }) only [go_sem, simprocAttr, ↓dnA, Try.f48, rows_length, encG, encGF, c0, hk, rows_get _ _ _ hk, hg, encS1, encS, nn0, d0, d1, c2]
            repeat refine And.intro (by first | omega | (simp; done) | (simp; omega) | assumption) ?_
            refine CallTo.det (c_spec_l9Drop n3 e.versions k (by have := hs.versions; omega)) fun _ => ?_
            simp (config := { maxSteps := 4000000 }) only [go_sem, simprocAttr, ↓dnA, Try.f48, rows_length, encG, encGF, c0, hk, rows_get _ _ _ hk, hg, encS1, encS, nn0, d0, d1, c2]
            refine GhostK.go _ (Ghost.refl _) ?_
            simp (config := { maxSteps := 4000000 }) only [go_sem, simprocAttr, ↓dnA, Try.f48, rows_length, encGF, setE, List.length_set, hset0]
    · have d0 : ((slotAt e k).stage == 0) = false := by rw [hs2]; rfl
      have d1 : ((slotAt e k).stage == 1) = false := by rw [hs2]; rfl
      have hN : stepN e k = (e, false) := by unfold stepN; rw [if_neg (by omega), if_neg (by omega)]
      rw [hN]
      simp (config := { maxSteps := 4000000 }) only [go_sem, simprocAttr, ↓dnA, Try.f48, rows_length, encG, encGF, c0, hk, rows_get _ _ _ hk, hg, encS1, encS, nn0, d0, d1]
      repeat refine And.intro (by first | omega | (simp; done) | (simp; omega) | assumption) ?_
      refine GhostK.go _ (Ghost.refl _) ?_
      simp (config := { maxSteps := 4000000 }) only [go_sem, simprocAttr, ↓dnA, Try.f48, rows_length, encG, encGF]


end Go.Proofs.Yteebkimhfaodnaa

