/- Shared texts H (part 4): Ai53, Ai54, Ai55, AiT, AiS, W1, W2, W3, W4, W5, W6, W7, W8, W9, W10, W11, W12, W13, W14, W15, W16, W17, W18, W19, W20, W21, W22, W23, W24, W25, Ty1, W33, W35, W42, W44, W175, Ty8 -/
import Derived.Test.YteebkimhfaodnaaGreatChecked
import Derived.Shelf.SlSortCmp.NoneTotal
import Derived.Test.YteebkimhfaodnaaGreatH3

set_option linter.unusedSimpArgs false
set_option linter.unusedVariables false

/- A contract of a function that writes into rows that are lent to it, out of its body. -/
namespace Go.Proofs.YteebkimhfaodnaaGreat
open Go Go.RowKit

/-- The state at the beginning of such a function. -/
def startM (nt : Nat) (args ls : List AV) : AState := { nt := nt, fr := argsIn 0 args, hp := impLB 800 ls }

def lentBx (lv : Nat → Value) (m i : Nat) : Option (Option Nat × Nat) := if 800 ≤ i ∧ i < 800 + m then some (blockOf (lv (i - 800)), capOf (lv (i - 800))) else none

/-- What the rows hold at the end. -/
def lentEnd (s : AState) : Nat → List AV → (List AV → Prop) → Prop
  | _, [], K => K []
  | n, .osl nn sz es :: r, K => (match s.blk n with
    | .row true nn' sz' es' => (nn' = nn ∧ sz' = sz ∧ es'.length = es.length) ∧ lentEnd s (n + 1) r fun ls' => K (.osl nn' sz' es' :: ls')
    | _ => False)
  | _, _, _ => False

def flatRes : AV → Bool
  | .int _ _ => true
  | .bool _ => true
  | .tup [] => true
  | _ => false

def exitKM (T : Tab) (s : AState) (rs : List ResultVar) (ls : List AV) (Q : AV → List AV → Prop) : Prop :=
  resK T s rs fun vals => flatRes (packA vals) = true ∧ lentEnd s 800 ls fun ls' => Q (packA vals) ls'

theorem impLB_get : ∀ (ls : List AV) (n : Nat) (r : List (Nat × ABlk)), (∀ (i : Nat) a, ls[i]? = some a → ∃ nn sz es, a = .osl nn sz es) →
    (∀ i nn sz es, ls[i]? = some (AV.osl nn sz es) → getL .none (impLB n ls ++ r) (n + i) = .row true nn sz es) ∧ ∀ id, ¬ (n ≤ id ∧ id < n + ls.length) → getL .none (impLB n ls ++ r) id = getL .none r id
  | [], n, r, _ => ⟨fun i nn sz es hi => by simp at hi, fun id _ => rfl⟩
  | a :: ls, n, r, h => by
    obtain ⟨nn0, sz0, es0, rfl⟩ := h 0 a rfl
    obtain ⟨g1, g2⟩ := impLB_get ls (n + 1) r (fun i a hi => h (i + 1) a (by simpa using hi))
    constructor
    · intro i nn sz es hi
      show getL ABlk.none ((n, ABlk.row true nn0 sz0 es0) :: (impLB (n + 1) ls ++ r)) (n + i) = _
      rw [getL_cons]
      cases i with
      | zero =>
        rw [if_pos (Nat.add_zero n)]
        simp only [List.getElem?_cons_zero, Option.some.injEq, AV.osl.injEq] at hi
        obtain ⟨rfl, rfl, rfl⟩ := hi
        rfl
      | succ i =>
        rw [if_neg (by omega)]
        have := g1 i nn sz es (by simpa using hi)
        rwa [show n + 1 + i = n + (i + 1) by omega] at this
    · intro id hid
      show getL ABlk.none ((n, ABlk.row true nn0 sz0 es0) :: (impLB (n + 1) ls ++ r)) id = _
      rw [List.length_cons] at hid
      rw [getL_cons, if_neg (by omega)]
      exact g2 id (by omega)

theorem LArg.vrel {X : Ctx} {kd : Nat → Kd} {w : World} {S : Nat → Prop} {lv : Nat → Value} {ls : List AV} {LF : Nat → Nat → Prop} (hL : Lents w lv ls LF) (hS : ∀ x, S x → X.Sh x)
    (hat : ∀ i, i < ls.length → X.at_ (800 + i) = blockOf (lv i) ∧ X.cap (800 + i) = capOf (lv i)) (hkd : ∀ i nn sz es, ls[i]? = some (AV.osl nn sz es) → kd (800 + i) = .row sz)
    {v : Value} {a : AV} (h : LArg w S lv ls v a) : VRel X kd w v a ∧ argIn a = a := by
  induction h with
  | pure v a h =>
    refine ⟨.pure (h.mono hS), ?_⟩
    cases h <;> rfl
  | row j nn sz es hj =>
    refine ⟨?_, rfl⟩
    have hlt := (List.getElem?_eq_some_iff.1 hj).1
    obtain ⟨g1, g2⟩ := hat j hlt
    obtain ⟨nn', sz', es', e, hO⟩ := hL.own j _ hj
    cases e
    have hk := hkd j nn sz es hj
    obtain ⟨_, _, hO⟩ := hO
    rcases hO with ⟨e1, e2, _, _⟩ | ⟨b, cap, c, ty, FF, e1, _⟩
    · rw [e1] at g1 ⊢
      rw [e2]
      exact .rowN _ sz hk g1
    · rw [e1] at g1 g2 ⊢
      have : cap = X.cap (800 + j) := g2.symm
      rw [this]
      exact .row _ _ sz b hk g1
  | agg vs cs hl _ ih => exact ⟨.agg vs cs hl fun i hi => (ih i hi).1, rfl⟩

theorem R.lentStart {w : World} {S : Nat → Prop} {vs : Array Value} {nt : Nat} {args ls : List AV} {lv : Nat → Value} {LF : Nat → Nat → Prop} (hl : vs.size = args.length)
    (hargs : ∀ (i : Nat) (_ : i < args.length), LArg w S lv ls (vs.getD i undef) (args.getD i .top)) (hL : Lents w lv ls LF) (hM : ∀ x, LM ls LF x → ¬ S x) (hn : ls.length < 100) (hnt : args.length ≤ nt) :
    ∃ X : Ctx, X.base = ⟨w, LM ls LF, S, lentBx lv ls.length⟩ ∧ R X (startM nt args ls) { tmps := vs ++ Array.replicate (nt - vs.size) undef, defers := [] } w := by
  classical
  let own : Nat → Option Nat := fun x => if hx : ∃ j, j < ls.length ∧ LF j x then some (800 + hx.choose) else none
  have hown : ∀ j x, j < ls.length → (own x = some (800 + j) ↔ LF j x) := by
    intro j x hj
    constructor
    · intro h
      have h : (if hx : ∃ j, j < ls.length ∧ LF j x then some (800 + hx.choose) else none) = some (800 + j) := h
      split at h
      · rename_i hx
        have hs := hx.choose_spec
        have : hx.choose = j := by have := Option.some.inj h; omega
        rw [this] at hs
        exact hs.2
      · cases h
    · intro h
      have hx : ∃ j, j < ls.length ∧ LF j x := ⟨j, hj, h⟩
      show (if hx : ∃ j, j < ls.length ∧ LF j x then some (800 + hx.choose) else none) = _
      rw [dif_pos hx]
      have hs := hx.choose_spec
      rw [hL.dis _ j x hs.1 hj hs.2 h]
  have hwho : ∀ x id, own x = some id → ∃ j, j < ls.length ∧ LF j x ∧ id = 800 + j := by
    intro x id h
    have h' : (if hx : ∃ j, j < ls.length ∧ LF j x then some (800 + hx.choose) else none) = some id := h
    split at h'
    · rename_i hx
      exact ⟨hx.choose, hx.choose_spec.1, hx.choose_spec.2, (Option.some.inj h').symm⟩
    · cases h'
  let X : Ctx := { base := ⟨w, LM ls LF, S, lentBx lv ls.length⟩, at_ := fun i => if 800 ≤ i ∧ i < 800 + ls.length then blockOf (lv (i - 800)) else none, cap := fun i => if 800 ≤ i ∧ i < 800 + ls.length then capOf (lv (i - 800)) else 0, own := own }
  have hat : ∀ i, i < ls.length → X.at_ (800 + i) = blockOf (lv i) ∧ X.cap (800 + i) = capOf (lv i) := by
    intro i hi
    have e : 800 + i - 800 = i := by omega
    refine ⟨?_, ?_⟩
    · show (if 800 ≤ 800 + i ∧ 800 + i < 800 + ls.length then blockOf (lv (800 + i - 800)) else none) = _
      rw [if_pos ⟨by omega, by omega⟩, e]
    · show (if 800 ≤ 800 + i ∧ 800 + i < 800 + ls.length then capOf (lv (800 + i - 800)) else 0) = _
      rw [if_pos ⟨by omega, by omega⟩, e]
  obtain ⟨hb1, hb2⟩ := impLB_get ls 800 [] (fun i a hi => by obtain ⟨nn, sz, es, e, _⟩ := hL.own i a hi; exact ⟨nn, sz, es, e⟩)
  have hblk : ∀ i, (startM nt args ls).blk i = getL .none (impLB 800 ls ++ []) i := by
    intro i; rw [List.append_nil]; rfl
  have hSh : ∀ x, S x → X.Sh x := by
    intro x hx
    refine ⟨?_, .inl hx⟩
    cases e : X.own x with
    | none => rfl
    | some id =>
      obtain ⟨j, h1, h2, _⟩ := hwho x id e
      exact absurd hx (hM x ⟨j, h1, h2⟩)
  have hkd : ∀ i nn sz es, ls[i]? = some (AV.osl nn sz es) → (startM nt args ls).kds (800 + i) = .row sz := by
    intro i nn sz es hi
    unfold AState.kds
    rw [hblk, hb1 i nn sz es hi]; rfl
  refine ⟨X, rfl, ?_, rfl, ?_, ?_, ?_, rfl, rfl, rfl, Nat.le_refl _, fun _ _ _ => rfl, ?_⟩
  · show (vs ++ Array.replicate (nt - vs.size) undef).size = nt
    simp; omega
  · intro i
    show VRel X _ w ((vs ++ Array.replicate (nt - vs.size) undef).getD i undef) (getL .top (argsIn 0 args) i)
    rw [argsIn_get]
    by_cases hi : i < args.length
    · rw [if_pos ⟨Nat.zero_le _, by omega⟩, Nat.sub_zero]
      have e : (vs ++ Array.replicate (nt - vs.size) undef).getD i undef = vs.getD i undef := by
        have h1 : i < vs.size := by omega
        simp [Array.getD_eq_getD_getElem?, Array.getElem?_append, h1]
      rw [e]
      obtain ⟨g1, g2⟩ := (hargs i hi).vrel hL hSh hat hkd
      rw [g2]; exact g1
    · rw [if_neg (by omega)]; exact .top _
  · intro id
    rw [hblk]
    by_cases hid : 800 ≤ id ∧ id < 800 + ls.length
    · obtain ⟨j, rfl⟩ : ∃ j, id = 800 + j := ⟨id - 800, by omega⟩
      have hj : j < ls.length := by omega
      obtain ⟨nn, sz, es, e, hO⟩ := hL.own j ls[j] (List.getElem?_eq_getElem hj)
      have hj' : ls[j]? = some (AV.osl nn sz es) := by rw [List.getElem?_eq_getElem hj, e]
      rw [hb1 j nn sz es hj']
      obtain ⟨g1, g2⟩ := hat j hj
      obtain ⟨hz, hls, hO⟩ := hO
      refine ⟨hz, hls, ?_⟩
      rcases hO with ⟨e1, e2, e3, e4⟩ | ⟨b, cap, c, ty, FF, e1, e2, e3, e4, f1, f2, f3, f4⟩
      · rw [e1] at g1
        exact .inl ⟨g1, e3, e2, fun x hx => e4 x ((hown j x hj).1 hx)⟩
      · rw [e1] at g1 g2
        have hc : X.cap (800 + j) = cap := g2
        exact .inr ⟨b, c, ty, g1, e2, by rw [hc]; exact e3, by rw [hc]; exact e4.1, fun e => by rw [hc]; exact e4.2 e, .inl ⟨rfl, FF, f1, f2, f3, fun x => (hown j x hj).trans (f4 x)⟩⟩
    · rw [hb2 id hid]
      intro x hx
      obtain ⟨j, h1, _, h2⟩ := hwho x id hx
      exact hid ⟨by omega, by omega⟩
  · intro x id hx
    obtain ⟨j, h1, h2, _⟩ := hwho x id hx
    obtain ⟨nn, sz, es, _, hO⟩ := hL.own j ls[j] (List.getElem?_eq_getElem h1)
    exact ⟨hO.lt x h2, .inl ⟨j, h1, h2⟩⟩
  · intro i p hi hp
    have hp' : (if 800 ≤ i ∧ i < 800 + ls.length then some (blockOf (lv (i - 800)), capOf (lv (i - 800))) else none) = some p := hp
    split at hp'
    · rename_i e
      cases hp'
      show (if 800 ≤ i ∧ i < 800 + ls.length then _ else _) = _ ∧ (if 800 ≤ i ∧ i < 800 + ls.length then _ else _) = _
      rw [if_pos e, if_pos e]
      exact ⟨rfl, rfl⟩
    · cases hp'

theorem lentEnd_spec (s : AState) : ∀ (ls : List AV) (n : Nat) (K : List AV → Prop), lentEnd s n ls K → ∃ ls', K ls' ∧ lkL ls ls' ∧ ∀ (i : Nat) (a : AV), ls'[i]? = some a → ∃ nn sz es es0, a = .osl nn sz es ∧ s.blk (n + i) = .row true nn sz es ∧ ls[i]? = some (.osl nn sz es0) ∧ es.length = es0.length
  | [], n, K, hK => ⟨[], hK, trivial, fun i a hi => by simp at hi⟩
  | a :: ls, n, K, hK => by
    cases a <;> try exact hK.elim
    rename_i nn sz es
    unfold lentEnd at hK
    split at hK
    · rename_i nn' sz' es' hb
      obtain ⟨⟨rfl, rfl, hle⟩, hK⟩ := hK
      obtain ⟨ls', h1, h2, h3⟩ := lentEnd_spec s ls (n + 1) _ hK
      refine ⟨_, h1, ⟨⟨rfl, rfl⟩, h2⟩, fun i a hi => ?_⟩
      cases i with
      | zero =>
        simp only [List.getElem?_cons_zero, Option.some.injEq] at hi
        exact ⟨_, _, _, _, hi.symm, hb, rfl, hle⟩
      | succ i =>
        have := h3 i a (by simpa using hi)
        rw [show n + 1 + i = n + (i + 1) by omega] at this
        simpa using this
    · exact hK.elim

theorem fspec_introM {P : Program} {T : Tab} (hT : TabOk P T) {k : FuncId} {fn : Func} {c : Code} {args ls : List AV} {Q : AV → List AV → Prop}
    (hcall : ∀ (vs : Array Value) (w : World), (callFunc k vs).run P w = .ok (.enter k vs) w) (hf : P.funcs[k]? = some fn) (hbody : fn.body = some c) (nt : Nat) (hnt : fn.ntmps = nt) (hlen : args.length ≤ nt) (hn : ls.length < 100)
    (hsem : ∀ B : Base, SemC P B c (fun e s => (e = .normal ∨ e = .ret) ∧ exitKM T s fn.results.toList ls Q) (startM nt args ls)) : FSpecM P k args ls Q := by
  refine ⟨hcall, fun w S vs lv LF h1 h2 h3 h4 => ?_⟩
  subst hnt
  obtain ⟨X, hX, hR⟩ := R.lentStart h1 h2 h3 h4 hn hlen
  refine calls_of_wp hf hbody ?_
  refine wp_mono (hsem _ X _ w rfl hR) ?_
  rintro e a' w' ⟨X', s', hXb, hR', he, hK⟩
  rw [hX] at hXb
  have key : bodyPost P fn (fun e w' => ∃ v r ls' LF', e = .returned v ∧ Q r ls' ∧ WFrame w w' (LM ls LF) ∧ Reads w' (fun _ => False) v r ∧ lkL ls ls' ∧ Lents w' lv ls' LF' ∧
      ∀ x, LM ls' LF' x → LM ls LF x ∨ w.heap.size ≤ x) .normal a' w' := by
    refine ⟨hR'.df, ?_⟩
    unfold exitKM at hK
    obtain ⟨vals, avs, hK, hl1, hl2, hv, hrun⟩ := resK_sound (P := P) hT hR' _ _ hK
    obtain ⟨hfl, hK⟩ := hK
    obtain ⟨ls', hQ, hlk, hls⟩ := lentEnd_spec s' ls 800 _ hK
    obtain ⟨hlen', _⟩ := lkL_get hlk
    have hrun' := results_run (fn := fn) hrun
    have hW : WFrame w w' (LM ls LF) := by
      have h5 := hR'.os; have h6 := hR'.tape; have h7 := hR'.output; have h8 := hR'.size; have h9 := hR'.old
      rw [hXb] at h5 h6 h7 h8 h9
      exact ⟨h5, h6, h7, h8, h9⟩
    refine ⟨packV vals, hrun', packV vals, packA avs, ls', fun i x => X'.own x = some (800 + i), rfl, hQ, hW, ?_, hlk, ⟨?_, ?_⟩, ?_⟩
    · match vals, avs, hl1 with
      | [], [], _ => exact .tup #[] [] rfl (fun i hi => absurd hi (by simp))
      | [v], [c'], _ =>
        have h0 := hv 0 (by simp)
        rw [getD_zero, getD_zero] at h0
        show Reads w' _ v c'
        replace hfl : flatRes c' = true := hfl
        clear hrun hK hQ
        cases c' <;> try (cases hfl; done)
        case int => rw [h0.int_inv]; exact .int _ _
        case bool => rw [h0.bool_inv]; exact .bool _
        case tup vs _ =>
          match vs, hfl, h0 with
          | [], _, h0 =>
            obtain ⟨us, e, hl, _⟩ := h0.tup_inv
            rw [e]
            exact .tup us [] hl (fun i hi => absurd hi (by simp))
      | v1 :: v2 :: vr, c1 :: c2 :: cr, _ => cases hfl
    · intro i a hi
      obtain ⟨nn, sz, es, es1, rfl, hb, hls1, hle⟩ := hls i a hi
      refine ⟨nn, sz, es, rfl, ?_⟩
      have hlt := (List.getElem?_eq_some_iff.1 hi).1
      have hB := hR'.bl (800 + i)
      rw [hb] at hB
      have hfx := hR'.bx (800 + i) (blockOf (lv i), capOf (lv i)) ⟨by omega, by omega⟩ (by
        rw [hXb]
        show (if 800 ≤ 800 + i ∧ 800 + i < 800 + ls.length then _ else _) = _
        rw [if_pos ⟨by omega, by omega⟩, show 800 + i - 800 = i by omega])
      obtain ⟨f1, f2⟩ := hfx
      obtain ⟨nn0, sz0, es0, e0, hO⟩ := h3.own i _ hls1
      cases e0
      obtain ⟨hz, hll, hB⟩ := hB
      refine ⟨hz, hll, ?_⟩
      obtain ⟨_, _, hO⟩ := hO
      rcases hO with ⟨q1, q2, q3, q4⟩ | ⟨b0, cap0, c0, ty0, FF0, q1, _, _, _⟩
      · rw [q1] at f1
        rcases hB with ⟨e1, e2, e3, e4⟩ | ⟨b, cc, ty, e1, _⟩
        · exact .inl ⟨q1, e3, e2, e4⟩
        · rw [e1] at f1; cases f1
      · rw [q1] at f1 f2
        rcases hB with ⟨e1, e2, e3, e4⟩ | ⟨b, cc, ty, e1, e2, e3, e4, e6⟩
        · rw [e1] at f1; cases f1
        · rw [e1] at f1
          have f1' : b = b0 := Option.some.inj f1
          have f2' : X'.cap (800 + i) = cap0 := f2
          rcases e6.2 with ⟨_, FF, g1, g2, g3, g4⟩ | ⟨e7, _⟩
          · exact .inr ⟨b, cap0, cc, ty, FF, (by
              rw [q1, f1', hle]), e2, by rw [← f2']; exact e3, by rw [← f2']; exact ⟨e4, e6.1⟩, g1, g2, g3, g4⟩
          · cases e7
    · intro i j x _ _ hx hy
      rw [hx] at hy
      have := Option.some.inj hy
      omega
    · rintro x ⟨i, _, hx⟩
      have := (hR'.ow x _ hx).2
      rw [hXb] at this
      exact this
  rcases he with rfl | rfl
  · exact key
  · exact key

end Go.Proofs.YteebkimhfaodnaaGreat

/- Regions that draw their order, in which two operations may come in either order: both ways are run. -/
namespace Go.Proofs.YteebkimhfaodnaaGreat
open Go Go.RowKit

/-- One operation more that operation b waits for. -/
def addDep (ops : Array Oper) (b a : Nat) : Array Oper := ops.modify b fun o => { o with after := o.after.push ⟨a, .data⟩ }

/-- An order in which the operations of a region may be done. -/
def ValE (ops : Array Oper) : Array Bool → List Nat → Prop
  | L, [] => Region.ready .any ops L = []
  | L, i :: r => i ∈ Region.ready .any ops L ∧ ValE ops (L.setIfInBounds i true) r

section
variable {P : Program} {T : Tab} {B : Base} {ops : Array Oper}

theorem go_val : ∀ (fuel t : Nat) (L : Array Bool), L.size = ops.size → cntF L.toList ≤ fuel → ValE ops L (Region.linearise.go .any ops fuel t L []) := by
  intro fuel
  induction fuel with
  | zero =>
    intro t L hL hc
    show Region.ready .any ops L = []
    cases e : Region.ready .any ops L with
    | nil => rfl
    | cons i r =>
      exfalso
      obtain ⟨h1, _⟩ := deps_ready (ops := ops) (L := L) (i := i) (by rw [e]; simp)
      exact cntF_zero _ i (by omega) (unlisted h1).2.2
  | succ fuel ih =>
    intro t L hL hc
    simp only [Region.linearise.go]
    change ValE ops L (match (Region.ready .any ops L)[t % (Region.ready .any ops L).length]? with
      | some i => Region.linearise.go .any ops fuel (t / (Region.ready .any ops L).length) (L.setIfInBounds i true) [i]
      | none => [].reverse)
    cases hi : (Region.ready .any ops L)[t % (Region.ready .any ops L).length]? with
    | none =>
      show Region.ready .any ops L = []
      cases hr : Region.ready .any ops L with
      | nil => rfl
      | cons x xs =>
        rw [hr] at hi
        have hlt : t % (x :: xs).length < (x :: xs).length := Nat.mod_lt _ (by simp)
        simp at hi
        simp at hlt
        omega
    | some i =>
      simp only []
      rw [linearise_go_acc, List.reverse_singleton, List.singleton_append]
      have hm := List.mem_of_getElem? hi
      obtain ⟨h1, _⟩ := deps_ready hm
      refine ⟨hm, ih _ _ (by simp [hL]) ?_⟩
      have := cnt_set (unlisted h1).2.2
      omega

theorem val_run {Q : Exit → Act → World → Prop} : ∀ (l : List Nat) (fuel : Nat) (L : Array Bool) (a : Act) (w : World), ValE ops L l → wpAny P .any ops Q fuel L a w → wpOps P ops Q l a w
  | [], fuel, L, a, w, hv, h => by
    have hv : Region.ready .any ops L = [] := hv
    cases fuel with
    | zero => simpa [wpOps] using h.2
    | succ n => simpa [wpOps] using h.1 hv
  | i :: r, fuel, L, a, w, hv, h => by
    obtain ⟨h1, h2⟩ := hv
    cases fuel with
    | zero => rw [h.1] at h1; cases h1
    | succ n =>
      rw [wpOps_cons]
      exact wpOp_mono (fun a w hk => val_run r n _ a w h2 hk) (h.2 i h1)

theorem addDep_get {b a i : Nat} : (addDep ops b a)[i]? = if i = b then (ops[i]?).map (fun o => { o with after := o.after.push ⟨a, .data⟩ }) else ops[i]? := by
  unfold addDep
  rw [Array.getElem?_modify]
  by_cases h : i = b
  · rw [if_pos h, if_pos h.symm]
  · rw [if_neg h, if_neg (fun e => h e.symm)]

theorem depsOf_push (o : Oper) (a : Nat) : depsOf { o with after := o.after.push ⟨a, .data⟩ } = depsOf o ++ [a] := by
  unfold depsOf
  simp [Region.binds]

/-- Other operations are ready as they were. -/
theorem ready_ne {b a i : Nat} {L : Array Bool} (h : i ≠ b) : i ∈ Region.ready .any (addDep ops b a) L ↔ i ∈ Region.ready .any ops L := by
  rw [ready_iff, ready_iff, addDep_get, if_neg h]

theorem ready_of {b a : Nat} {L : Array Bool} (ha : L.getD a false = true) (i : Nat) : i ∈ Region.ready .any (addDep ops b a) L ↔ i ∈ Region.ready .any ops L := by
  by_cases h : i = b
  · rw [ready_iff, ready_iff, addDep_get, if_pos h]
    refine and_congr Iff.rfl ⟨?_, ?_⟩
    · rintro ⟨o, e, hd⟩
      obtain ⟨o', e', rfl⟩ := Option.map_eq_some_iff.1 e
      exact ⟨o', e', fun j hj => hd j (by rw [depsOf_push]; exact List.mem_append_left _ hj)⟩
    · rintro ⟨o, e, hd⟩
      refine ⟨_, by rw [e]; rfl, fun j hj => ?_⟩
      rw [depsOf_push, List.mem_append] at hj
      rcases hj with hj | hj
      · exact hd j hj
      · rw [List.mem_singleton.1 hj]; exact ha
  · exact ready_ne h

theorem ready_sub {b a i : Nat} {L : Array Bool} (h : i ∈ Region.ready .any (addDep ops b a) L) : i ∈ Region.ready .any ops L := by
  by_cases e : i = b
  · rw [ready_iff, addDep_get, if_pos e] at h
    obtain ⟨h1, o, h2, hd⟩ := h
    obtain ⟨o', e', rfl⟩ := Option.map_eq_some_iff.1 h2
    rw [ready_iff]
    exact ⟨h1, o', e', fun j hj => hd j (by rw [depsOf_push]; exact List.mem_append_left _ hj)⟩
  · exact (ready_ne e).1 h

theorem nil_of_sub {l l' : List Nat} (h : ∀ i, i ∈ l → i ∈ l') (h' : l' = []) : l = [] := by
  cases l with
  | nil => rfl
  | cons x r => have := h x (by simp); rw [h'] at this; cases this

theorem val_listed {b a : Nat} : ∀ (l : List Nat) (L : Array Bool), L.getD a false = true → ValE ops L l → ValE (addDep ops b a) L l
  | [], L, ha, h => nil_of_sub (fun i hi => ready_sub hi) h
  | i :: r, L, ha, ⟨h1, h2⟩ => ⟨(ready_of ha i).2 h1, val_listed r _ (getD_set_true ha) h2⟩

theorem val_two {b a : Nat} (hab : a ≠ b) : ∀ (l : List Nat) (L : Array Bool), L.size = ops.size → ValE ops L l → ValE (addDep ops b a) L l ∨ ValE (addDep ops a b) L l
  | [], L, _, h => .inl (nil_of_sub (fun i hi => ready_sub hi) h)
  | i :: r, L, hL, ⟨h1, h2⟩ => by
    obtain ⟨q1, o, q2, _⟩ := ready_iff.1 h1
    have hlt : i < L.size := by rw [hL]; exact lt_of_get q2
    by_cases e : i = a
    · subst e
      exact .inl ⟨(ready_ne hab).2 h1, val_listed r _ (by rw [getD_set hlt, if_pos rfl]) h2⟩
    · by_cases e2 : i = b
      · subst e2
        exact .inr ⟨(ready_ne (Ne.symm hab)).2 h1, val_listed r _ (by rw [getD_set hlt, if_pos rfl]) h2⟩
      · rcases val_two hab r _ (by simp [hL]) h2 with h | h
        · exact .inl ⟨(ready_ne e2).2 h1, h⟩
        · exact .inr ⟨(ready_ne e).2 h1, h⟩

theorem wpOp_addDep {b a i : Nat} {Q : Exit → Act → World → Prop} {K : Act → World → Prop} {x : Act} {w : World} (h : wpOp P (addDep ops b a) Q i K x w) : wpOp P ops Q i K x w := by
  have hy : ∀ j : Nat, (((addDep ops b a)[j]?).bind fun o : Oper => o.dst) = ((ops[j]?).bind fun o : Oper => o.dst) := by
    intro j
    rw [addDep_get]
    split
    · cases ops[j]? <;> rfl
    · rfl
  have hyl : yielded (addDep ops b a) x.tmps = yielded ops x.tmps := by
    funext j
    unfold yielded
    have := hy j
    cases h1 : (addDep ops b a)[j]? with
    | none =>
      rw [h1] at this
      cases h2 : ops[j]? with
      | none => rfl
      | some o2 =>
        exfalso
        rw [addDep_get, h2] at h1
        split at h1 <;> cases h1
    | some o1 =>
      cases h2 : ops[j]? with
      | none =>
        exfalso
        rw [addDep_get, h2] at h1
        split at h1 <;> cases h1
      | some o2 =>
        rw [h1, h2] at this
        have : o1.dst = o2.dst := this
        simp only [Option.bind_some, this]
  unfold wpOp at h ⊢
  rw [hyl, addDep_get] at h
  by_cases e : i = b
  · rw [if_pos e] at h
    cases ho : ops[i]? with
    | none => rw [ho] at h; exact h
    | some o => rw [ho] at h; exact h
  · rw [if_neg e] at h; exact h

theorem wpOps_addDep {b a : Nat} {Q : Exit → Act → World → Prop} : ∀ (l : List Nat) (x : Act) (w : World), wpOps P (addDep ops b a) Q l x w → wpOps P ops Q l x w
  | [], x, w, h => by simpa [wpOps] using h
  | i :: r, x, w, h => by
    rw [wpOps_cons] at h ⊢
    exact wpOp_mono (fun x w hk => wpOps_addDep r x w hk) (wpOp_addDep h)

/-- A region in which the operations a and b may come in either order. -/
theorem semL_two (hT : TabOk P T) {Kx : Exit → AState → Prop} {s : AState} {id n : Nat} (a b : Nat) {ord1 ord2 : List (Nat × List Nat)} (hm : P.follows .mixedOrders = true) (hn : s.nt = n) (hab : a ≠ b)
    (hk1 : drawOkS (rkS (0, 0)) T (addDep ops b a) n ord1 = true) (hk2 : drawOkS (rkS (a, b)) T (addDep ops a b) n ord2 = true)
    (h1 : drawK P T (addDep ops b a).toList (Kx .normal) ord1 s) (h2 : drawK P T (addDep ops a b).toList (Kx .normal) ord2 s) : @SemL P B (.region id ops true) s ⟨Kx⟩ := by
  intro X x w hXB hR
  refine wp_region_draw fun t => ?_
  simp only [Region.schedule, hm, Bool.true_or, if_true]
  have hsz : ∀ b a, (addDep ops b a).size = ops.size := fun b a => by unfold addDep; simp
  have hv := go_val (ops := ops) ops.size t (Array.replicate ops.size false) (by simp) (by
    rw [Array.toList_replicate]
    generalize ops.size = m
    induction m with
    | zero => exact Nat.le_refl _
    | succ m ih => rw [List.replicate_succ]; simp only [cntF]; simp; omega)
  have e1 := draw_start (B := B) hT hn hk1 hXB hR h1
  have e2 := draw_start (B := B) hT hn hk2 hXB hR h2
  rw [hsz] at e1 e2
  rcases val_two hab _ _ (by simp) hv with hv | hv
  · exact wpOps_addDep _ _ _ (val_run _ _ _ _ _ hv e1)
  · exact wpOps_addDep _ _ _ (val_run _ _ _ _ _ hv e2)

end

end Go.Proofs.YteebkimhfaodnaaGreat

/- Nested slices of own rows: taken out under a name of their own, and put back. -/
namespace Go.Proofs.YteebkimhfaodnaaGreat
open Go Go.RowKit

theorem OwnV.sl_own {w : World} {v : Value} {q : Option Bool} {zs : List (List AV)} {F : Nat → Prop} (h : OwnV w v (.sl q zs) F) (sz : Nat) (hz : 0 < sz) (hl : ∀ e ∈ zs, e.length = sz) : OwnS w v false sz zs F := by
  cases h with
  | nil nn hn F hF => exact ⟨hz, hl, .inl ⟨rfl, rfl, rfl, hF⟩⟩
  | slice b cap sz' nn es c ty FF F hn hsz hz' hcap ht hb hc h hd hnb hF =>
    by_cases he : zs = []
    · subst he
      have hc0 : cap = 0 := ht rfl
      exact ⟨hz, hl, .inr ⟨b, cap, c, ty, fun _ _ _ => False, rfl, hb, by rw [hc, hc0, Nat.zero_mul, Nat.zero_mul], ⟨hcap, ht⟩, by simp, by simp, by simp, fun x => (hF x).trans ⟨fun e => e.elim .inl (fun ⟨i, j, h1, _⟩ => by simp at h1), fun e => e.elim .inl (fun ⟨i, j, h1, _⟩ => by simp at h1)⟩⟩⟩
    · have h0 : 0 < zs.length := List.length_pos_iff.2 he
      have e1 := hsz _ (List.getElem_mem h0)
      have e2 := hl _ (List.getElem_mem h0)
      have : sz' = sz := by omega
      subst this
      exact ⟨hz, hl, .inr ⟨b, cap, c, ty, FF, rfl, hb, hc, ⟨hcap, ht⟩, h, hd, hnb, hF⟩⟩

theorem OwnS.sl_back {w : World} {v : Value} {nn : Bool} {sz : Nat} {zs : List (List AV)} {F : Nat → Prop} (h : OwnS w v nn sz zs F) : OwnV w v (.sl none zs) F := by
  obtain ⟨hz, hl, h⟩ := h
  rcases h with ⟨rfl, rfl, _, h4⟩ | ⟨b, cap, c, ty, FF, rfl, h2, h3, h4, h5, h6, h7, h8⟩
  · exact .nil none (by simp) F h4
  · exact .slice b cap sz none zs c ty FF F (by simp) hl hz h4.1 h4.2 h2 h3 h5 h6 h7 h8

/-- A nested slice is taken out: it stands under a name of its own, and the row has a hole there. -/
theorem Ghost.open {s : AState} (id id2 k j sz2 : Nat) {nn : Bool} {sz : Nat} {es : List (List AV)} {q : Option Bool} {zs : List (List AV)} (hb : s.blk id = .row true nn sz es) (hk : k < es.length) (hj : j < sz)
    (hc : (es.getD k []).getD j .top = .sl q zs) (hz2 : 0 < sz2) (hl2 : ∀ e ∈ zs, e.length = sz2) (hn : s.blk id2 = .none) (h9 : nF id2) :
    Ghost s { s with hp := (id, .hole nn sz es k j (.row id2 zs.length)) :: (id2, .row true false sz2 zs) :: s.hp } := by
  classical
  intro X a w h
  have hne : id2 ≠ id := fun e => by rw [e, hb] at hn; cases hn
  have hB := h.bl id
  rw [hb] at hB
  obtain ⟨hz, hl, hB⟩ := hB
  rcases hB with ⟨_, _, h3, _⟩ | ⟨b, c, ty, h1, h2, h3, h4, ht, h6⟩
  · rw [h3] at hk; exact absurd hk (by simp)
  rcases h6 with ⟨_, FF, f1, f2, f3, f4⟩ | ⟨h7, _⟩
  case inr => cases h7
  have hO := f1 k j hk hj
  rw [hc] at hO
  have hS := hO.sl_own sz2 hz2 hl2
  have hFi : ∀ x, FF k j x → X.own x = some id := fun x hx => (f4 x).2 (.inr ⟨k, j, hk, hj, hx⟩)
  obtain ⟨v, hv⟩ : ∃ v, v = c.getD (k * sz + j) undef := ⟨_, rfl⟩
  rw [← hv] at hS hO
  -- where the nested slice lies
  obtain ⟨at2, cap2, hat2⟩ : ∃ (at2 : Option Nat) (cap2 : Nat), (v = .slice none 0 0 ∧ at2 = none) ∨ ∃ b2, v = .slice (some ⟨b2, 0, none⟩) zs.length cap2 ∧ at2 = some b2 := by
    obtain ⟨_, _, hS⟩ := hS
    rcases hS with ⟨e, _⟩ | ⟨b2, cap, c2, ty2, FF2, e, _⟩
    · exact ⟨none, 0, .inl ⟨e, rfl⟩⟩
    · exact ⟨some b2, cap, .inr ⟨b2, e, rfl⟩⟩
  let X' : Ctx := { X with at_ := upd X.at_ id2 at2, cap := upd X.cap id2 cap2, own := fun x => if FF k j x then some id2 else X.own x }
  have hX' : ∀ x, X'.own x = if FF k j x then some id2 else X.own x := fun _ => rfl
  let s' : AState := { s with hp := (id, .hole nn sz es k j (.row id2 zs.length)) :: (id2, .row true false sz2 zs) :: s.hp }
  have hs' : ∀ i, s'.blk i = if i = id then .hole nn sz es k j (.row id2 zs.length) else if i = id2 then .row true false sz2 zs else s.blk i := fun _ => rfl
  have hat_ : ∀ i, i ≠ id2 → X'.at_ i = X.at_ i ∧ X'.cap i = X.cap i := fun i hi => ⟨if_neg hi, if_neg hi⟩
  have hkds : s'.kds id2 = .row sz2 := by unfold AState.kds; rw [hs', if_neg hne, if_pos rfl]; rfl
  have hvr : VRel X' s'.kds w v (.row id2 zs.length) := by
    rcases hat2 with ⟨e, e2⟩ | ⟨b2, e, e2⟩
    · have hz0 : zs = [] := by
        obtain ⟨_, _, hS⟩ := hS
        rcases hS with ⟨_, e3, _⟩ | ⟨b2, cap, c2, ty2, FF2, e3, _⟩
        · exact e3
        · rw [e] at e3; cases e3
      rw [e, hz0]
      exact .rowN id2 sz2 hkds (by show upd X.at_ id2 at2 id2 = none; rw [upd_same, e2])
    · rw [e]
      have := VRel.row (X := X') (w := w) (kd := s'.kds) id2 zs.length sz2 b2 hkds (by show upd X.at_ id2 at2 id2 = some b2; rw [upd_same, e2])
      have hc2 : X'.cap id2 = cap2 := upd_same _ _ _
      rwa [hc2] at this
  refine ⟨X', rfl, h.step (T := fun i => i = id ∨ i = id2) (w' := w) ⟨rfl, rfl, rfl, rfl, Nat.le_refl _, ?_, ?_, ?_, ?_, ?_⟩ h.nt h.df ?_ ?_ ?_ ?_⟩
  · intro x _ hx
    refine ⟨rfl, ?_⟩
    rw [hX', if_neg (fun e => hx id (.inl rfl) (hFi x e))]
  · intro i hi
    exact hat_ i (fun e => hi (.inr e))
  · intro x i hi hx
    rw [hX'] at hx
    split at hx
    · cases hx; exact absurd (.inr rfl) hi
    · exact hx
  · intro x i hx
    rw [hX'] at hx
    split at hx
    · rename_i e; exact h.ow x id (hFi x e)
    · exact h.ow x i hx
  · intro i hi
    refine hat_ i (fun e => ?_)
    subst e
    unfold Fx at hi; unfold nF at h9; omega
  · intro i hi
    show s'.blk i = _
    rw [hs', if_neg (fun e => hi (.inl e)), if_neg (fun e => hi (.inr e))]
  · intro i hi
    rcases hi with rfl | rfl
    · refine .inr (.inr ⟨?_, ?_, (hat_ i hne.symm).1, (hat_ i hne.symm).2⟩)
      · unfold AState.kds; rw [hb]; exact fun e => by cases e
      · show (s'.blk i).kd = (s.blk i).kd
        rw [hs', if_pos rfl, hb]; rfl
    · exact .inl (by unfold AState.kds; rw [hn]; rfl)
  · intro hV i
    exact hV _ _ (h.fr i)
  · intro hV i hi
    show BRel X' s'.kds w i (s'.blk i)
    rw [hs']
    by_cases e : i = id
    · subst e
      rw [if_pos rfl]
      obtain ⟨GG, hGG⟩ : ∃ GG : Nat → Nat → Nat → Prop, ∀ i' l' x, GG i' l' x ↔ ¬ (i' = k ∧ l' = j) ∧ FF i' l' x := ⟨fun i' l' x => ¬ (i' = k ∧ l' = j) ∧ FF i' l' x, fun _ _ _ => Iff.rfl⟩
      refine ⟨hz, hl, hk, hj, b, c, ty, (hat_ i hne.symm).1.trans h1, h2, by rw [(hat_ i hne.symm).2]; exact h3, by rw [(hat_ i hne.symm).2]; exact h4, by rw [← hv]; exact hvr, GG, ?_, fun x hx => ((hGG _ _ _).1 hx).1 ⟨rfl, rfl⟩, ?_, ?_, ?_⟩
      · intro i' l' h5 h6 hne'
        exact (f1 i' l' h5 h6).congr fun x => (hGG _ _ _).trans ⟨fun e => e.2, fun e => ⟨hne', e⟩⟩
      · intro i1 l1 i2 l2 x g1 g2 g3 g4 g5 g6
        exact f2 i1 l1 i2 l2 x g1 g2 g3 g4 ((hGG _ _ _).1 g5).2 ((hGG _ _ _).1 g6).2
      · intro i1 l1 g1 g2 g3
        exact f3 i1 l1 g1 g2 ((hGG _ _ _).1 g3).2
      · intro x
        rw [hX']
        constructor
        · intro hx
          split at hx
          · exact absurd (Option.some.inj hx) hne
          · rename_i hn2
            rcases (f4 x).1 hx with e | ⟨i1, l1, g1, g2, g3⟩
            · exact .inl e
            · refine .inr ⟨i1, l1, g1, g2, (hGG _ _ _).2 ⟨fun e => ?_, g3⟩⟩
              obtain ⟨rfl, rfl⟩ := e
              exact hn2 g3
        · intro hx
          have hnF : ¬ FF k j x := by
            intro hF
            rcases hx with e | ⟨i1, l1, g1, g2, g3⟩
            · subst e; exact f3 k j hk hj hF
            · obtain ⟨g4, g5⟩ := (hGG _ _ _).1 g3
              exact g4 (f2 i1 l1 k j x g1 g2 hk hj g5 hF)
          rw [if_neg hnF]
          refine (f4 x).2 ?_
          rcases hx with e | ⟨i1, l1, g1, g2, g3⟩
          · exact .inl e
          · exact .inr ⟨i1, l1, g1, g2, ((hGG _ _ _).1 g3).2⟩
    · rw [if_neg e]
      have e2 : i = id2 := by rcases hi with e' | e'; exact absurd e' e; exact e'
      subst e2
      rw [if_pos rfl]
      have hown2 : ∀ x, X'.own x = some i ↔ FF k j x := by
        intro x
        rw [hX']
        constructor
        · intro hx
          split at hx
          · assumption
          · have := h.bl i
            rw [hn] at this
            exact absurd hx (this x)
        · intro hx; rw [if_pos hx]
      obtain ⟨_, hl', hS⟩ := hS
      refine ⟨hz2, hl2, ?_⟩
      rcases hS with ⟨e1, e3, _, e4⟩ | ⟨b2, cap, c2, ty2, FF2, e1, e3, e4, e5, g1, g2, g3, g4⟩
      · refine .inl ⟨?_, rfl, e3, fun x hx => e4 x ((hown2 x).1 hx)⟩
        show upd X.at_ i at2 i = none
        rw [upd_same]
        rcases hat2 with ⟨_, e2⟩ | ⟨b2, e5, _⟩
        · exact e2
        · rw [e1] at e5; cases e5
      · have hh : at2 = some b2 ∧ cap2 = cap := by
          rcases hat2 with ⟨e6, _⟩ | ⟨b3, e6, e7⟩
          · rw [e1] at e6; cases e6
          · rw [e1] at e6
            obtain ⟨e8, e9, e10⟩ := Value.slice.inj e6
            cases e8
            exact ⟨e7, e10.symm⟩
        have hc2 : X'.cap i = cap := (upd_same _ _ _).trans hh.2
        refine .inr ⟨b2, c2, ty2, (upd_same _ _ _).trans hh.1, e3, by rw [hc2]; exact e4, by rw [hc2]; exact e5.1, fun q => by rw [hc2]; exact e5.2 q, .inl ⟨rfl, FF2, g1, g2, g3, fun x => (hown2 x).trans (g4 x)⟩⟩

/-- The own row that a name stands for, as an owned slice. -/
theorem R.ownS {X : Ctx} {s : AState} {a : Act} {w : World} (h : R X s a w) {id n sz : Nat} {nn : Bool} {es : List (List AV)} {v : Value} (hb : s.blk id = .row true nn sz es) (hn : n = es.length) (hv : VRel X s.kds w v (.row id n)) : OwnS w v nn sz es (fun x => X.own x = some id) := by
  have hkd : s.kds id = .row sz := by unfold AState.kds; rw [hb]; rfl
  have hB := h.bl id
  rw [hb] at hB
  obtain ⟨hz, hl, hB⟩ := hB
  refine ⟨hz, hl, ?_⟩
  rcases hB with ⟨h1, h2, h3, h4⟩ | ⟨b, c, ty, h1, h2, h3, h4, ht, h6⟩
  · rcases hv.row_inv hkd with ⟨b, _, hi⟩ | ⟨e, _, _⟩
    · rw [h1] at hi; cases hi
    · exact .inl ⟨e, h3, h2, fun x hx => h4 x hx⟩
  · rcases hv.row_inv hkd with ⟨b', e, hi⟩ | ⟨_, _, hi⟩
    · rw [h1] at hi; cases hi
      rcases h6 with ⟨_, FF, h7, h8, h9, h10⟩ | ⟨h7, _⟩
      · exact .inr ⟨b, X.cap id, c, ty, FF, by rw [e, hn], h2, h3, ⟨h4, ht⟩, h7, h8, h9, h10⟩
      · cases h7
    · rw [h1] at hi; cases hi

/-- A slice is put back into the hole. -/
theorem Ghost.close {s : AState} (id id2 k j : Nat) (es' : List (List AV)) {nn nn2 : Bool} {sz sz2 n : Nat} {es zs : List (List AV)} (hb : s.blk id = .hole nn sz es k j (.row id2 n)) (hb2 : s.blk id2 = .row true nn2 sz2 zs) (hn : n = zs.length)
    (hl' : es'.length = es.length) (hlen' : ∀ e ∈ es', e.length = sz) (hsame : ∀ i l, i < es.length → l < sz → ¬ (i = k ∧ l = j) → (es'.getD i []).getD l .top = (es.getD i []).getD l .top) (hcell : (es'.getD k []).getD j .top = .sl none zs) :
    Ghost s { s with hp := (id, .row true nn sz es') :: (id2, .dead) :: s.hp } := by
  classical
  intro X a w h
  have hne : id2 ≠ id := fun e => by rw [e, hb] at hb2; cases hb2
  have hB := h.bl id
  rw [hb] at hB
  obtain ⟨hz, hl, hk, hj, b, c, ty, h1, h2, h3, h4, h5, FF, f1, f2, f3, f4, f5⟩ := hB
  have hO := (h.ownS hb2 hn h5).sl_back
  let X' : Ctx := { X with own := fun x => if X.own x = some id2 then some id else X.own x }
  have hX' : ∀ x, X'.own x = if X.own x = some id2 then some id else X.own x := fun _ => rfl
  let s' : AState := { s with hp := (id, .row true nn sz es') :: (id2, .dead) :: s.hp }
  have hs' : ∀ i, s'.blk i = if i = id then .row true nn sz es' else if i = id2 then .dead else s.blk i := fun _ => rfl
  refine ⟨X', rfl, h.step (T := fun i => i = id ∨ i = id2) (w' := w) ⟨rfl, rfl, rfl, rfl, Nat.le_refl _, ?_, fun _ _ => ⟨rfl, rfl⟩, ?_, ?_, fun _ _ => ⟨rfl, rfl⟩⟩ h.nt h.df ?_ ?_ ?_ ?_⟩
  · intro x _ hx
    refine ⟨rfl, ?_⟩
    rw [hX', if_neg (fun e => hx id2 (.inr rfl) e)]
  · intro x i hi hx
    rw [hX'] at hx
    split at hx
    · cases hx; exact absurd (.inl rfl) hi
    · exact hx
  · intro x i hx
    rw [hX'] at hx
    split at hx
    · rename_i e; exact h.ow x id2 e
    · exact h.ow x i hx
  · intro i hi
    show s'.blk i = _
    rw [hs', if_neg (fun e => hi (.inl e)), if_neg (fun e => hi (.inr e))]
  · intro i hi
    rcases hi with rfl | rfl
    · refine .inr (.inr ⟨?_, ?_, rfl, rfl⟩)
      · unfold AState.kds; rw [hb]; exact fun e => by cases e
      · show (s'.blk i).kd = (s.blk i).kd
        rw [hs', if_pos rfl, hb]; rfl
    · refine .inr (.inl ?_)
      show (s'.blk i).kd = _
      rw [hs', if_neg hne, if_pos rfl]; rfl
  · intro hV i
    exact hV _ _ (h.fr i)
  · intro hV i hi
    show BRel X' s'.kds w i (s'.blk i)
    rw [hs']
    by_cases e : i = id
    · subst e
      rw [if_pos rfl]
      obtain ⟨GG, hGG⟩ : ∃ GG : Nat → Nat → Nat → Prop, ∀ i' l' x, GG i' l' x ↔ (if i' = k ∧ l' = j then X.own x = some id2 else FF i' l' x) := ⟨fun i' l' x => if i' = k ∧ l' = j then X.own x = some id2 else FF i' l' x, fun _ _ _ => Iff.rfl⟩
      have hF5 : ∀ i1 l1 x, i1 < es.length → l1 < sz → FF i1 l1 x → X.own x = some i := fun i1 l1 x g1 g2 g3 => (f5 x).2 (.inr ⟨i1, l1, g1, g2, g3⟩)
      have hbo : X.own b = some i := (f5 b).2 (.inl rfl)
      refine ⟨hz, hlen', .inr ⟨b, c, ty, h1, h2, h3, by rw [hl']; exact h4, fun q => ?_, .inl ⟨rfl, GG, ?_, ?_, ?_, ?_⟩⟩⟩
      · have := congrArg List.length q
        rw [hl', List.length_nil] at this
        omega
      · intro i1 l1 g1 g2
        rw [hl'] at g1
        by_cases g3 : i1 = k ∧ l1 = j
        · obtain ⟨rfl, rfl⟩ := g3
          rw [hcell]
          exact hO.congr fun x => (hGG _ _ _).trans (by rw [if_pos ⟨rfl, rfl⟩])
        · rw [hsame i1 l1 g1 g2 g3]
          exact (f1 i1 l1 g1 g2 g3).congr fun x => (hGG _ _ _).trans (by rw [if_neg g3])
      · intro i1 l1 i2 l2 x g1 g2 g3 g4 g5 g6
        rw [hl'] at g1 g3
        rw [hGG] at g5 g6
        by_cases c1 : i1 = k ∧ l1 = j
        · rw [if_pos c1] at g5
          by_cases c2 : i2 = k ∧ l2 = j
          · exact ⟨c1.1.trans c2.1.symm, c1.2.trans c2.2.symm⟩
          · rw [if_neg c2] at g6
            have := hF5 i2 l2 x g3 g4 g6
            rw [g5] at this; exact absurd (Option.some.inj this) hne
        · rw [if_neg c1] at g5
          by_cases c2 : i2 = k ∧ l2 = j
          · rw [if_pos c2] at g6
            have := hF5 i1 l1 x g1 g2 g5
            rw [g6] at this; exact absurd (Option.some.inj this) hne
          · rw [if_neg c2] at g6
            exact f3 i1 l1 i2 l2 x g1 g2 g3 g4 g5 g6
      · intro i1 l1 g1 g2 g3
        rw [hl'] at g1
        rw [hGG] at g3
        split at g3
        · rw [hbo] at g3; exact absurd (Option.some.inj g3).symm hne
        · exact f4 i1 l1 g1 g2 g3
      · intro x
        rw [hX', hl']
        constructor
        · intro hx
          split at hx
          · rename_i e2
            exact .inr ⟨k, j, hk, hj, (hGG _ _ _).2 (by rw [if_pos ⟨rfl, rfl⟩]; exact e2)⟩
          · rcases (f5 x).1 hx with e2 | ⟨i1, l1, g1, g2, g3⟩
            · exact .inl e2
            · refine .inr ⟨i1, l1, g1, g2, (hGG _ _ _).2 ?_⟩
              rw [if_neg]
              · exact g3
              · rintro ⟨rfl, rfl⟩; exact f2 x g3
        · rintro (e2 | ⟨i1, l1, g1, g2, g3⟩)
          · rw [e2, if_neg (fun e3 => hne (Option.some.inj (e3.symm.trans hbo)))]; exact hbo
          · rw [hGG] at g3
            split at g3
            · rw [if_pos g3]
            · have := hF5 i1 l1 x g1 g2 g3
              rw [this, if_neg (fun e3 => hne (Option.some.inj e3).symm)]
    · rw [if_neg e]
      have e2 : i = id2 := by rcases hi with e' | e'; exact absurd e' e; exact e'
      subst e2
      rw [if_pos rfl]
      intro x hx
      rw [hX'] at hx
      split at hx
      · exact hne (Option.some.inj hx).symm
      · rename_i hn2; exact hn2 hx

end Go.Proofs.YteebkimhfaodnaaGreat

/- The table of the types of this program, printed by wip/gen/tabgen.py out of the seat's translation; that it is right is one closed computation. -/
namespace Go.Proofs.YteebkimhfaodnaaGreat
open Go Go.RowKit

def ti2 : TI := ⟨.int .i64, 1, 8, true, false, [.int .i64 0]⟩
def ti3 : TI := ⟨.int .i64, 1, 8, true, false, [.int .i64 0]⟩
def ti4 : TI := ⟨.bool, 1, 1, true, false, [.bool false]⟩
def ti5 : TI := ⟨.int .u8, 1, 1, true, false, [.int .u8 0]⟩
def ti12 : TI := ⟨.int .u64, 1, 8, true, false, [.int .u64 0]⟩
def ti18 : TI := ⟨.struct [(0, 17)], 1, 8, false, false, [.top]⟩
def ti21 : TI := ⟨.int .i32, 1, 4, true, false, [.int .i32 0]⟩
def ti22 : TI := ⟨.slice 122, 1, 24, false, false, [.sl (some false) []]⟩
def ti23 : TI := ⟨.slice 124, 1, 24, false, false, [.sl (some false) []]⟩
def ti24 : TI := ⟨.slice 126, 1, 24, false, false, [.sl (some false) []]⟩
def ti25 : TI := ⟨.slice 115, 1, 24, false, false, [.sl (some false) []]⟩
def ti26 : TI := ⟨.struct [(0, 22), (1, 23), (2, 24), (3, 25)], 4, 96, false, false, [.sl (some false) [], .sl (some false) [], .sl (some false) [], .sl (some false) []]⟩
def ti27 : TI := ⟨.struct [(0, 22), (1, 23), (2, 24), (3, 25)], 4, 96, false, false, [.sl (some false) [], .sl (some false) [], .sl (some false) [], .sl (some false) []]⟩
def ti28 : TI := ⟨.other, 1, 8, false, false, [.top]⟩
def ti29 : TI := ⟨.slice 103, 1, 24, false, false, [.sl (some false) []]⟩
def ti30 : TI := ⟨.slice 91, 1, 24, false, false, [.sl (some false) []]⟩
def ti31 : TI := ⟨.slice 98, 1, 24, false, false, [.sl (some false) []]⟩
def ti32 : TI := ⟨.slice 56, 1, 24, false, false, [.sl (some false) []]⟩
def ti33 : TI := ⟨.struct [(0, 29), (1, 30), (2, 31), (3, 32)], 4, 96, false, false, [.sl (some false) [], .sl (some false) [], .sl (some false) [], .sl (some false) []]⟩
def ti34 : TI := ⟨.struct [(0, 29), (1, 30), (2, 31), (3, 32)], 4, 96, false, false, [.sl (some false) [], .sl (some false) [], .sl (some false) [], .sl (some false) []]⟩
def ti38 : TI := ⟨.other, 1, 8, false, false, [.top]⟩
def ti39 : TI := ⟨.other, 1, 8, false, false, [.top]⟩
def ti40 : TI := ⟨.other, 1, 8, false, false, [.top]⟩
def ti41 : TI := ⟨.slice 3, 1, 24, false, false, [.sl (some false) []]⟩
def ti49 : TI := ⟨.other, 1, 8, false, false, [.top]⟩
def ti50 : TI := ⟨.slice 5, 1, 24, false, false, [.sl (some false) []]⟩
def ti52 : TI := ⟨.other, 1, 8, false, false, [.top]⟩
def ti53 : TI := ⟨.struct [(0, 4), (1, 29), (2, 29)], 3, 56, false, false, [.bool false, .sl (some false) [], .sl (some false) []]⟩
def ti54 : TI := ⟨.struct [(0, 4), (1, 29), (2, 29)], 3, 56, false, false, [.bool false, .sl (some false) [], .sl (some false) []]⟩
def ti55 : TI := ⟨.struct [(0, 3), (1, 3), (2, 41), (3, 54)], 6, 96, false, false, [.int .i64 0, .int .i64 0, .sl (some false) [], .bool false, .sl (some false) [], .sl (some false) []]⟩
def ti56 : TI := ⟨.struct [(0, 3), (1, 3), (2, 41), (3, 54)], 6, 96, false, false, [.int .i64 0, .int .i64 0, .sl (some false) [], .bool false, .sl (some false) [], .sl (some false) []]⟩
def ti57 : TI := ⟨.other, 1, 8, false, false, [.top]⟩
def ti60 : TI := ⟨.slice 54, 1, 24, false, false, [.sl (some false) []]⟩
def ti78 : TI := ⟨.other, 1, 8, false, false, [.top]⟩
def ti89 : TI := ⟨.other, 1, 8, false, false, [.top]⟩
def ti90 : TI := ⟨.struct [(0, 3), (1, 3), (2, 3), (3, 3)], 4, 32, true, true, [.int .i64 0, .int .i64 0, .int .i64 0, .int .i64 0]⟩
def ti91 : TI := ⟨.struct [(0, 3), (1, 3), (2, 3), (3, 3)], 4, 32, true, true, [.int .i64 0, .int .i64 0, .int .i64 0, .int .i64 0]⟩
def ti92 : TI := ⟨.other, 1, 8, false, false, [.top]⟩
def ti97 : TI := ⟨.struct [(0, 3), (1, 3), (2, 3)], 3, 24, true, true, [.int .i64 0, .int .i64 0, .int .i64 0]⟩
def ti98 : TI := ⟨.struct [(0, 3), (1, 3), (2, 3)], 3, 24, true, true, [.int .i64 0, .int .i64 0, .int .i64 0]⟩
def ti102 : TI := ⟨.struct [(0, 3), (1, 3)], 2, 16, true, true, [.int .i64 0, .int .i64 0]⟩
def ti103 : TI := ⟨.struct [(0, 3), (1, 3)], 2, 16, true, true, [.int .i64 0, .int .i64 0]⟩
def ti104 : TI := ⟨.arr 32 3, 32, 256, true, false, List.replicate 32 (.int .i64 0)⟩
def ti105 : TI := ⟨.arr 32 3, 32, 256, true, false, List.replicate 32 (.int .i64 0)⟩
def ti110 : TI := ⟨.other, 1, 8, false, false, [.top]⟩
def ti111 : TI := ⟨.other, 1, 8, false, false, [.top]⟩
def ti112 : TI := ⟨.struct [(0, 4), (1, 22), (2, 22)], 3, 56, false, false, [.bool false, .sl (some false) [], .sl (some false) []]⟩
def ti113 : TI := ⟨.struct [(0, 4), (1, 22), (2, 22)], 3, 56, false, false, [.bool false, .sl (some false) [], .sl (some false) []]⟩
def ti114 : TI := ⟨.struct [(0, 3), (1, 3), (2, 41), (3, 113)], 6, 96, false, false, [.int .i64 0, .int .i64 0, .sl (some false) [], .bool false, .sl (some false) [], .sl (some false) []]⟩
def ti115 : TI := ⟨.struct [(0, 3), (1, 3), (2, 41), (3, 113)], 6, 96, false, false, [.int .i64 0, .int .i64 0, .sl (some false) [], .bool false, .sl (some false) [], .sl (some false) []]⟩
def ti116 : TI := ⟨.other, 1, 8, false, false, [.top]⟩
def ti117 : TI := ⟨.other, 1, 8, false, false, [.top]⟩
def ti122 : TI := ⟨.struct [(0, 3), (1, 3)], 2, 16, true, true, [.int .i64 0, .int .i64 0]⟩
def ti124 : TI := ⟨.struct [(0, 3), (1, 3), (2, 3), (3, 3)], 4, 32, true, true, [.int .i64 0, .int .i64 0, .int .i64 0, .int .i64 0]⟩
def ti126 : TI := ⟨.struct [(0, 3), (1, 3), (2, 3)], 3, 24, true, true, [.int .i64 0, .int .i64 0, .int .i64 0]⟩
def ti134 : TI := ⟨.other, 1, 8, false, false, [.top]⟩
def ti135 : TI := ⟨.other, 1, 8, false, false, [.top]⟩
def ti136 : TI := ⟨.other, 1, 8, false, false, [.top]⟩
def ti137 : TI := ⟨.struct [(0, 50), (1, 3)], 2, 32, false, false, [.sl (some false) [], .int .i64 0]⟩
def ti138 : TI := ⟨.struct [(0, 50), (1, 3)], 2, 32, false, false, [.sl (some false) [], .int .i64 0]⟩
def ti144 : TI := ⟨.other, 1, 8, false, false, [.top]⟩
def ti147 : TI := ⟨.other, 1, 8, false, false, [.top]⟩
def ti148 : TI := ⟨.other, 1, 8, false, false, [.top]⟩
def ti151 : TI := ⟨.other, 1, 8, false, false, [.top]⟩
def ti157 : TI := ⟨.other, 1, 8, false, false, [.top]⟩
def ti158 : TI := ⟨.other, 1, 8, false, false, [.top]⟩
def ti162 : TI := ⟨.map 3 3, 1, 8, false, false, [.top]⟩
def ti173 : TI := ⟨.int .u64, 1, 8, true, false, [.int .u64 0]⟩
def ti178 : TI := ⟨.int .i64, 1, 8, true, false, [.int .i64 0]⟩
def ti186 : TI := ⟨.int .u32, 1, 4, true, false, [.int .u32 0]⟩
def ti188 : TI := ⟨.int .u64, 1, 8, true, false, [.int .u64 0]⟩
def ti189 : TI := ⟨.int .u64, 1, 8, true, false, [.int .u64 0]⟩
def ti200 : TI := ⟨.arr 0 16, 0, 0, false, false, []⟩
def ti201 : TI := ⟨.struct [(0, 200)], 0, 0, false, false, []⟩
def ti203 : TI := ⟨.other, 1, 8, false, false, [.top]⟩

def tabL : List (Nat × TI) := [(2, ti2), (3, ti3), (4, ti4), (5, ti5), (12, ti12), (18, ti18), (21, ti21), (22, ti22), (23, ti23), (24, ti24), (25, ti25), (26, ti26), (27, ti27), (28, ti28), (29, ti29), (30, ti30), (31, ti31), (32, ti32), (33, ti33), (34, ti34), (38, ti38), (39, ti39), (40, ti40), (41, ti41), (49, ti49), (50, ti50), (52, ti52), (53, ti53), (54, ti54), (55, ti55), (56, ti56), (57, ti57), (60, ti60), (78, ti78), (89, ti89), (90, ti90), (91, ti91), (92, ti92), (97, ti97), (98, ti98), (102, ti102), (103, ti103), (104, ti104), (105, ti105), (110, ti110), (111, ti111), (112, ti112), (113, ti113), (114, ti114), (115, ti115), (116, ti116), (117, ti117), (122, ti122), (124, ti124), (126, ti126), (134, ti134), (135, ti135), (136, ti136), (137, ti137), (138, ti138), (144, ti144), (147, ti147), (148, ti148), (151, ti151), (157, ti157), (158, ti158), (162, ti162), (173, ti173), (178, ti178), (186, ti186), (188, ti188), (189, ti189), (200, ti200), (201, ti201), (203, ti203)]

def tabF : List (Nat × TI) → Nat → Option TI
  | [], _ => none
  | (k, i) :: r, t => if t = k then some i else tabF r t

def tab : Tab := tabF tabL

theorem tabF_ok {P : Program} : ∀ (l : List (Nat × TI)), (l.all fun p => tiOk P p.1 p.2) = true → ∀ t i, tabF l t = some i → tiOk P t i = true
  | [], _, t, i, h => by cases h
  | (k, j) :: r, hl, t, i, h => by
    rw [List.all_cons, Bool.and_eq_true] at hl
    have h' : (if t = k then some j else tabF r t) = some i := h
    split at h'
    · rename_i e; cases h'; rw [e]; exact hl.1
    · exact tabF_ok r hl.2 t i h'

theorem tab_ok : TabOk Tryz.prog tab := ⟨tabF_ok tabL (by kernel_rfl)⟩

set_option maxRecDepth 20000
theorem tyShape_2 : tyShape tab 2 = some (false, 1, true) := rfl
theorem intKd_2 : intKd tab 2 = some .i64 := rfl
theorem tabAt_2 : tab 2 = some ti2 := rfl
theorem tyShape_3 : tyShape tab 3 = some (false, 1, true) := rfl
theorem intKd_3 : intKd tab 3 = some .i64 := rfl
theorem tabAt_3 : tab 3 = some ti3 := rfl
theorem tyShape_4 : tyShape tab 4 = some (false, 1, true) := rfl
theorem isBool_4 : isBool tab 4 = true := rfl
theorem tabAt_4 : tab 4 = some ti4 := rfl
theorem tyShape_5 : tyShape tab 5 = some (false, 1, true) := rfl
theorem intKd_5 : intKd tab 5 = some .u8 := rfl
theorem tabAt_5 : tab 5 = some ti5 := rfl
theorem tyShape_12 : tyShape tab 12 = some (false, 1, true) := rfl
theorem intKd_12 : intKd tab 12 = some .u64 := rfl
theorem tabAt_12 : tab 12 = some ti12 := rfl
theorem tyShape_18 : tyShape tab 18 = some (true, 1, false) := rfl
theorem tabAt_18 : tab 18 = some ti18 := rfl
theorem tyShape_21 : tyShape tab 21 = some (false, 1, true) := rfl
theorem intKd_21 : intKd tab 21 = some .i32 := rfl
theorem tabAt_21 : tab 21 = some ti21 := rfl
theorem tyShape_22 : tyShape tab 22 = some (false, 1, false) := rfl
theorem isSlice_22 : isSlice tab 22 = true := rfl
theorem elemInfo_22 : elemInfo tab 22 = some ti122 := rfl
theorem elemSize_22 : elemSize tab 22 = some 2 := rfl
theorem arrElem_22 : arrElem tab 22 = none := rfl
theorem tabAt_22 : tab 22 = some ti22 := rfl
theorem tyShape_23 : tyShape tab 23 = some (false, 1, false) := rfl
theorem isSlice_23 : isSlice tab 23 = true := rfl
theorem elemInfo_23 : elemInfo tab 23 = some ti124 := rfl
theorem elemSize_23 : elemSize tab 23 = some 4 := rfl
theorem arrElem_23 : arrElem tab 23 = none := rfl
theorem tabAt_23 : tab 23 = some ti23 := rfl
theorem tyShape_24 : tyShape tab 24 = some (false, 1, false) := rfl
theorem isSlice_24 : isSlice tab 24 = true := rfl
theorem elemInfo_24 : elemInfo tab 24 = some ti126 := rfl
theorem elemSize_24 : elemSize tab 24 = some 3 := rfl
theorem arrElem_24 : arrElem tab 24 = none := rfl
theorem tabAt_24 : tab 24 = some ti24 := rfl
theorem tyShape_25 : tyShape tab 25 = some (false, 1, false) := rfl
theorem isSlice_25 : isSlice tab 25 = true := rfl
theorem elemInfo_25 : elemInfo tab 25 = some ti115 := rfl
theorem elemSize_25 : elemSize tab 25 = some 6 := rfl
theorem arrElem_25 : arrElem tab 25 = none := rfl
theorem tabAt_25 : tab 25 = some ti25 := rfl
theorem tyShape_26 : tyShape tab 26 = some (true, 4, false) := rfl
theorem tabAt_26 : tab 26 = some ti26 := rfl
theorem fieldOff_26_0 : fieldOff tab 26 0 = some (0, 1) := rfl
theorem fieldOff_26_1 : fieldOff tab 26 1 = some (1, 1) := rfl
theorem fieldOff_26_2 : fieldOff tab 26 2 = some (2, 1) := rfl
theorem fieldOff_26_3 : fieldOff tab 26 3 = some (3, 1) := rfl
theorem tyShape_27 : tyShape tab 27 = some (true, 4, false) := rfl
theorem tabAt_27 : tab 27 = some ti27 := rfl
theorem fieldOff_27_0 : fieldOff tab 27 0 = some (0, 1) := rfl
theorem fieldOff_27_1 : fieldOff tab 27 1 = some (1, 1) := rfl
theorem fieldOff_27_2 : fieldOff tab 27 2 = some (2, 1) := rfl
theorem fieldOff_27_3 : fieldOff tab 27 3 = some (3, 1) := rfl
theorem tyShape_28 : tyShape tab 28 = some (false, 1, false) := rfl
theorem tyShape_29 : tyShape tab 29 = some (false, 1, false) := rfl
theorem isSlice_29 : isSlice tab 29 = true := rfl
theorem elemInfo_29 : elemInfo tab 29 = some ti103 := rfl
theorem elemSize_29 : elemSize tab 29 = some 2 := rfl
theorem arrElem_29 : arrElem tab 29 = none := rfl
theorem tabAt_29 : tab 29 = some ti29 := rfl
theorem tyShape_30 : tyShape tab 30 = some (false, 1, false) := rfl
theorem isSlice_30 : isSlice tab 30 = true := rfl
theorem elemInfo_30 : elemInfo tab 30 = some ti91 := rfl
theorem elemSize_30 : elemSize tab 30 = some 4 := rfl
theorem arrElem_30 : arrElem tab 30 = none := rfl
theorem tabAt_30 : tab 30 = some ti30 := rfl
theorem tyShape_31 : tyShape tab 31 = some (false, 1, false) := rfl
theorem isSlice_31 : isSlice tab 31 = true := rfl
theorem elemInfo_31 : elemInfo tab 31 = some ti98 := rfl
theorem elemSize_31 : elemSize tab 31 = some 3 := rfl
theorem arrElem_31 : arrElem tab 31 = none := rfl
theorem tabAt_31 : tab 31 = some ti31 := rfl
theorem tyShape_32 : tyShape tab 32 = some (false, 1, false) := rfl
theorem isSlice_32 : isSlice tab 32 = true := rfl
theorem elemInfo_32 : elemInfo tab 32 = some ti56 := rfl
theorem elemSize_32 : elemSize tab 32 = some 6 := rfl
theorem arrElem_32 : arrElem tab 32 = none := rfl
theorem tabAt_32 : tab 32 = some ti32 := rfl
theorem tyShape_33 : tyShape tab 33 = some (true, 4, false) := rfl
theorem tabAt_33 : tab 33 = some ti33 := rfl
theorem fieldOff_33_0 : fieldOff tab 33 0 = some (0, 1) := rfl
theorem fieldOff_33_1 : fieldOff tab 33 1 = some (1, 1) := rfl
theorem fieldOff_33_2 : fieldOff tab 33 2 = some (2, 1) := rfl
theorem fieldOff_33_3 : fieldOff tab 33 3 = some (3, 1) := rfl
theorem tyShape_34 : tyShape tab 34 = some (true, 4, false) := rfl
theorem tabAt_34 : tab 34 = some ti34 := rfl
theorem fieldOff_34_0 : fieldOff tab 34 0 = some (0, 1) := rfl
theorem fieldOff_34_1 : fieldOff tab 34 1 = some (1, 1) := rfl
theorem fieldOff_34_2 : fieldOff tab 34 2 = some (2, 1) := rfl
theorem fieldOff_34_3 : fieldOff tab 34 3 = some (3, 1) := rfl
theorem tyShape_38 : tyShape tab 38 = some (false, 1, false) := rfl
theorem tyShape_39 : tyShape tab 39 = some (false, 1, false) := rfl
theorem tyShape_40 : tyShape tab 40 = some (false, 1, false) := rfl
theorem tyShape_41 : tyShape tab 41 = some (false, 1, false) := rfl
theorem isSlice_41 : isSlice tab 41 = true := rfl
theorem elemInfo_41 : elemInfo tab 41 = some ti3 := rfl
theorem elemSize_41 : elemSize tab 41 = some 1 := rfl
theorem arrElem_41 : arrElem tab 41 = none := rfl
theorem tabAt_41 : tab 41 = some ti41 := rfl
theorem tyShape_49 : tyShape tab 49 = some (false, 1, false) := rfl
theorem tyShape_50 : tyShape tab 50 = some (false, 1, false) := rfl
theorem isSlice_50 : isSlice tab 50 = true := rfl
theorem elemInfo_50 : elemInfo tab 50 = some ti5 := rfl
theorem elemSize_50 : elemSize tab 50 = some 1 := rfl
theorem arrElem_50 : arrElem tab 50 = none := rfl
theorem tabAt_50 : tab 50 = some ti50 := rfl
theorem tyShape_52 : tyShape tab 52 = some (false, 1, false) := rfl
theorem tyShape_53 : tyShape tab 53 = some (true, 3, false) := rfl
theorem tabAt_53 : tab 53 = some ti53 := rfl
theorem fieldOff_53_0 : fieldOff tab 53 0 = some (0, 1) := rfl
theorem fieldOff_53_1 : fieldOff tab 53 1 = some (1, 1) := rfl
theorem fieldOff_53_2 : fieldOff tab 53 2 = some (2, 1) := rfl
theorem tyShape_54 : tyShape tab 54 = some (true, 3, false) := rfl
theorem tabAt_54 : tab 54 = some ti54 := rfl
theorem fieldOff_54_0 : fieldOff tab 54 0 = some (0, 1) := rfl
theorem fieldOff_54_1 : fieldOff tab 54 1 = some (1, 1) := rfl
theorem fieldOff_54_2 : fieldOff tab 54 2 = some (2, 1) := rfl
theorem tyShape_55 : tyShape tab 55 = some (true, 6, false) := rfl
theorem tabAt_55 : tab 55 = some ti55 := rfl
theorem fieldOff_55_0 : fieldOff tab 55 0 = some (0, 1) := rfl
theorem fieldOff_55_1 : fieldOff tab 55 1 = some (1, 1) := rfl
theorem fieldOff_55_2 : fieldOff tab 55 2 = some (2, 1) := rfl
theorem fieldOff_55_3 : fieldOff tab 55 3 = some (3, 3) := rfl
theorem tyShape_56 : tyShape tab 56 = some (true, 6, false) := rfl
theorem tabAt_56 : tab 56 = some ti56 := rfl
theorem fieldOff_56_0 : fieldOff tab 56 0 = some (0, 1) := rfl
theorem fieldOff_56_1 : fieldOff tab 56 1 = some (1, 1) := rfl
theorem fieldOff_56_2 : fieldOff tab 56 2 = some (2, 1) := rfl
theorem fieldOff_56_3 : fieldOff tab 56 3 = some (3, 3) := rfl
theorem tyShape_57 : tyShape tab 57 = some (false, 1, false) := rfl
theorem tyShape_60 : tyShape tab 60 = some (false, 1, false) := rfl
theorem isSlice_60 : isSlice tab 60 = true := rfl
theorem elemInfo_60 : elemInfo tab 60 = some ti54 := rfl
theorem elemSize_60 : elemSize tab 60 = some 3 := rfl
theorem arrElem_60 : arrElem tab 60 = none := rfl
theorem tabAt_60 : tab 60 = some ti60 := rfl
theorem tyShape_78 : tyShape tab 78 = some (false, 1, false) := rfl
theorem tyShape_89 : tyShape tab 89 = some (false, 1, false) := rfl
theorem tyShape_90 : tyShape tab 90 = some (true, 4, true) := rfl
theorem eqsSize_90 : eqsSize tab 90 = some 4 := rfl
theorem tabAt_90 : tab 90 = some ti90 := rfl
theorem fieldOff_90_0 : fieldOff tab 90 0 = some (0, 1) := rfl
theorem fieldOff_90_1 : fieldOff tab 90 1 = some (1, 1) := rfl
theorem fieldOff_90_2 : fieldOff tab 90 2 = some (2, 1) := rfl
theorem fieldOff_90_3 : fieldOff tab 90 3 = some (3, 1) := rfl
theorem tyShape_91 : tyShape tab 91 = some (true, 4, true) := rfl
theorem eqsSize_91 : eqsSize tab 91 = some 4 := rfl
theorem tabAt_91 : tab 91 = some ti91 := rfl
theorem fieldOff_91_0 : fieldOff tab 91 0 = some (0, 1) := rfl
theorem fieldOff_91_1 : fieldOff tab 91 1 = some (1, 1) := rfl
theorem fieldOff_91_2 : fieldOff tab 91 2 = some (2, 1) := rfl
theorem fieldOff_91_3 : fieldOff tab 91 3 = some (3, 1) := rfl
theorem tyShape_92 : tyShape tab 92 = some (false, 1, false) := rfl
theorem tyShape_97 : tyShape tab 97 = some (true, 3, true) := rfl
theorem eqsSize_97 : eqsSize tab 97 = some 3 := rfl
theorem tabAt_97 : tab 97 = some ti97 := rfl
theorem fieldOff_97_0 : fieldOff tab 97 0 = some (0, 1) := rfl
theorem fieldOff_97_1 : fieldOff tab 97 1 = some (1, 1) := rfl
theorem fieldOff_97_2 : fieldOff tab 97 2 = some (2, 1) := rfl
theorem tyShape_98 : tyShape tab 98 = some (true, 3, true) := rfl
theorem eqsSize_98 : eqsSize tab 98 = some 3 := rfl
theorem tabAt_98 : tab 98 = some ti98 := rfl
theorem fieldOff_98_0 : fieldOff tab 98 0 = some (0, 1) := rfl
theorem fieldOff_98_1 : fieldOff tab 98 1 = some (1, 1) := rfl
theorem fieldOff_98_2 : fieldOff tab 98 2 = some (2, 1) := rfl
theorem tyShape_102 : tyShape tab 102 = some (true, 2, true) := rfl
theorem eqsSize_102 : eqsSize tab 102 = some 2 := rfl
theorem tabAt_102 : tab 102 = some ti102 := rfl
theorem fieldOff_102_0 : fieldOff tab 102 0 = some (0, 1) := rfl
theorem fieldOff_102_1 : fieldOff tab 102 1 = some (1, 1) := rfl
theorem tyShape_103 : tyShape tab 103 = some (true, 2, true) := rfl
theorem eqsSize_103 : eqsSize tab 103 = some 2 := rfl
theorem tabAt_103 : tab 103 = some ti103 := rfl
theorem fieldOff_103_0 : fieldOff tab 103 0 = some (0, 1) := rfl
theorem fieldOff_103_1 : fieldOff tab 103 1 = some (1, 1) := rfl
theorem tyShape_104 : tyShape tab 104 = some (true, 32, true) := rfl
theorem arrElem_104 : arrElem tab 104 = some (32, 1) := rfl
theorem arrShape_104 : arrShape tab 104 = some (32, false, 1) := rfl
theorem tabAt_104 : tab 104 = some ti104 := rfl
theorem tyShape_105 : tyShape tab 105 = some (true, 32, true) := rfl
theorem arrElem_105 : arrElem tab 105 = some (32, 1) := rfl
theorem arrShape_105 : arrShape tab 105 = some (32, false, 1) := rfl
theorem tabAt_105 : tab 105 = some ti105 := rfl
theorem tyShape_110 : tyShape tab 110 = some (false, 1, false) := rfl
theorem tyShape_111 : tyShape tab 111 = some (false, 1, false) := rfl
theorem tyShape_112 : tyShape tab 112 = some (true, 3, false) := rfl
theorem tabAt_112 : tab 112 = some ti112 := rfl
theorem fieldOff_112_0 : fieldOff tab 112 0 = some (0, 1) := rfl
theorem fieldOff_112_1 : fieldOff tab 112 1 = some (1, 1) := rfl
theorem fieldOff_112_2 : fieldOff tab 112 2 = some (2, 1) := rfl
theorem tyShape_113 : tyShape tab 113 = some (true, 3, false) := rfl
theorem tabAt_113 : tab 113 = some ti113 := rfl
theorem fieldOff_113_0 : fieldOff tab 113 0 = some (0, 1) := rfl
theorem fieldOff_113_1 : fieldOff tab 113 1 = some (1, 1) := rfl
theorem fieldOff_113_2 : fieldOff tab 113 2 = some (2, 1) := rfl
theorem tyShape_114 : tyShape tab 114 = some (true, 6, false) := rfl
theorem tabAt_114 : tab 114 = some ti114 := rfl
theorem fieldOff_114_0 : fieldOff tab 114 0 = some (0, 1) := rfl
theorem fieldOff_114_1 : fieldOff tab 114 1 = some (1, 1) := rfl
theorem fieldOff_114_2 : fieldOff tab 114 2 = some (2, 1) := rfl
theorem fieldOff_114_3 : fieldOff tab 114 3 = some (3, 3) := rfl
theorem tyShape_115 : tyShape tab 115 = some (true, 6, false) := rfl
theorem tabAt_115 : tab 115 = some ti115 := rfl
theorem fieldOff_115_0 : fieldOff tab 115 0 = some (0, 1) := rfl
theorem fieldOff_115_1 : fieldOff tab 115 1 = some (1, 1) := rfl
theorem fieldOff_115_2 : fieldOff tab 115 2 = some (2, 1) := rfl
theorem fieldOff_115_3 : fieldOff tab 115 3 = some (3, 3) := rfl
theorem tyShape_116 : tyShape tab 116 = some (false, 1, false) := rfl
theorem tyShape_117 : tyShape tab 117 = some (false, 1, false) := rfl
theorem tyShape_122 : tyShape tab 122 = some (true, 2, true) := rfl
theorem eqsSize_122 : eqsSize tab 122 = some 2 := rfl
theorem tabAt_122 : tab 122 = some ti122 := rfl
theorem fieldOff_122_0 : fieldOff tab 122 0 = some (0, 1) := rfl
theorem fieldOff_122_1 : fieldOff tab 122 1 = some (1, 1) := rfl
theorem tyShape_124 : tyShape tab 124 = some (true, 4, true) := rfl
theorem eqsSize_124 : eqsSize tab 124 = some 4 := rfl
theorem tabAt_124 : tab 124 = some ti124 := rfl
theorem fieldOff_124_0 : fieldOff tab 124 0 = some (0, 1) := rfl
theorem fieldOff_124_1 : fieldOff tab 124 1 = some (1, 1) := rfl
theorem fieldOff_124_2 : fieldOff tab 124 2 = some (2, 1) := rfl
theorem fieldOff_124_3 : fieldOff tab 124 3 = some (3, 1) := rfl
theorem tyShape_126 : tyShape tab 126 = some (true, 3, true) := rfl
theorem eqsSize_126 : eqsSize tab 126 = some 3 := rfl
theorem tabAt_126 : tab 126 = some ti126 := rfl
theorem fieldOff_126_0 : fieldOff tab 126 0 = some (0, 1) := rfl
theorem fieldOff_126_1 : fieldOff tab 126 1 = some (1, 1) := rfl
theorem fieldOff_126_2 : fieldOff tab 126 2 = some (2, 1) := rfl
theorem tyShape_134 : tyShape tab 134 = some (false, 1, false) := rfl
theorem tyShape_135 : tyShape tab 135 = some (false, 1, false) := rfl
theorem tyShape_136 : tyShape tab 136 = some (false, 1, false) := rfl
theorem tyShape_137 : tyShape tab 137 = some (true, 2, false) := rfl
theorem tabAt_137 : tab 137 = some ti137 := rfl
theorem fieldOff_137_0 : fieldOff tab 137 0 = some (0, 1) := rfl
theorem fieldOff_137_1 : fieldOff tab 137 1 = some (1, 1) := rfl
theorem tyShape_138 : tyShape tab 138 = some (true, 2, false) := rfl
theorem tabAt_138 : tab 138 = some ti138 := rfl
theorem fieldOff_138_0 : fieldOff tab 138 0 = some (0, 1) := rfl
theorem fieldOff_138_1 : fieldOff tab 138 1 = some (1, 1) := rfl
theorem tyShape_144 : tyShape tab 144 = some (false, 1, false) := rfl
theorem tyShape_147 : tyShape tab 147 = some (false, 1, false) := rfl
theorem tyShape_148 : tyShape tab 148 = some (false, 1, false) := rfl
theorem tyShape_151 : tyShape tab 151 = some (false, 1, false) := rfl
theorem tyShape_157 : tyShape tab 157 = some (false, 1, false) := rfl
theorem tyShape_158 : tyShape tab 158 = some (false, 1, false) := rfl
theorem tyShape_162 : tyShape tab 162 = some (false, 1, false) := rfl
theorem mapTy_162 : mapTy tab 162 = some (3, 3) := rfl
theorem tabAt_162 : tab 162 = some ti162 := rfl
theorem tyShape_173 : tyShape tab 173 = some (false, 1, true) := rfl
theorem intKd_173 : intKd tab 173 = some .u64 := rfl
theorem tabAt_173 : tab 173 = some ti173 := rfl
theorem tyShape_178 : tyShape tab 178 = some (false, 1, true) := rfl
theorem intKd_178 : intKd tab 178 = some .i64 := rfl
theorem tabAt_178 : tab 178 = some ti178 := rfl
theorem tyShape_186 : tyShape tab 186 = some (false, 1, true) := rfl
theorem intKd_186 : intKd tab 186 = some .u32 := rfl
theorem tabAt_186 : tab 186 = some ti186 := rfl
theorem tyShape_188 : tyShape tab 188 = some (false, 1, true) := rfl
theorem intKd_188 : intKd tab 188 = some .u64 := rfl
theorem tabAt_188 : tab 188 = some ti188 := rfl
theorem tyShape_189 : tyShape tab 189 = some (false, 1, true) := rfl
theorem intKd_189 : intKd tab 189 = some .u64 := rfl
theorem tabAt_189 : tab 189 = some ti189 := rfl
theorem tyShape_200 : tyShape tab 200 = some (true, 0, false) := rfl
theorem tabAt_200 : tab 200 = some ti200 := rfl
theorem tyShape_201 : tyShape tab 201 = some (true, 0, false) := rfl
theorem tabAt_201 : tab 201 = some ti201 := rfl
theorem fieldOff_201_0 : fieldOff tab 201 0 = some (0, 0) := rfl
theorem tyShape_203 : tyShape tab 203 = some (false, 1, false) := rfl

attribute [go_sem] bothT bothF codeK regS stillStep stillK nilCheckK sliceK viewK boundK buildSliceK partsL purLLK purLK purK nnOf regK stepK opK guardAt dstOk startSt argsIn argIn AState.put AState.get AState.blk AState.ev evC getL AState.app thenK inBlockK binK intK unK pick2K pickK pickW unMay AV.scal exitK resK expPL expP expC expL boxK packA vals builtinK lenK maxK minK allocK boxOpK partCells storeK storeEltK makeSliceK madeZ Option.isNone_none Option.isNone_some storeVarK spliceL setCells fieldAddrK indexAddrK loadK cellsK fieldK indexK extractK convertK buildK buildL callK boxOf argsK argP argL argC noTP noT newOk callSt imp impB impP impPB impL impLB impC impCB impT impTB cbase deadL slFreeR slFreeP slFree List.map_cons List.map_nil List.append_nil List.nil_append List.cons_append List.nodup_nil List.all_cons List.all_nil List.length_cons List.length_nil List.getElem?_cons_zero List.getElem?_cons_succ List.drop_zero List.drop_succ_cons List.take_succ_cons List.take_zero List.getD_cons_zero List.getD_cons_succ List.set_cons_zero List.set_cons_succ List.replicate_succ List.replicate_zero List.take_nil List.drop_nil Nat.add_zero Nat.zero_add if_true if_false ite_true ite_false and_true true_and and_false false_and or_true true_or or_false false_or not_false_eq_true not_true_eq_false ne_eq Bool.or_false Bool.false_or Bool.or_true Bool.true_or AV.one bne_self_eq_false beq_self_eq_true AV.oneAll Bool.and_true Bool.and_false Bool.true_and Bool.false_and Bool.not_true Bool.not_false Bool.false_eq_true cond_true cond_false forall_eq' forall_const false_implies implies_true exists_eq_left' Option.some.injEq Option.isSome_some Option.isSome_none Option.getD_some Option.getD_none AV.bool.injEq AV.int.injEq AV.agg.injEq List.cons.injEq List.mem_nil_iff List.not_mem_nil List.mem_cons stillV appendOpK appendK appBase srcK drawK recheck sameAt floK intPair makeOk makeFuncK makeMapK insertK mapIns lookupK pureB stillB List.isEmpty_nil List.isEmpty_cons List.take_length List.toList_toArray rwR rwP rwPL rwL rwC canC exists_const decide_true decide_false ptrK Option.map_none Option.map_some Int.cast_ofNat_Int Int.toNat_zero AV.flat flatRows oneRows nc0 Int.toNat_natCast backK drawLK Nat.mul_one bothTT bothTF bothFT bothFF mutB lendB lendK argsN lendA lendP lendC lendL setLent callMK startM exitKM lentEnd flatRes nF List.nodup_cons lastK storeHoleK

attribute [go_sem] tyShape_2 intKd_2 tabAt_2 tyShape_3 intKd_3 tabAt_3 tyShape_4 isBool_4 tabAt_4 tyShape_5 intKd_5 tabAt_5 tyShape_12 intKd_12 tabAt_12 tyShape_18 tabAt_18 tyShape_21 intKd_21 tabAt_21 tyShape_22 isSlice_22 elemInfo_22 elemSize_22 arrElem_22 tabAt_22 tyShape_23 isSlice_23 elemInfo_23 elemSize_23 arrElem_23 tabAt_23 tyShape_24 isSlice_24 elemInfo_24 elemSize_24 arrElem_24 tabAt_24 tyShape_25 isSlice_25 elemInfo_25 elemSize_25 arrElem_25 tabAt_25 tyShape_26 tabAt_26 fieldOff_26_0 fieldOff_26_1 fieldOff_26_2 fieldOff_26_3 tyShape_27 tabAt_27 fieldOff_27_0 fieldOff_27_1 fieldOff_27_2 fieldOff_27_3 tyShape_28 tyShape_29 isSlice_29 elemInfo_29 elemSize_29 arrElem_29 tabAt_29 tyShape_30 isSlice_30 elemInfo_30 elemSize_30 arrElem_30 tabAt_30 tyShape_31 isSlice_31 elemInfo_31 elemSize_31 arrElem_31 tabAt_31 tyShape_32 isSlice_32 elemInfo_32 elemSize_32 arrElem_32 tabAt_32 tyShape_33 tabAt_33 fieldOff_33_0 fieldOff_33_1 fieldOff_33_2 fieldOff_33_3 tyShape_34 tabAt_34 fieldOff_34_0 fieldOff_34_1 fieldOff_34_2 fieldOff_34_3 tyShape_38 tyShape_39 tyShape_40 tyShape_41 isSlice_41 elemInfo_41 elemSize_41 arrElem_41 tabAt_41 tyShape_49 tyShape_50 isSlice_50 elemInfo_50 elemSize_50 arrElem_50 tabAt_50 tyShape_52 tyShape_53 tabAt_53 fieldOff_53_0 fieldOff_53_1 fieldOff_53_2 tyShape_54 tabAt_54 fieldOff_54_0 fieldOff_54_1 fieldOff_54_2 tyShape_55 tabAt_55 fieldOff_55_0 fieldOff_55_1 fieldOff_55_2 fieldOff_55_3 tyShape_56 tabAt_56 fieldOff_56_0 fieldOff_56_1 fieldOff_56_2 fieldOff_56_3 tyShape_57 tyShape_60 isSlice_60 elemInfo_60 elemSize_60 arrElem_60 tabAt_60 tyShape_78 tyShape_89 tyShape_90 eqsSize_90 tabAt_90 fieldOff_90_0 fieldOff_90_1 fieldOff_90_2 fieldOff_90_3 tyShape_91 eqsSize_91 tabAt_91 fieldOff_91_0 fieldOff_91_1 fieldOff_91_2 fieldOff_91_3 tyShape_92 tyShape_97 eqsSize_97 tabAt_97 fieldOff_97_0 fieldOff_97_1 fieldOff_97_2 tyShape_98 eqsSize_98 tabAt_98 fieldOff_98_0 fieldOff_98_1 fieldOff_98_2 tyShape_102 eqsSize_102 tabAt_102 fieldOff_102_0 fieldOff_102_1 tyShape_103 eqsSize_103 tabAt_103 fieldOff_103_0 fieldOff_103_1 tyShape_104 arrElem_104 arrShape_104 tabAt_104 tyShape_105 arrElem_105 arrShape_105 tabAt_105 tyShape_110 tyShape_111 tyShape_112 tabAt_112 fieldOff_112_0 fieldOff_112_1 fieldOff_112_2 tyShape_113 tabAt_113 fieldOff_113_0 fieldOff_113_1 fieldOff_113_2 tyShape_114 tabAt_114 fieldOff_114_0 fieldOff_114_1 fieldOff_114_2 fieldOff_114_3 tyShape_115 tabAt_115 fieldOff_115_0 fieldOff_115_1 fieldOff_115_2 fieldOff_115_3 tyShape_116 tyShape_117 tyShape_122 eqsSize_122 tabAt_122 fieldOff_122_0 fieldOff_122_1 tyShape_124 eqsSize_124 tabAt_124 fieldOff_124_0 fieldOff_124_1 fieldOff_124_2 fieldOff_124_3 tyShape_126 eqsSize_126 tabAt_126 fieldOff_126_0 fieldOff_126_1 fieldOff_126_2 tyShape_134 tyShape_135 tyShape_136 tyShape_137 tabAt_137 fieldOff_137_0 fieldOff_137_1 tyShape_138 tabAt_138 fieldOff_138_0 fieldOff_138_1 tyShape_144 tyShape_147 tyShape_148 tyShape_151 tyShape_157 tyShape_158 tyShape_162 mapTy_162 tabAt_162 tyShape_173 intKd_173 tabAt_173 tyShape_178 intKd_178 tabAt_178 tyShape_186 intKd_186 tabAt_186 tyShape_188 intKd_188 tabAt_188 tyShape_189 intKd_189 tabAt_189 tyShape_200 tabAt_200 tyShape_201 tabAt_201 fieldOff_201_0 tyShape_203 ti2 ti3 ti4 ti5 ti12 ti18 ti21 ti22 ti23 ti24 ti25 ti26 ti27 ti28 ti29 ti30 ti31 ti32 ti33 ti34 ti38 ti39 ti40 ti41 ti49 ti50 ti52 ti53 ti54 ti55 ti56 ti57 ti60 ti78 ti89 ti90 ti91 ti92 ti97 ti98 ti102 ti103 ti104 ti105 ti110 ti111 ti112 ti113 ti114 ti115 ti116 ti117 ti122 ti124 ti126 ti134 ti135 ti136 ti137 ti138 ti144 ti147 ti148 ti151 ti157 ti158 ti162 ti173 ti178 ti186 ti188 ti189 ti200 ti201 ti203

end Go.Proofs.YteebkimhfaodnaaGreat

/- The laying of slices.SortFunc at versions. -/
namespace Go.Proofs
open Go.Shelf
def Tryz.sortV_ren : Go.Shelf.Ren := ⟨fun | 6 => 127 | 15 => 154 | 14 => 153 | 28 => 168 | 29 => 169 | 20 => 160 | 21 => 161 | 22 => 162 | 23 => 163 | 24 => 164 | 25 => 165 | 26 => 166 | 27 => 167 | 46 => 170 | 47 => 171 | 48 => 172 | 49 => 173 | 50 => 174 | 57 => 175 | n => n, fun | 22 => 31 | 24 => 98 | 25 => 151 | 3 => 3 | 39 => 173 | 0 => 0 | 53 => 186 | 55 => 188 | 4 => 4 | 46 => 179 | 45 => 178 | 50 => 183 | 5 => 5 | 9 => 9 | 66 => 189 | 70 => 193 | 76 => 195 | 77 => 153 | n => n, fun | n => n⟩
theorem Tryz.sortV : Go.Proofs.SlLaysF0.n6 Tryz.prog Tryz.sortV_ren := {
  mixed := by kernel_rfl
  f6 := ⟨Tryz.f127.name, by decide, Tryz.func127.trans (congrArg some (by kernel_rfl))⟩
  f14 := ⟨Tryz.f153.name, by decide, Tryz.func153.trans (congrArg some (by kernel_rfl))⟩
  f15 := Tryz.func154.trans (congrArg some (by kernel_rfl))
  f20 := ⟨Tryz.f160.name, by decide, Tryz.func160.trans (congrArg some (by kernel_rfl))⟩
  f21 := ⟨Tryz.f161.name, by decide, Tryz.func161.trans (congrArg some (by kernel_rfl))⟩
  f22 := ⟨Tryz.f162.name, by decide, Tryz.func162.trans (congrArg some (by kernel_rfl))⟩
  f23 := ⟨Tryz.f163.name, by decide, Tryz.func163.trans (congrArg some (by kernel_rfl))⟩
  f24 := ⟨Tryz.f164.name, by decide, Tryz.func164.trans (congrArg some (by kernel_rfl))⟩
  f25 := ⟨Tryz.f165.name, by decide, Tryz.func165.trans (congrArg some (by kernel_rfl))⟩
  f26 := ⟨Tryz.f166.name, by decide, Tryz.func166.trans (congrArg some (by kernel_rfl))⟩
  f27 := ⟨Tryz.f167.name, by decide, Tryz.func167.trans (congrArg some (by kernel_rfl))⟩
  f28 := Tryz.func168.trans (congrArg some (by kernel_rfl))
  f29 := Tryz.func169.trans (congrArg some (by kernel_rfl))
  f46 := ⟨Tryz.f170.name, by decide, Tryz.func170.trans (congrArg some (by kernel_rfl))⟩
  f47 := Tryz.func171.trans (congrArg some (by kernel_rfl))
  f48 := Tryz.func172.trans (congrArg some (by kernel_rfl))
  f49 := ⟨Tryz.f173.name, by decide, Tryz.func173.trans (congrArg some (by kernel_rfl))⟩
  f50 := ⟨Tryz.f174.name, by decide, Tryz.func174.trans (congrArg some (by kernel_rfl))⟩
  f57 := ⟨Tryz.f175.name, by decide, Tryz.func175.trans (congrArg some (by kernel_rfl))⟩
  t0 := Tryz.underlying0
  a0 := Tryz.isAgg0
  z0 := Tryz.sizeOf0
  v0 := Tryz.zeroValue0
  t3 := Tryz.underlying3
  a3 := Tryz.isAgg3
  z3 := Tryz.sizeOf3
  v3 := Tryz.zeroValue3
  t4 := Tryz.underlying4
  a4 := Tryz.isAgg4
  z4 := Tryz.sizeOf4
  v4 := Tryz.zeroValue4
  t5 := Tryz.underlying5
  a5 := Tryz.isAgg5
  z5 := Tryz.sizeOf5
  v5 := Tryz.zeroValue5
  t9 := Tryz.underlying9
  a9 := Tryz.isAgg9
  z9 := Tryz.sizeOf9
  v9 := Tryz.zeroValue9
  t22 := Tryz.underlying31
  a22 := Tryz.isAgg31
  z22 := Tryz.sizeOf31
  v22 := Tryz.zeroValue31
  t25 := Tryz.underlying151
  a25 := Tryz.isAgg151
  z25 := Tryz.sizeOf151
  v25 := Tryz.zeroValue151
  t39 := Tryz.underlying173
  a39 := Tryz.isAgg173
  z39 := Tryz.sizeOf173
  v39 := Tryz.zeroValue173
  t45 := Tryz.underlying178
  a45 := Tryz.isAgg178
  z45 := Tryz.sizeOf178
  v45 := Tryz.zeroValue178
  t46 := Tryz.underlying179
  a46 := Tryz.isAgg179
  z46 := Tryz.sizeOf179
  v46 := Tryz.zeroValue179
  t50 := Tryz.underlying183
  a50 := Tryz.isAgg183
  z50 := Tryz.sizeOf183
  v50 := Tryz.zeroValue183
  t53 := Tryz.underlying186
  a53 := Tryz.isAgg186
  z53 := Tryz.sizeOf186
  v53 := Tryz.zeroValue186
  t55 := Tryz.underlying188
  a55 := Tryz.isAgg188
  z55 := Tryz.sizeOf188
  v55 := Tryz.zeroValue188
  t66 := Tryz.underlying189
  a66 := Tryz.isAgg189
  z66 := Tryz.sizeOf189
  v66 := Tryz.zeroValue189
  t70 := Tryz.underlying193
  a70 := Tryz.isAgg193
  z70 := Tryz.sizeOf193
  v70 := Tryz.zeroValue193
  t76 := Tryz.underlying195
  a76 := Tryz.isAgg195
  z76 := Tryz.sizeOf195
  v76 := Tryz.zeroValue195
  t77 := Tryz.underlying153
  a77 := Tryz.isAgg153
  z77 := Tryz.sizeOf153
  v77 := Tryz.zeroValue153 }
end Go.Proofs

/- Contracts: voters' validity. -/
set_option linter.unusedSimpArgs false
set_option linter.unusedVariables false
namespace Go.Proofs.YteebkimhfaodnaaGreat
open Go Go.RowKit

theorem c_spec_l1In (x lo hi : Int) : Det Tryz.prog 95 [.int .i64 x, .int .i64 lo, .int .i64 hi] (.bool (decide (lo ≤ x) && decide (x ≤ hi))) := by
  refine fspec_det tab_ok Tryz.call95 Tryz.func95 rfl 15 Tryz.ntmps95 (of_decide_eq_true rfl) fun B => codeK_sound tab_ok _ _ _ ?_
  simp (config := { maxSteps := 4000000 }) only [go_sem, simprocAttr, ↓dnA, Tryz.f95]
  refine ⟨fun h => ?_, fun h => ?_⟩ <;> simp_all <;> omega

theorem c_impl_in (x lo hi : Int) : Det Tryz.prog 103 [.int .i64 x, .int .i64 lo, .int .i64 hi] (.bool (decide (lo ≤ x) && decide (x ≤ hi))) := by
  refine fspec_det tab_ok Tryz.call103 Tryz.func103 rfl 15 Tryz.ntmps103 (of_decide_eq_true rfl) fun B => codeK_sound tab_ok _ _ _ ?_
  simp (config := { maxSteps := 4000000 }) only [go_sem, simprocAttr, ↓dnA, Tryz.f103]
  refine ⟨fun h => ?_, fun h => ?_⟩ <;> simp only [h, Bool.true_and, Bool.false_and]

end Go.Proofs.YteebkimhfaodnaaGreat

/- Contracts: equality of lists of bools. -/
set_option linter.unusedSimpArgs false
set_option linter.unusedVariables false
namespace Go.Proofs.YteebkimhfaodnaaGreat
open Go Go.RowKit

theorem mixed_ : Tryz.prog.follows .mixedOrders = true := by kernel_rfl

theorem take_succ_getD {α : Type} (l : List α) (i : Nat) (d : α) (h : i < l.length) : l.take (i + 1) = l.take i ++ [l.getD i d] := by
  rw [List.take_add_one, List.getElem?_eq_getElem h, List.getD_eq_getElem?_getD, List.getElem?_eq_getElem h]
  rfl

end Go.Proofs.YteebkimhfaodnaaGreat

/- Contracts: copies of lists. -/
set_option linter.unusedSimpArgs false
set_option linter.unusedVariables false
namespace Go.Proofs.YteebkimhfaodnaaGreat
open Go Go.RowKit

/-- One more element of a copy. -/
theorem fill_step {α : Type} (xs : List α) (d z : α) (i : Nat) (h : i < xs.length) :
    (xs.take i ++ List.replicate (xs.length - i) z).set i (xs.getD i d) = xs.take (i + 1) ++ List.replicate (xs.length - (i + 1)) z := by
  have hl : (xs.take i).length = i := by rw [List.length_take]; omega
  rw [List.set_append_right _ _ (by omega), hl, Nat.sub_self, show xs.length - i = (xs.length - (i + 1)) + 1 by omega, List.replicate_succ, List.set_cons_zero, take_succ_getD xs i d h, List.append_assoc]
  rfl

end Go.Proofs.YteebkimhfaodnaaGreat

/- Contracts: sums. -/
set_option linter.unusedSimpArgs false
set_option linter.unusedVariables false
namespace Go.Proofs.YteebkimhfaodnaaGreat
open Go Go.RowKit

def encI (n : Int) : List AV := [.int .i64 n]

/-- The first place at which p holds, from i on. -/
def idxF {α : Type} (p : α → Bool) : List α → Nat → Int
  | [], _ => -1
  | x :: r, i => if p x then (i : Int) else idxF p r (i + 1)

theorem idxF_any {α : Type} (p : α → Bool) : ∀ (l : List α) (i : Nat), decide (idxF p l i ≥ 0) = l.any p
  | [], i => rfl
  | x :: r, i => by
    simp only [idxF, List.any_cons]
    by_cases h : p x
    · simp [h]
    · simp only [h, Bool.false_or]
      exact idxF_any p r (i + 1)

/-- A sum with one more number. -/
def moreI (s n : Int) : Int := (31 * s + n + 7) % 1000003

def sumI (s : Int) (l : List Int) : Int := l.foldl moreI s

theorem any_not {α : Type} (l : List α) (p : α → Bool) : (l.any fun x => !p x) = !l.all p := by
  induction l with
  | nil => rfl
  | cons x r ih => simp [List.any_cons, List.all_cons, ih]

end Go.Proofs.YteebkimhfaodnaaGreat

/- Contracts: what the laws draw with. -/
set_option linter.unusedSimpArgs false
set_option linter.unusedVariables false
set_option maxRecDepth 20000
set_option maxHeartbeats 2000000
namespace Go.Proofs.YteebkimhfaodnaaGreat
open Go Go.RowKit

structure RdOk (bs : List Int) (p : Int) : Prop where
  len : bs.length ≤ 2000
  byte : ∀ b, b ∈ bs → 0 ≤ b ∧ b ≤ 255
  lo : 0 ≤ p
  hi : p ≤ 1000000000

end Go.Proofs.YteebkimhfaodnaaGreat

/- Contracts: drawn voters; FnVoterValid. -/
set_option linter.unusedSimpArgs false
set_option linter.unusedVariables false
set_option maxRecDepth 20000
set_option maxHeartbeats 2000000
namespace Go.Proofs.YteebkimhfaodnaaGreat
open Go Go.RowKit

theorem RdOk.step {bs : List Int} {p q : Int} (h : RdOk bs p) (h1 : p ≤ q) (h2 : q ≤ 1000000000) : RdOk bs q := ⟨h.len, h.byte, by have := h.lo; omega, h2⟩

theorem FSpec.det {P : Program} {k : FuncId} {args : List AV} {Q : AV → List AV → Prop} {r : AV} (h : FSpec P k args false [] Q) (hq : ∀ r' b, Q r' b → r' = r) : Det P k args r := h.mono hq

end Go.Proofs.YteebkimhfaodnaaGreat

/- Contracts: entries and actions, and when they are valid. -/
set_option linter.unusedSimpArgs false
set_option linter.unusedVariables false
set_option maxRecDepth 20000
set_option maxHeartbeats 2000000
namespace Go.Proofs.YteebkimhfaodnaaGreat
open Go Go.RowKit

def inB (n lo hi : Int) : Bool := decide (lo ≤ n) && decide (n ≤ hi)

theorem inB_iff {n lo hi : Int} : inB n lo hi = true ↔ lo ≤ n ∧ n ≤ hi := by simp [inB]

theorem c_in (x lo hi : Int) : Det Tryz.prog 103 [.int .i64 x, .int .i64 lo, .int .i64 hi] (.bool (inB x lo hi)) := c_impl_in x lo hi
theorem c_l1In (x lo hi : Int) : Det Tryz.prog 95 [.int .i64 x, .int .i64 lo, .int .i64 hi] (.bool (inB x lo hi)) := c_spec_l1In x lo hi

theorem c_impl_isKey (x : Int) : Det Tryz.prog 151 [.int .i64 x] (.bool (inB x 0 31)) := by
  refine fspec_det tab_ok Tryz.call151 Tryz.func151 rfl 5 Tryz.ntmps151 (of_decide_eq_true rfl) fun B => codeK_sound tab_ok _ _ _ ?_
  simp (config := { maxSteps := 4000000 }) only [go_sem, simprocAttr, ↓dnA, Tryz.f151]
  refine CallTo.det (c_in _ _ _) fun _ => ?_
  simp (config := { maxSteps := 4000000 }) only [go_sem, simprocAttr, ↓dnA, Tryz.f151]

theorem c_impl_isValue (x : Int) : Det Tryz.prog 126 [.int .i64 x] (.bool (inB x 0 1000000)) := by
  refine fspec_det tab_ok Tryz.call126 Tryz.func126 rfl 5 Tryz.ntmps126 (of_decide_eq_true rfl) fun B => codeK_sound tab_ok _ _ _ ?_
  simp (config := { maxSteps := 4000000 }) only [go_sem, simprocAttr, ↓dnA, Tryz.f126]
  refine CallTo.det (c_in _ _ _) fun _ => ?_
  simp (config := { maxSteps := 4000000 }) only [go_sem, simprocAttr, ↓dnA, Tryz.f126]

structure Entry where
  key : Int
  value : Int
deriving DecidableEq, Inhabited

def encE (e : Entry) : List AV := [.int .i64 e.key, .int .i64 e.value]

structure Action where
  kind : Int
  fr : Int
  to : Int
  amount : Int
deriving DecidableEq, Inhabited

def encA (a : Action) : List AV := [.int .i64 a.kind, .int .i64 a.fr, .int .i64 a.to, .int .i64 a.amount]

/-- Entries are valid: their keys ascend from 'last' on, their values are at least 'least'. -/
def entOk (least : Int) : Int → List Entry → Bool
  | _, [] => true
  | last, e :: r => inB e.key (last + 1) 31 && inB e.value least 1000000 && entOk least e.key r

def storeValid (s : List Entry) : Bool := entOk 1 (-1) s

theorem c_impl_entriesValid (n1 : Option Bool) (xs : List Entry) (least : Int) (hx : xs.length < 2 ^ 62) : Det Tryz.prog 120 [.sl n1 (rows encE xs), .int .i64 least] (.bool (entOk least (-1) xs)) := by
  refine fspec_det tab_ok Tryz.call120 Tryz.func120 rfl 30 Tryz.ntmps120 (of_decide_eq_true rfl) fun B => codeK_sound tab_ok _ _ _ ?_
  simp (config := { maxSteps := 4000000 }) only [go_sem, simprocAttr, ↓dnA, Tryz.f120, rows_length]
  refine semL_for tab_ok (fun p : Nat × Int => ⟨30, [(1, .int .i64 least), (8, .sl n1 (rows encE xs)), (9, .int .i64 xs.length), (10, .int .i64 p.1), (5, .int .i64 p.2)], []⟩) (fun p => xs.length - p.1)
    (fun p => p.1 ≤ xs.length ∧ (-1 ≤ p.2 ∧ p.2 ≤ 31) ∧ entOk least p.2 (xs.drop p.1) = entOk least (-1) xs) (0, -1) [] (Weak.of rfl trivial ?_ rfl) ⟨by omega, by dsimp only; omega, rfl⟩ ?_
  · simp (config := { maxSteps := 4000000 }) only [go_sem, simprocAttr, ↓dnA, Tryz.f120, frW, wk2, wk1, wkL, wkB, hpW, List.mem_cons, Prod.mk.injEq, exists_eq_left, exists_eq_right, exists_eq]
  · rintro ⟨i, last⟩ ⟨hi, hl, hp⟩
    by_cases h : i < xs.length
    · have hw : IntKind.i64.wrap (last + 1) = last + 1 := wrap_small _ (by dsimp only at hl; omega) (by dsimp only at hl; omega)
      dsimp only at hp
      rw [drop_cons xs i h] at hp
      simp only [entOk] at hp
      simp (config := { maxSteps := 4000000 }) only [go_sem, simprocAttr, ↓dnA, Tryz.f120, rows_length, rows_get _ _ _ h, encE, nlt h, nn0, hw]
      refine CallTo.det (c_in _ _ _) fun _ => ?_
      cases h1 : inB xs[i].key (last + 1) 31 with
      | false =>
        rw [h1] at hp
        simp (config := { maxSteps := 4000000 }) only [go_sem, simprocAttr, ↓dnA, Tryz.f120, rows_length, rows_get _ _ _ h, encE, nlt h, nn0, hw, h1]
        rw [← hp]; rfl
      | true =>
        simp (config := { maxSteps := 4000000 }) only [go_sem, simprocAttr, ↓dnA, Tryz.f120, rows_length, rows_get _ _ _ h, encE, nlt h, nn0, hw, h1]
        refine CallTo.det (c_in _ _ _) fun _ => ?_
        cases h2 : inB xs[i].value least 1000000 with
        | false =>
          rw [h1, h2] at hp
          simp (config := { maxSteps := 4000000 }) only [go_sem, simprocAttr, ↓dnA, Tryz.f120, rows_length, rows_get _ _ _ h, encE, nlt h, nn0, hw, h1, h2]
          rw [← hp]; rfl
        | true =>
          rw [h1, h2] at hp
          simp (config := { maxSteps := 4000000 }) only [go_sem, simprocAttr, ↓dnA, Tryz.f120, rows_length, rows_get _ _ _ h, encE, nlt h, nn0, hw, h1, h2]
          have hk := inB_iff.1 h1
          refine ⟨(i + 1, xs[i].key), [], ⟨by dsimp only; omega, by dsimp only at hl ⊢; omega, hp⟩, by dsimp only; omega, Weak.of rfl trivial ?_ rfl⟩
          simp (config := { maxSteps := 4000000 }) only [go_sem, simprocAttr, ↓dnA, Tryz.f120, wsucc h hx, frW, wk2, wk1, wkL, wkB, hpW, List.mem_cons, Prod.mk.injEq, exists_eq_left, exists_eq_right, exists_eq]
    · have : i = xs.length := by dsimp only at hi; omega
      subst this
      simp only [List.drop_length] at hp
      simp (config := { maxSteps := 4000000 }) only [go_sem, simprocAttr, ↓dnA, Tryz.f120, nlf h]
      exact hp.symm

theorem c_impl_StoreValid (n1 : Option Bool) (xs : List Entry) (hx : xs.length < 2 ^ 62) : Det Tryz.prog 72 [.sl n1 (rows encE xs)] (.bool (storeValid xs)) := by
  refine fspec_det tab_ok Tryz.call72 Tryz.func72 rfl 5 Tryz.ntmps72 (of_decide_eq_true rfl) fun B => codeK_sound tab_ok _ _ _ ?_
  simp (config := { maxSteps := 4000000 }) only [go_sem, simprocAttr, ↓dnA, Tryz.f72]
  refine CallTo.det (c_impl_entriesValid _ _ _ hx) fun _ => ?_
  simp (config := { maxSteps := 4000000 }) only [go_sem, simprocAttr, ↓dnA, Tryz.f72]
  rfl

end Go.Proofs.YteebkimhfaodnaaGreat

/- Contracts: valid actions, stores by the reference, valid blocks. -/
set_option linter.unusedSimpArgs false
set_option linter.unusedVariables false
set_option maxRecDepth 20000
set_option maxHeartbeats 2000000
namespace Go.Proofs.YteebkimhfaodnaaGreat
open Go Go.RowKit

/-- An action's own kind fits. -/
def kindOk (a : Action) : Bool :=
  if a.kind == 1 || a.kind == 6 then a.to == 0 else if a.kind == 3 || a.kind == 4 || a.kind == 5 then a.amount == 0 else a.kind == 2

def actionValid (a : Action) : Bool := inB a.fr 0 31 && inB a.to 0 31 && inB a.amount 0 1000000 && kindOk a

theorem c_impl_ActionValid (a : Action) : Det Tryz.prog 123 [.agg (encA a)] (.bool (actionValid a)) := by
  refine fspec_det tab_ok Tryz.call123 Tryz.func123 rfl 37 Tryz.ntmps123 (of_decide_eq_true rfl) fun B => codeK_sound tab_ok _ _ _ ?_
  unfold encA
  simp (config := { maxSteps := 4000000 }) only [go_sem, simprocAttr, ↓dnA, Tryz.f123]
  refine CallTo.det (c_impl_isKey _) fun _ => ?_
  cases hc1 : inB a.fr 0 31
  · (try simp (config := { maxSteps := 4000000 }) only [go_sem, simprocAttr, ↓dnA, Tryz.f123, actionValid, hc1]) <;> (try rfl)
  (try simp (config := { maxSteps := 4000000 }) only [go_sem, simprocAttr, ↓dnA, Tryz.f123, actionValid, hc1]) <;> (try rfl)
  refine CallTo.det (c_impl_isKey _) fun _ => ?_
  cases hc2 : inB a.to 0 31
  · (try simp (config := { maxSteps := 4000000 }) only [go_sem, simprocAttr, ↓dnA, Tryz.f123, actionValid, hc1, hc2]) <;> (try rfl)
  (try simp (config := { maxSteps := 4000000 }) only [go_sem, simprocAttr, ↓dnA, Tryz.f123, actionValid, hc1, hc2]) <;> (try rfl)
  refine CallTo.det (c_impl_isValue _) fun _ => ?_
  cases hc3 : inB a.amount 0 1000000
  · (try simp (config := { maxSteps := 4000000 }) only [go_sem, simprocAttr, ↓dnA, Tryz.f123, actionValid, hc1, hc2, hc3]) <;> (try rfl)
  (try simp (config := { maxSteps := 4000000 }) only [go_sem, simprocAttr, ↓dnA, Tryz.f123, actionValid, hc1, hc2, hc3]) <;> (try rfl)
  by_cases k1 : a.kind = 1
  · simp [kindOk, k1]
  · by_cases k6 : a.kind = 6
    · simp [kindOk, k6]
    · by_cases k2 : a.kind = 2
      · simp [kindOk, k2]
      · by_cases k3 : a.kind = 3
        · simp [kindOk, k3]
        · by_cases k4 : a.kind = 4
          · simp [kindOk, k4]
          · by_cases k5 : a.kind = 5
            · simp [kindOk, k5]
            · simp [kindOk, k1, k2, k3, k4, k5, k6]

theorem c_spec_ActionValid (a : Action) : Det Tryz.prog 138 [.agg (encA a)] (.bool (actionValid a)) := by
  refine fspec_det tab_ok Tryz.call138 Tryz.func138 rfl 36 Tryz.ntmps138 (of_decide_eq_true rfl) fun B => codeK_sound tab_ok _ _ _ ?_
  unfold encA
  simp (config := { maxSteps := 4000000 }) only [go_sem, simprocAttr, ↓dnA, Tryz.f138]
  refine CallTo.det (c_l1In _ _ _) fun _ => ?_
  cases hc1 : inB a.fr 0 31
  · (try simp (config := { maxSteps := 4000000 }) only [go_sem, simprocAttr, ↓dnA, Tryz.f138, actionValid, hc1]) <;> (try rfl)
  (try simp (config := { maxSteps := 4000000 }) only [go_sem, simprocAttr, ↓dnA, Tryz.f138, actionValid, hc1]) <;> (try rfl)
  refine CallTo.det (c_l1In _ _ _) fun _ => ?_
  cases hc2 : inB a.to 0 31
  · (try simp (config := { maxSteps := 4000000 }) only [go_sem, simprocAttr, ↓dnA, Tryz.f138, actionValid, hc1, hc2]) <;> (try rfl)
  (try simp (config := { maxSteps := 4000000 }) only [go_sem, simprocAttr, ↓dnA, Tryz.f138, actionValid, hc1, hc2]) <;> (try rfl)
  refine CallTo.det (c_l1In _ _ _) fun _ => ?_
  cases hc3 : inB a.amount 0 1000000
  · (try simp (config := { maxSteps := 4000000 }) only [go_sem, simprocAttr, ↓dnA, Tryz.f138, actionValid, hc1, hc2, hc3]) <;> (try rfl)
  (try simp (config := { maxSteps := 4000000 }) only [go_sem, simprocAttr, ↓dnA, Tryz.f138, actionValid, hc1, hc2, hc3]) <;> (try rfl)
  by_cases k1 : a.kind = 1
  · simp [kindOk, k1]
  · by_cases k6 : a.kind = 6
    · simp [kindOk, k6]
    · by_cases k2 : a.kind = 2
      · simp [kindOk, k2]
      · by_cases k3 : a.kind = 3
        · simp [kindOk, k3]
        · by_cases k4 : a.kind = 4
          · simp [kindOk, k4]
          · by_cases k5 : a.kind = 5
            · simp [kindOk, k5]
            · simp [kindOk, k1, k2, k3, k4, k5, k6]

theorem c_slices_IndexFunc_Action (n1 : Option Bool) (xs : List Action) (k : FuncId) (p : Action → Bool) (hx : xs.length < 2 ^ 62) (hm : mutB k = false) (hp : ∀ x, x ∈ xs → Det Tryz.prog k [.agg (encA x)] (.bool (p x))) :
    Det Tryz.prog 150 [.sl n1 (rows encA xs), .fn k []] (.int .i64 (idxF p xs 0)) := by
  simp only [mutB] at hm
  refine fspec_det tab_ok Tryz.call150 Tryz.func150 rfl 19 Tryz.ntmps150 (of_decide_eq_true rfl) fun B => codeK_sound tab_ok _ _ _ ?_
  simp (config := { maxSteps := 4000000 }) only [go_sem, simprocAttr, ↓dnA, Tryz.f150, rows_length, hm]
  refine semL_for tab_ok (fun i : Nat => ⟨19, [(0, .sl n1 (rows encA xs)), (1, .fn k []), (7, .int .i64 xs.length), (8, .int .i64 i)], []⟩) (fun i => xs.length - i)
    (fun i => i ≤ xs.length ∧ idxF p (xs.drop i) i = idxF p xs 0) 0 [] (Weak.of rfl trivial ?_ rfl) ⟨by omega, rfl⟩ ?_
  · simp (config := { maxSteps := 4000000 }) only [go_sem, simprocAttr, ↓dnA, Tryz.f150, frW, wk2, wk1, wkL, wkB, hpW, List.mem_cons, Prod.mk.injEq, exists_eq_left, exists_eq_right, exists_eq]
  · rintro i ⟨hi, hp'⟩
    by_cases h : i < xs.length
    · simp (config := { maxSteps := 4000000 }) only [go_sem, simprocAttr, ↓dnA, Tryz.f150, rows_length, rows_get _ _ _ h, encA, nlt h, nn0, hm]
      refine CallTo.det (hp _ (List.getElem_mem h)) fun _ => ?_
      rw [drop_cons xs i h] at hp'
      simp (config := { maxSteps := 4000000 }) only [go_sem, simprocAttr, ↓dnA, Tryz.f150, rows_length, rows_get _ _ _ h, encA, nlt h, hm]
      refine ⟨fun h => ?_, fun h' => ?_⟩
      · rw [← hp']; simp [idxF, h]
      · refine ⟨i + 1, [], ⟨by omega, ?_⟩, by dsimp only; omega, Weak.of rfl trivial ?_ rfl⟩
        · rw [← hp']; simp [idxF, h']
        · simp (config := { maxSteps := 4000000 }) only [go_sem, simprocAttr, ↓dnA, Tryz.f150, wsucc h hx, frW, wk2, wk1, wkL, wkB, hpW, List.mem_cons, Prod.mk.injEq, exists_eq_left, exists_eq_right, exists_eq]
    · have : i = xs.length := by omega
      subst this
      rw [List.drop_length] at hp'
      simp (config := { maxSteps := 4000000 }) only [go_sem, simprocAttr, ↓dnA, Tryz.f150, nlf h, hm]
      rw [← hp']
      rfl

theorem c_slices_ContainsFunc_Action (n1 : Option Bool) (xs : List Action) (k : FuncId) (p : Action → Bool) (hx : xs.length < 2 ^ 62) (hm : mutB k = false) (hp : ∀ x, x ∈ xs → Det Tryz.prog k [.agg (encA x)] (.bool (p x))) :
    Det Tryz.prog 121 [.sl n1 (rows encA xs), .fn k []] (.bool (xs.any p)) := by
  refine fspec_det tab_ok Tryz.call121 Tryz.func121 rfl 9 Tryz.ntmps121 (of_decide_eq_true rfl) fun B => codeK_sound tab_ok _ _ _ ?_
  simp (config := { maxSteps := 4000000 }) only [go_sem, simprocAttr, ↓dnA, Tryz.f121]
  refine CallTo.det (c_slices_IndexFunc_Action _ _ _ _ hx hm hp) fun _ => ?_
  simp (config := { maxSteps := 4000000 }) only [go_sem, simprocAttr, ↓dnA, Tryz.f121, idxF_any]


theorem c_impl_ActionsValid1 (a : Action) : Det Tryz.prog 122 [.agg (encA a)] (.bool (!actionValid a)) := by
  refine fspec_det tab_ok Tryz.call122 Tryz.func122 rfl 6 Tryz.ntmps122 (of_decide_eq_true rfl) fun B => codeK_sound tab_ok _ _ _ ?_
  unfold encA
  simp (config := { maxSteps := 4000000 }) only [go_sem, simprocAttr, ↓dnA, Tryz.f122]
  refine CallTo.det (c_impl_ActionValid a) fun _ => ?_
  simp (config := { maxSteps := 4000000 }) only [go_sem, simprocAttr, ↓dnA, Tryz.f122]

def actionsValid (l : List Action) : Bool := decide (l.length ≤ 10) && l.all actionValid

theorem c_impl_ActionsValid (n1 : Option Bool) (xs : List Action) (hx : xs.length < 2 ^ 62) : Det Tryz.prog 73 [.sl n1 (rows encA xs)] (.bool (actionsValid xs)) := by
  have hc : Det Tryz.prog 121 [.sl n1 (rows encA xs), .fn 122 []] (.bool (!xs.all actionValid)) := by
    have := c_slices_ContainsFunc_Action n1 xs 122 (fun x => !actionValid x) hx rfl (fun x _ => c_impl_ActionsValid1 x)
    rwa [any_not] at this
  have he : decide ((xs.length : Int) ≤ 10) = decide (xs.length ≤ 10) := by simp; omega
  refine fspec_det tab_ok Tryz.call73 Tryz.func73 rfl 11 Tryz.ntmps73 (of_decide_eq_true rfl) fun B => codeK_sound tab_ok _ _ _ ?_
  cases h1 : decide (xs.length ≤ 10) with
  | false => simp (config := { maxSteps := 4000000 }) only [go_sem, simprocAttr, ↓dnA, Tryz.f73, rows_length, he, h1, actionsValid]
  | true =>
    simp (config := { maxSteps := 4000000 }) only [go_sem, simprocAttr, ↓dnA, Tryz.f73, rows_length, he, h1, actionsValid]
    refine CallTo.det hc fun _ => ?_
    simp (config := { maxSteps := 4000000 }) only [go_sem, simprocAttr, ↓dnA, Tryz.f73, rows_length, he, h1, actionsValid, Bool.not_not]

theorem c_spec_ActionsValid (n1 : Option Bool) (xs : List Action) (hx : xs.length < 2 ^ 62) : Det Tryz.prog 91 [.sl n1 (rows encA xs)] (.bool (actionsValid xs)) := by
  refine fspec_det tab_ok Tryz.call91 Tryz.func91 rfl 19 Tryz.ntmps91 (of_decide_eq_true rfl) fun B => codeK_sound tab_ok _ _ _ ?_
  simp (config := { maxSteps := 4000000 }) only [go_sem, simprocAttr, ↓dnA, Tryz.f91, rows_length]
  refine semL_for tab_ok (fun i : Nat => ⟨19, [(0, .sl n1 (rows encA xs)), (3, .int .i64 i)], []⟩) (fun i => xs.length - i)
    (fun i => i ≤ xs.length ∧ (xs.drop i).all actionValid = xs.all actionValid) 0 [] (Weak.of rfl trivial ?_ rfl) ⟨by omega, rfl⟩ ?_
  · simp (config := { maxSteps := 4000000 }) only [go_sem, simprocAttr, ↓dnA, Tryz.f91, frW, wk2, wk1, wkL, wkB, hpW, List.mem_cons, Prod.mk.injEq, exists_eq_left, exists_eq_right, exists_eq]
  · rintro i ⟨hi, hp⟩
    by_cases h : i < xs.length
    · rw [drop_cons xs i h, List.all_cons] at hp
      simp (config := { maxSteps := 4000000 }) only [go_sem, simprocAttr, ↓dnA, Tryz.f91, rows_length, rows_get _ _ _ h, encA, nlt h, nn0]
      refine CallTo.det (c_spec_ActionValid xs[i]) fun _ => ?_
      cases h1 : actionValid xs[i] with
      | false =>
        rw [h1, Bool.false_and] at hp
        simp (config := { maxSteps := 4000000 }) only [go_sem, simprocAttr, ↓dnA, Tryz.f91, rows_length, rows_get _ _ _ h, encA, nlt h, nn0, h1, actionsValid, ← hp]
      | true =>
        rw [h1, Bool.true_and] at hp
        simp (config := { maxSteps := 4000000 }) only [go_sem, simprocAttr, ↓dnA, Tryz.f91, rows_length, rows_get _ _ _ h, encA, nlt h, nn0, h1, wsucc h hx]
        refine ⟨i + 1, [], ⟨by omega, hp⟩, by dsimp only; omega, Weak.of rfl trivial ?_ rfl⟩
        simp (config := { maxSteps := 4000000 }) only [go_sem, simprocAttr, ↓dnA, Tryz.f91, frW, wk2, wk1, wkL, wkB, hpW, List.mem_cons, Prod.mk.injEq, exists_eq_left, exists_eq_right, exists_eq]
    · have : i = xs.length := by omega
      subst this
      simp only [List.drop_length, List.all_nil] at hp
      have he : decide ((xs.length : Int) ≤ 10) = decide (xs.length ≤ 10) := by simp; omega
      simp (config := { maxSteps := 4000000 }) only [go_sem, simprocAttr, ↓dnA, Tryz.f91, rows_length, nlf h, he, actionsValid, ← hp]

end Go.Proofs.YteebkimhfaodnaaGreat

/- Contracts: stores by the reference, valid blocks. -/
set_option linter.unusedSimpArgs false
set_option linter.unusedVariables false
set_option maxRecDepth 20000
set_option maxHeartbeats 2000000
namespace Go.Proofs.YteebkimhfaodnaaGreat
open Go Go.RowKit

theorem c_spec_StoreValid (n1 : Option Bool) (xs : List Entry) (hx : xs.length < 2 ^ 62) : Det Tryz.prog 90 [.sl n1 (rows encE xs)] (.bool (storeValid xs)) := by
  refine fspec_det tab_ok Tryz.call90 Tryz.func90 rfl 44 Tryz.ntmps90 (of_decide_eq_true rfl) fun B => codeK_sound tab_ok _ _ _ ?_
  simp (config := { maxSteps := 4000000 }) only [go_sem, simprocAttr, ↓dnA, Tryz.f90, rows_length]
  refine semL_for tab_ok (fun i : Nat => ⟨44, [(0, .sl n1 (rows encE xs)), (3, .int .i64 i)], []⟩) (fun i => xs.length - i)
    (fun i => i ≤ xs.length ∧ ∃ last : Int, -1 ≤ last ∧ (i = 0 → last = -1) ∧ (∀ j (h : j < xs.length), i = j + 1 → last = xs[j].key) ∧ entOk 1 last (xs.drop i) = storeValid xs) 0 [] (Weak.of rfl trivial ?_ rfl) ⟨by omega, -1, by omega, fun _ => rfl, fun j h hj => by omega, rfl⟩ ?_
  · simp (config := { maxSteps := 4000000 }) only [go_sem, simprocAttr, ↓dnA, Tryz.f90, frW, wk2, wk1, wkL, wkB, hpW, List.mem_cons, Prod.mk.injEq, exists_eq_left, exists_eq_right, exists_eq]
  · rintro i ⟨hi, last, hl, h0, hs, hp⟩
    by_cases h : i < xs.length
    · rw [drop_cons xs i h] at hp
      simp only [entOk] at hp
      simp (config := { maxSteps := 4000000 }) only [go_sem, simprocAttr, ↓dnA, Tryz.f90, rows_length, rows_get _ _ _ h, encE, nlt h, nn0]
      refine semL_draw tab_ok mixed_ rfl (ord := [(0, []), (1, []), (2, []), (3, []), (4, []), (5, []), (6, []), (7, []), (8, []), (9, []), (10, []), (11, []), (12, []), (13, []), (14, []), (15, []), (16, []), (17, []), (18, []), (19, []), (20, []), (21, []), (22, []), (23, []), (24, []), (25, []), (26, []), (27, []), (28, []), (29, []), (30, []), (31, []), (32, []), (33, [])]) (by dsimp only; decide +kernel) ?_
      simp (config := { maxSteps := 4000000 }) only [go_sem, simprocAttr, ↓dnA, Tryz.f90, rows_length, rows_get _ _ _ h, encE, nlt h, nn0]
      refine CallTo.det (c_l1In _ _ _) fun _ => ?_
      cases h1 : inB xs[i].key 0 31 with
      | false =>
        have h1' : inB xs[i].key (last + 1) 31 = false := by
          cases hc : inB xs[i].key (last + 1) 31 with
          | false => rfl
          | true => rw [inB_iff] at hc; rw [inB_iff.2 ⟨by omega, hc.2⟩] at h1; exact h1
        rw [h1', Bool.false_and, Bool.false_and] at hp
        simp (config := { maxSteps := 4000000 }) only [go_sem, simprocAttr, ↓dnA, Tryz.f90, rows_length, rows_get _ _ _ h, encE, nlt h, nn0, h1]
        exact hp.symm
      | true =>
        simp (config := { maxSteps := 4000000 }) only [go_sem, simprocAttr, ↓dnA, Tryz.f90, rows_length, rows_get _ _ _ h, encE, nlt h, nn0, h1]
        refine CallTo.det (c_l1In _ _ _) fun _ => ?_
        cases h2 : inB xs[i].value 1 1000000 with
        | false =>
          rw [h2, Bool.and_false, Bool.false_and] at hp
          simp (config := { maxSteps := 4000000 }) only [go_sem, simprocAttr, ↓dnA, Tryz.f90, rows_length, rows_get _ _ _ h, encE, nlt h, nn0, h1, h2]
          exact hp.symm
        | true =>
          rcases Nat.eq_zero_or_pos i with rfl | hpos
          · simp (config := { maxSteps := 4000000 }) only [go_sem, simprocAttr, ↓dnA, Tryz.f90, rows_length, rows_get _ _ _ h, encE, nlt h, nn0, h1, h2]
            have hl0 := h0 rfl
            have w1 : IntKind.i64.wrap 1 = 1 := by decide
            subst hl0
            rw [h2] at hp
            have h1' : inB (xs[0]'h).key (-1 + 1) 31 = true := h1
            rw [h1', Bool.true_and, Bool.true_and] at hp
            have hk := inB_iff.1 h1
            refine ⟨1, [], ⟨by omega, (xs[0]'h).key, by omega, fun hc => absurd hc (by omega), fun j hj e => ?_, hp⟩, by dsimp only; omega, Weak.of rfl trivial ?_ rfl⟩
            · obtain rfl : j = 0 := by omega
              rfl
            · simp (config := { maxSteps := 4000000 }) only [go_sem, simprocAttr, ↓dnA, Tryz.f90, w1, frW, wk2, wk1, wkL, wkB, hpW, List.mem_cons, Prod.mk.injEq, exists_eq_left, exists_eq_right, exists_eq]
          · obtain ⟨j, rfl⟩ : ∃ j, i = j + 1 := ⟨i - 1, by omega⟩
            have hw : IntKind.i64.wrap (((j + 1 : Nat) : Int) - 1) = (j : Int) := by rw [wrap_small _ (by omega) (by omega)]; omega
            have hj : j < xs.length := by omega
            have hg : decide (((j + 1 : Nat) : Int) > 0) = true := by simp
            have hls := hs j hj rfl
            simp (config := { maxSteps := 4000000 }) only [go_sem, simprocAttr, ↓dnA, Tryz.f90, rows_length, rows_get _ _ _ h, encE, nlt h, nn0, h1, h2, hw, rows_get _ _ _ hj, nlt hj, hg]
            have hk := inB_iff.1 h1
            cases h3 : decide (xs[j + 1].key ≤ xs[j].key) with
            | true =>
              have h1' : inB xs[j + 1].key (last + 1) 31 = false := by
                cases hc : inB xs[j + 1].key (last + 1) 31 with
                | false => rfl
                | true => rw [inB_iff] at hc; simp at h3; omega
              rw [h1', Bool.false_and, Bool.false_and] at hp
              exact ⟨fun _ => hp.symm, fun hc => by simp at hc⟩
            | false =>
              have h1' : inB xs[j + 1].key (last + 1) 31 = true := by rw [inB_iff]; simp at h3; omega
              rw [h1', h2, Bool.true_and, Bool.true_and] at hp
              simp only [Bool.false_eq_true, false_implies, true_implies, true_and, forall_const]
              refine ⟨j + 1 + 1, [], ⟨by omega, xs[j + 1].key, by omega, fun hc => absurd hc (by omega), fun j' hj' e => ?_, hp⟩, by dsimp only; omega, Weak.of rfl trivial ?_ rfl⟩
              · obtain rfl : j' = j + 1 := by omega
                rfl
              · simp (config := { maxSteps := 4000000 }) only [go_sem, simprocAttr, ↓dnA, Tryz.f90, wsucc h hx, frW, wk2, wk1, wkL, wkB, hpW, List.mem_cons, Prod.mk.injEq, exists_eq_left, exists_eq_right, exists_eq]
    · have : i = xs.length := by omega
      subst this
      simp only [List.drop_length] at hp
      simp (config := { maxSteps := 4000000 }) only [go_sem, simprocAttr, ↓dnA, Tryz.f90, rows_length, nlf h]
      exact hp.symm

end Go.Proofs.YteebkimhfaodnaaGreat

/- Contracts: valid blocks. -/
set_option linter.unusedSimpArgs false
set_option linter.unusedVariables false
set_option maxRecDepth 20000
set_option maxHeartbeats 2000000
namespace Go.Proofs.YteebkimhfaodnaaGreat
open Go Go.RowKit

structure Block where
  before : Int
  height : Int
  view : Int
  list : List Action
  root : Int
  effects : Int
deriving DecidableEq, Inhabited

def encBk (n : Option Bool) (b : Block) : List AV := [.int .i64 b.before, .int .i64 b.height, .int .i64 b.view, .sl n (rows encA b.list), .int .i64 b.root, .int .i64 b.effects]

def blockValid (b : Block) : Bool := inB b.before 0 1000002 && inB b.root 0 1000002 && inB b.effects 0 1000002 && inB b.height 0 100 && inB b.view 0 1000 && actionsValid b.list

end Go.Proofs.YteebkimhfaodnaaGreat

/- Contracts: sums of leaves and of nodes. -/
set_option linter.unusedSimpArgs false
set_option linter.unusedVariables false
set_option maxRecDepth 20000
set_option maxHeartbeats 2000000
namespace Go.Proofs.YteebkimhfaodnaaGreat
open Go Go.RowKit

/-- The sum of a leaf. -/
def leafSum (k v : Int) : Int := if inB k 0 31 && inB v 0 1000000 then sumI 18 [k, v] else -1

/-- The value of a key. -/
def valAt : List Entry → Int → Int
  | [], _ => 0
  | e :: r, k => if e.key = k then e.value else valAt r k

theorem c_spec_l2At (n1 : Option Bool) (xs : List Entry) (k : Int) (hx : xs.length < 2 ^ 62) : Det Tryz.prog 156 [.sl n1 (rows encE xs), .int .i64 k] (.int .i64 (valAt xs k)) := by
  refine fspec_det tab_ok Tryz.call156 Tryz.func156 rfl 24 Tryz.ntmps156 (of_decide_eq_true rfl) fun B => codeK_sound tab_ok _ _ _ ?_
  simp (config := { maxSteps := 4000000 }) only [go_sem, simprocAttr, ↓dnA, Tryz.f156, rows_length]
  refine semL_for tab_ok (fun i : Nat => ⟨24, [(0, .sl n1 (rows encE xs)), (1, .int .i64 k), (5, .int .i64 i)], []⟩) (fun i => xs.length - i)
    (fun i => i ≤ xs.length ∧ valAt (xs.drop i) k = valAt xs k) 0 [] (Weak.of rfl trivial ?_ rfl) ⟨by omega, rfl⟩ ?_
  · simp (config := { maxSteps := 4000000 }) only [go_sem, simprocAttr, ↓dnA, Tryz.f156, frW, wk2, wk1, wkL, wkB, hpW, List.mem_cons, Prod.mk.injEq, exists_eq_left, exists_eq_right, exists_eq]
  · rintro i ⟨hi, hp⟩
    by_cases h : i < xs.length
    · rw [drop_cons xs i h] at hp
      simp only [valAt] at hp
      simp (config := { maxSteps := 4000000 }) only [go_sem, simprocAttr, ↓dnA, Tryz.f156, rows_length, rows_get _ _ _ h, encE, nlt h, nn0]
      refine ⟨fun he => ?_, fun he => ?_⟩
      · rw [if_pos (by simpa using he)] at hp
        exact hp.symm
      · rw [if_neg (by simpa using he)] at hp
        refine ⟨i + 1, [], ⟨by omega, hp⟩, by dsimp only; omega, Weak.of rfl trivial ?_ rfl⟩
        simp (config := { maxSteps := 4000000 }) only [go_sem, simprocAttr, ↓dnA, Tryz.f156, wsucc h hx, frW, wk2, wk1, wkL, wkB, hpW, List.mem_cons, Prod.mk.injEq, exists_eq_left, exists_eq_right, exists_eq]
    · have : i = xs.length := by omega
      subst this
      simp only [List.drop_length] at hp
      simp (config := { maxSteps := 4000000 }) only [go_sem, simprocAttr, ↓dnA, Tryz.f156, rows_length, nlf h]
      exact hp.symm

end Go.Proofs.YteebkimhfaodnaaGreat

/- Contracts: roots. -/
set_option linter.unusedSimpArgs false
set_option linter.unusedVariables false
set_option maxRecDepth 20000
set_option maxHeartbeats 2000000
namespace Go.Proofs.YteebkimhfaodnaaGreat
open Go Go.RowKit

/-- The values of a function at 0..n-1. -/
def upto (f : Int → Int) (n : Nat) : List Int := (List.range n).map fun k : Nat => f (k : Int)

/-- The next level. -/
def pairUp : List Int → List Int
  | a :: b :: r => sumI 19 [a, b] :: pairUp r
  | _ => []

def upN : Nat → List Int → List Int
  | 0, l => l
  | n + 1, l => upN n (pairUp l)

/-- The sums of the leaves. -/
def leaves (xs : List Entry) : List Int := upto (fun k => leafSum k (valAt xs k)) 32

theorem rows_snoc {α : Type} (e : α → List AV) (xs : List α) (x : α) : rows e xs ++ [e x] = rows e (xs ++ [x]) := by simp [rows]
end Go.Proofs.YteebkimhfaodnaaGreat

/- Contracts: values of all keys, levels, roots. -/
set_option linter.unusedSimpArgs false
set_option linter.unusedVariables false
set_option maxRecDepth 20000
set_option maxHeartbeats 2000000
namespace Go.Proofs.YteebkimhfaodnaaGreat
open Go Go.RowKit

def cellsI (v : List Int) : List AV := v.map fun n => .int .i64 n
theorem cellsI_length (v : List Int) : (cellsI v).length = v.length := by simp [cellsI]

theorem cellsI_wk (ρ : List (Nat × Nat)) : ∀ v : List Int, wkL ρ (cellsI v) (cellsI v) = True
  | [] => by simp [cellsI, wkL]
  | n :: v => by
    have := cellsI_wk ρ v
    simp only [cellsI] at this
    simp [cellsI, wkL, wk1, this]
theorem cellsI_exp (s : AState) (fin : Bool) : ∀ (v : List Int) (K : List AV → List Nat → Prop), expL s fin (cellsI v) K = K (cellsI v) []
  | [], K => rfl
  | n :: v, K => by
    have := cellsI_exp s fin v
    show expL s fin (cellsI v) _ = _
    rw [this]; rfl
theorem cellsI_rw : ∀ v : List Int, rwL (cellsI v) (cellsI v) = True
  | [] => by simp [cellsI, rwL]
  | n :: v => by
    have := cellsI_rw v
    simp only [cellsI] at this
    simp [cellsI, rwL, rwC, this]
theorem cellsI_set (v : List Int) (i : Nat) (x : Int) : (cellsI v).set i (.int .i64 x) = cellsI (v.set i x) := by simp [cellsI, List.map_set]
theorem cellsI_one (v : List Int) : (cellsI v).all AV.one = true := by simp [cellsI, AV.one]
theorem cellsI_take (v : List Int) (n : Nat) (h : v.length = n) : (cellsI v).take n = cellsI v := by rw [List.take_of_length_le]; simp [cellsI, h]

theorem cellsI_impL : ∀ (v : List Int) (n : Nat), impL n (cellsI v) = cellsI v
  | [], _ => rfl
  | x :: v, n => by
    have := cellsI_impL v (n + 1)
    simp only [cellsI] at this
    simp [cellsI, impL, impC, this]
theorem cellsI_impLB : ∀ (v : List Int) (n : Nat), impLB n (cellsI v) = []
  | [], _ => rfl
  | x :: v, n => by
    have := cellsI_impLB v (n + 1)
    simp only [cellsI] at this
    simp [cellsI, impLB, impCB, this]

def zeros32 : List Int := List.replicate 32 0
theorem zeros32_cells : cellsI zeros32 = List.replicate 32 (.int .i64 0) := by simp [cellsI, zeros32]

def putV (v : List Int) (e : Entry) : List Int := v.set e.key.toNat e.value
def valuesL (xs : List Entry) : List Int := xs.foldl putV zeros32

theorem c_impl_valuesOf (n1 : Option Bool) (xs : List Entry) (hx : xs.length < 2 ^ 62) (hk : ∀ e, e ∈ xs → 0 ≤ e.key ∧ e.key ≤ 31) : Det Tryz.prog 84 [.sl n1 (rows encE xs)] (.agg (cellsI (valuesL xs))) := by
  refine fspec_det tab_ok Tryz.call84 Tryz.func84 rfl 19 Tryz.ntmps84 (of_decide_eq_true rfl) fun B => codeK_sound tab_ok _ _ _ ?_
  simp (config := { maxSteps := 4000000 }) only [go_sem, simprocAttr, ↓dnA, Tryz.f84, rows_length]
  refine semL_for tab_ok (fun p : Nat × List Int => ⟨19, [(2, .loc 2 0), (3, .loc 3 0), (6, .sl n1 (rows encE xs)), (7, .int .i64 xs.length), (8, .int .i64 p.1)], [(2, .var (cellsI zeros32)), (3, .var (cellsI p.2))]⟩) (fun p => xs.length - p.1)
    (fun p => p.1 ≤ xs.length ∧ p.2.length = 32 ∧ (xs.drop p.1).foldl putV p.2 = valuesL xs) (0, zeros32) [(2, 2), (3, 3)] (Weak.of rfl ?_ ?_ rfl) ⟨by omega, by simp [zeros32], rfl⟩ ?_
  · simp (config := { maxSteps := 4000000 }) only [go_sem, simprocAttr, ↓dnA, Tryz.f84, zeros32_cells, frW, wk2, wk1, wkL, wkB, hpW, List.mem_cons, Prod.mk.injEq, exists_eq_left, exists_eq_right, exists_eq]
  · simp (config := { maxSteps := 4000000 }) only [go_sem, simprocAttr, ↓dnA, Tryz.f84, frW, wk2, wk1, wkL, wkB, hpW, List.mem_cons, Prod.mk.injEq, exists_eq_left, exists_eq_right, exists_eq]
  · rintro ⟨i, v⟩ ⟨hi, hv, hp⟩
    dsimp only at hi hp hv
    have cl : (cellsI v).length = 32 := by rw [cellsI_length, hv]
    have cz : (cellsI zeros32).length = 32 := by rw [cellsI_length]; rfl
    by_cases h : i < xs.length
    · rw [drop_cons xs i h, List.foldl_cons] at hp
      have hb := hk _ (List.getElem_mem h)
      have hw : IntKind.i64.wrap ((i : Int) + 1) = ((i + 1 : Nat) : Int) := wsucc h hx
      simp (config := { maxSteps := 4000000 }) only [go_sem, simprocAttr, ↓dnA, Tryz.f84, rows_length, rows_get _ _ _ h, encE, nlt h, nn0, cl, cellsI_set, Nat.mul_one, show ¬ (1 = 32) by decide]
      refine ⟨⟨by omega, by omega⟩, by omega, (i + 1, putV v xs[i]), [(2, 2), (3, 3)], ⟨by dsimp only; omega, by simp [putV, hv], hp⟩, by dsimp only; omega, Weak.of (by rfl) ?_ ?_ (by rfl)⟩
      · simp (config := { maxSteps := 4000000 }) only [go_sem, simprocAttr, ↓dnA, Tryz.f84, cellsI_wk, putV, frW, wk2, wk1, wkL, wkB, hpW, List.mem_cons, Prod.mk.injEq, exists_eq_left, exists_eq_right, exists_eq]
      · simp (config := { maxSteps := 4000000 }) only [go_sem, simprocAttr, ↓dnA, Tryz.f84, hw, frW, wk2, wk1, wkL, wkB, hpW, List.mem_cons, Prod.mk.injEq, exists_eq_left, exists_eq_right, exists_eq]
    · have : i = xs.length := by omega
      subst this
      simp only [List.drop_length, List.foldl_nil] at hp
      subst hp
      simp (config := { maxSteps := 4000000 }) only [go_sem, simprocAttr, ↓dnA, Tryz.f84, nlf h, cl, cz, cellsI_take _ 32 hv, cellsI_one, cellsI_exp, cellsI_rw]

theorem foldl_putV (xs : List Entry) (v : List Int) (k : Nat) (hv : v.length = 32) (hk : k < 32) (ha : ∀ e, e ∈ xs → 0 ≤ e.key) (hd : (xs.map Entry.key).Nodup) :
    ((xs.foldl putV v).length = 32) ∧ (xs.foldl putV v).getD k 0 = if (k : Int) ∈ xs.map Entry.key then valAt xs k else v.getD k 0 := by
  induction xs generalizing v with
  | nil => exact ⟨hv, by simp⟩
  | cons e r ih =>
    have h0 : 0 ≤ e.key := ha e (by simp)
    rw [List.map_cons, List.nodup_cons] at hd
    have hv' : (putV v e).length = 32 := by simp [putV, hv]
    obtain ⟨h1, h2⟩ := ih (putV v e) hv' (fun x hx => ha x (List.mem_cons_of_mem _ hx)) hd.2
    refine ⟨h1, ?_⟩
    rw [List.foldl_cons, h2]
    simp only [List.map_cons, List.mem_cons]
    rw [show valAt (e :: r) k = if e.key = (k : Int) then e.value else valAt r k from rfl]
    by_cases he : e.key = (k : Int)
    · have : ¬ (k : Int) ∈ r.map Entry.key := by rw [← he]; exact hd.1
      rw [if_neg this, if_pos (.inl he.symm), if_pos he]
      have hkt : e.key.toNat = k := by omega
      simp [putV, List.getD_eq_getElem?_getD, hkt, hv, hk]
    · rw [if_neg he]
      have hkt : e.key.toNat ≠ k := by omega
      have : (putV v e).getD k 0 = v.getD k 0 := by simp [putV, List.getD_eq_getElem?_getD, hkt]
      rw [this]
      have he' : ¬ (k : Int) = e.key := fun h => he h.symm
      simp only [he', false_or]

/-- Keys of a store. -/
theorem entOk_spec (least : Int) : ∀ (xs : List Entry) (last : Int), entOk least last xs = true → (∀ e, e ∈ xs → last < e.key ∧ e.key ≤ 31 ∧ least ≤ e.value ∧ e.value ≤ 1000000) ∧ (xs.map Entry.key).Nodup
  | [], _, _ => ⟨fun e he => (by cases he), by simp⟩
  | e :: r, last, h => by
    simp only [entOk, Bool.and_eq_true] at h
    obtain ⟨⟨h1, h2⟩, h3⟩ := h
    have h1 := inB_iff.1 h1
    have h2 := inB_iff.1 h2
    obtain ⟨h4, h5⟩ := entOk_spec least r _ h3
    refine ⟨fun x hx => ?_, ?_⟩
    · rcases List.mem_cons.1 hx with rfl | hx
      · omega
      · have := h4 x hx; omega
    · rw [List.map_cons, List.nodup_cons]
      refine ⟨fun hm => ?_, h5⟩
      obtain ⟨x, hx, e'⟩ := List.mem_map.1 hm
      have := h4 x hx; omega

theorem valAt_bd {xs : List Entry} (h : ∀ e, e ∈ xs → 0 ≤ e.value ∧ e.value ≤ 1000000) (k : Int) : 0 ≤ valAt xs k ∧ valAt xs k ≤ 1000000 := by
  induction xs with
  | nil => simp [valAt]
  | cons e r ih =>
    unfold valAt
    split
    · exact h e (by simp)
    · exact ih fun x hx => h x (List.mem_cons_of_mem _ hx)

theorem valAt_none {xs : List Entry} {k : Int} (h : ¬ k ∈ xs.map Entry.key) : valAt xs k = 0 := by
  induction xs with
  | nil => rfl
  | cons e r ih =>
    simp only [List.map_cons, List.mem_cons, not_or] at h
    unfold valAt
    rw [if_neg (fun e => h.1 e.symm)]
    exact ih h.2

/-- The values of a store, one by one. -/
theorem valuesL_get {xs : List Entry} (h : storeValid xs = true) (k : Nat) (hk : k < 32) : (valuesL xs).length = 32 ∧ (valuesL xs).getD k 0 = valAt xs k := by
  obtain ⟨h1, h2⟩ := entOk_spec 1 xs (-1) h
  obtain ⟨h3, h4⟩ := foldl_putV xs zeros32 k rfl hk (fun e he => by have := h1 e he; omega) h2
  refine ⟨h3, ?_⟩
  unfold valuesL
  rw [h4]
  split
  · rfl
  · rename_i hm
    rw [valAt_none hm]
    simp only [zeros32, List.getD_eq_getElem?_getD, List.getElem?_replicate, hk, if_true, Option.getD_some]

end Go.Proofs.YteebkimhfaodnaaGreat

/- Contracts: levels, roots. -/
set_option linter.unusedSimpArgs false
set_option linter.unusedVariables false
set_option maxRecDepth 20000
set_option maxHeartbeats 2000000
namespace Go.Proofs.YteebkimhfaodnaaGreat
open Go Go.RowKit

/-- The root of a store. -/
def rootOf (xs : List Entry) : Int := if storeValid xs then (upN 5 (leaves xs)).getD 0 0 else -1

theorem cellsI_get (v : List Int) (i : Nat) (d : AV) (h : i < v.length) : (cellsI v).getD i d = .int .i64 (v.getD i 0) := by
  simp [cellsI, List.getD_eq_getElem?_getD, h]

end Go.Proofs.YteebkimhfaodnaaGreat

/- Contracts: sums of blocks. -/
set_option linter.unusedSimpArgs false
set_option linter.unusedVariables false
set_option maxRecDepth 20000
set_option maxHeartbeats 2000000
namespace Go.Proofs.YteebkimhfaodnaaGreat
open Go Go.RowKit

def actNums (a : Action) : List Int := [a.kind, a.fr, a.to, a.amount]
def headNums (b : Block) : List Int := [b.before, b.height, b.view, b.list.length]
def blockNums (b : Block) : List Int := headNums b ++ b.list.flatMap actNums ++ [b.root, b.effects]
def blockSum (b : Block) : Int := if blockValid b then sumI 22 (blockNums b) else -1

theorem kindOk_bd {a : Action} (h : kindOk a = true) : 1 ≤ a.kind ∧ a.kind ≤ 6 := by
  unfold kindOk at h
  split at h
  · rename_i h1; simp at h1; omega
  · split at h
    · rename_i h1; simp at h1; omega
    · simp at h; omega

end Go.Proofs.YteebkimhfaodnaaGreat

/- Contracts: first blocks, equality of blocks. -/
set_option linter.unusedSimpArgs false
set_option linter.unusedVariables false
set_option maxRecDepth 20000
set_option maxHeartbeats 2000000
namespace Go.Proofs.YteebkimhfaodnaaGreat
open Go Go.RowKit

/-- The first block over a store. -/
def firstBlock (s : List Entry) : Block := if storeValid s then ⟨0, 0, 0, [], rootOf s, 21⟩ else ⟨0, 0, 0, [], 0, 0⟩

end Go.Proofs.YteebkimhfaodnaaGreat

/- Contracts: equality of blocks, numbers in lists, blocks by their sums. -/
set_option linter.unusedSimpArgs false
set_option linter.unusedVariables false
set_option maxRecDepth 20000
set_option maxHeartbeats 2000000
namespace Go.Proofs.YteebkimhfaodnaaGreat
open Go Go.RowKit

theorem take_snoc {α : Type} (xs : List α) (i : Nat) (h : i < xs.length) : xs.take (i + 1) = xs.take i ++ [xs[i]] := (List.take_append_getElem h).symm

/-- Comparing lists one by one: what is behind i decides. -/
theorem eq_drop {α : Type} [DecidableEq α] (xs ys : List α) (i : Nat) (hl : xs.length = ys.length) (h : i < xs.length) :
    decide (xs.drop i = ys.drop i) = (decide (xs[i] = ys[i]'(by omega)) && decide (xs.drop (i + 1) = ys.drop (i + 1))) := by
  rw [drop_cons xs i h, drop_cons ys i (by omega), ← Bool.decide_and]
  exact decide_eq_decide.2 (by rw [List.cons.injEq])

end Go.Proofs.YteebkimhfaodnaaGreat

/- Contracts: equality of blocks. -/
set_option linter.unusedSimpArgs false
set_option linter.unusedVariables false
set_option maxRecDepth 20000
set_option maxHeartbeats 2000000
namespace Go.Proofs.YteebkimhfaodnaaGreat
open Go Go.RowKit

end Go.Proofs.YteebkimhfaodnaaGreat

/- Contracts: blocks by their sums. -/
set_option linter.unusedSimpArgs false
set_option linter.unusedVariables false
set_option maxRecDepth 20000
set_option maxHeartbeats 2000000
namespace Go.Proofs.YteebkimhfaodnaaGreat
open Go Go.RowKit

structure Tree where
  base : List Entry
  blocks : List Block
  before : List Int
deriving DecidableEq, Inhabited

/-- Sizes that fit. -/
structure TreeSz (t : Tree) : Prop where
  base : t.base.length < 2 ^ 62
  blocks : t.blocks.length < 2 ^ 62
  before : t.before.length < 2 ^ 62
  list : ∀ b, b ∈ t.blocks → b.list.length < 2 ^ 62

end Go.Proofs.YteebkimhfaodnaaGreat

/- Contracts: valid trees of blocks. -/
set_option linter.unusedSimpArgs false
set_option linter.unusedVariables false
set_option maxRecDepth 20000
set_option maxHeartbeats 4000000
namespace Go.Proofs.YteebkimhfaodnaaGreat
open Go Go.RowKit

def Tree.blk (t : Tree) (i : Nat) : Block := t.blocks.getD i default
def Tree.bef (t : Tree) (i : Nat) : Int := t.before.getD i 0

/-- The block k is behind the one that it names. -/
structure Link (t : Tree) (k : Nat) : Prop where
  lo : 0 ≤ t.bef k
  hi : t.bef k < k
  sum : blockSum (t.blk (t.bef k).toNat) = (t.blk k).before
  height : (t.blk (t.bef k).toNat).height + 1 = (t.blk k).height
  view : (t.blk (t.bef k).toNat).view < (t.blk k).view

/-- Valid trees. -/
structure TreeOk (t : Tree) : Prop where
  store : storeValid t.base = true
  len : 1 ≤ t.blocks.length ∧ t.blocks.length ≤ 14
  bef : t.before.length = t.blocks.length
  first : t.blk 0 = firstBlock t.base
  bef0 : t.bef 0 = -1
  valid : ∀ i, i < t.blocks.length → blockValid (t.blk i) = true
  dist : ∀ i j, i < j → j < t.blocks.length → blockSum (t.blk i) ≠ blockSum (t.blk j)
  link : ∀ k, 0 < k → k < t.blocks.length → Link t k

/-- What is known of a tree before its blocks are looked at one by one. -/
structure TreePre (t : Tree) : Prop where
  store : storeValid t.base = true
  len : 1 ≤ t.blocks.length ∧ t.blocks.length ≤ 14
  bef : t.before.length = t.blocks.length
  first : t.blk 0 = firstBlock t.base
  bef0 : t.bef 0 = -1

/-- What is known of a tree when its first i blocks have been looked at. -/
structure TreeTo (t : Tree) (i : Nat) : Prop where
  valid : ∀ k, k < i → blockValid (t.blk k) = true
  dist : ∀ j k, j < k → k < i → blockSum (t.blk j) ≠ blockSum (t.blk k)
  link : ∀ k, 0 < k → k < i → Link t k

theorem TreePre.ok {t : Tree} (h : TreePre t) (h' : TreeTo t t.blocks.length) : TreeOk t :=
  ⟨h.store, h.len, h.bef, h.first, h.bef0, h'.valid, h'.dist, h'.link⟩

end Go.Proofs.YteebkimhfaodnaaGreat

/- Contracts: valid trees of blocks, by the reference. -/
set_option linter.unusedSimpArgs false
set_option linter.unusedVariables false
set_option maxRecDepth 20000
set_option maxHeartbeats 4000000
namespace Go.Proofs.YteebkimhfaodnaaGreat
open Go Go.RowKit

end Go.Proofs.YteebkimhfaodnaaGreat

/- Contracts: votes. -/
set_option linter.unusedSimpArgs false
set_option linter.unusedVariables false
set_option maxRecDepth 20000
set_option maxHeartbeats 4000000
namespace Go.Proofs.YteebkimhfaodnaaGreat
open Go Go.RowKit

end Go.Proofs.YteebkimhfaodnaaGreat

/- Contracts: the laws' copies. -/
set_option linter.unusedSimpArgs false
set_option linter.unusedVariables false
set_option maxRecDepth 20000
set_option maxHeartbeats 4000000
namespace Go.Proofs.YteebkimhfaodnaaGreat
open Go Go.RowKit

theorem getD_at {α : Type} (xs : List α) (i : Nat) (d : α) (h : i < xs.length) : xs.getD i d = xs[i] := by
  simp [List.getD_eq_getElem?_getD, h]

def encBkO (b : Block) : List AV := [.int .i64 b.before, .int .i64 b.height, .int .i64 b.view, .osl true 4 (rows encA b.list), .int .i64 b.root, .int .i64 b.effects]

theorem c_laws_toEntry (e : Entry) : Det Tryz.prog 98 [.agg (encE e)] (.agg (encE e)) := by
  refine fspec_det tab_ok Tryz.call98 Tryz.func98 rfl 11 Tryz.ntmps98 (of_decide_eq_true rfl) fun B => codeK_sound tab_ok _ _ _ ?_
  unfold encE
  simp (config := { maxSteps := 4000000 }) only [go_sem, simprocAttr, ↓dnA, Tryz.f98]

theorem c_laws_toAction (a : Action) : Det Tryz.prog 99 [.agg (encA a)] (.agg (encA a)) := by
  refine fspec_det tab_ok Tryz.call99 Tryz.func99 rfl 17 Tryz.ntmps99 (of_decide_eq_true rfl) fun B => codeK_sound tab_ok _ _ _ ?_
  unfold encA
  simp (config := { maxSteps := 4000000 }) only [go_sem, simprocAttr, ↓dnA, Tryz.f99]

theorem c_laws_toEntryS (n1 : Option Bool) (xs : List Entry) (hx : xs.length < 2 ^ 32) :
    Det Tryz.prog 49 [.sl n1 (rows encE xs)] (.osl true 2 (rows encE xs)) := by
  refine fspec_det tab_ok Tryz.call49 Tryz.func49 rfl 23 Tryz.ntmps49 (of_decide_eq_true rfl) fun B => codeK_sound tab_ok _ _ _ ?_
  have hx62 : xs.length < 2 ^ 62 := by omega
  simp (config := { maxSteps := 4000000 }) only [go_sem, simprocAttr, ↓dnA, Tryz.f49, rows_length]
  repeat refine And.intro (by first | omega | (simp; done) | (simp; omega) | assumption) ?_
  refine semL_for tab_ok (fun i : Nat => ⟨23, [(0, .sl n1 (rows encE xs)), (3, .row 7 xs.length), (4, .int .i64 i)], [(7, .row true true 2 (rows encE (xs.take i ++ List.replicate (xs.length - i) (⟨0, 0⟩ : Entry))))]⟩) (fun i => xs.length - i)
    (fun i => i ≤ xs.length) 0 [(7, 7)] (Weak.of (by rfl) ?_ ?_ (by rfl)) (by omega) ?_
  · simp (config := { maxSteps := 4000000 }) only [go_sem, simprocAttr, ↓dnA, Tryz.f49, frW, wk2, wk1, wkL, wkB, hpW, List.mem_cons, Prod.mk.injEq, exists_eq_left, exists_eq_right, exists_eq]
    simp [rows, encE, encBk]
    all_goals exact Or.inr rfl
  · simp (config := { maxSteps := 4000000 }) only [go_sem, simprocAttr, ↓dnA, Tryz.f49, frW, wk2, wk1, wkL, wkB, hpW, List.mem_cons, Prod.mk.injEq, exists_eq_left, exists_eq_right, exists_eq]
  · rintro i hi
    by_cases h : i < xs.length
    · have hm : i < (xs.take i ++ List.replicate (xs.length - i) (⟨0, 0⟩ : Entry)).length := by simp; omega
      simp (config := { maxSteps := 4000000 }) only [go_sem, simprocAttr, ↓dnA, Tryz.f49, rows_length, rows_get _ _ _ h, encE, encBk, nlt h, nn0]
      refine CallTo.det (c_laws_toEntry xs[i]) fun _ => ?_
      simp (config := { maxSteps := 4000000 }) only [go_sem, simprocAttr, ↓dnA, Tryz.f49, rows_length, rows_get _ _ _ h, rows_get _ _ _ hm, hm, encE, encBk, encBkO, nlt h, nn0, wsucc h hx62]
      repeat refine And.intro (by first | omega | (simp; done) | (simp; omega) | assumption) ?_
      refine ⟨i + 1, [(7, 7)], by omega, by dsimp only; omega, Weak.of (by rfl) ?_ ?_ (by rfl)⟩
      · simp (config := { maxSteps := 4000000 }) only [go_sem, simprocAttr, ↓dnA, Tryz.f49, frW, wk2, wk1, wkL, wkB, hpW, List.mem_cons, Prod.mk.injEq, exists_eq_left, exists_eq_right, exists_eq]
        first
          | done
          | (refine (congrArg (rows encE) (fill_step xs (⟨0, 0⟩ : Entry) (⟨0, 0⟩ : Entry) i h)).symm.trans ?_; rw [← rows_set, getD_at _ _ _ h]; rfl)
      · simp (config := { maxSteps := 4000000 }) only [go_sem, simprocAttr, ↓dnA, Tryz.f49, wsucc h hx62, frW, wk2, wk1, wkL, wkB, hpW, List.mem_cons, Prod.mk.injEq, exists_eq_left, exists_eq_right, exists_eq]
    · have : i = xs.length := by omega
      subst this
      simp (config := { maxSteps := 4000000 }) only [go_sem, simprocAttr, ↓dnA, Tryz.f49, rows_length, nlf h]
      simp


theorem c_laws_toActionS (n1 : Option Bool) (xs : List Action) (hx : xs.length < 2 ^ 32) :
    Det Tryz.prog 50 [.sl n1 (rows encA xs)] (.osl true 4 (rows encA xs)) := by
  refine fspec_det tab_ok Tryz.call50 Tryz.func50 rfl 23 Tryz.ntmps50 (of_decide_eq_true rfl) fun B => codeK_sound tab_ok _ _ _ ?_
  have hx62 : xs.length < 2 ^ 62 := by omega
  simp (config := { maxSteps := 4000000 }) only [go_sem, simprocAttr, ↓dnA, Tryz.f50, rows_length]
  repeat refine And.intro (by first | omega | (simp; done) | (simp; omega) | assumption) ?_
  refine semL_for tab_ok (fun i : Nat => ⟨23, [(0, .sl n1 (rows encA xs)), (3, .row 7 xs.length), (4, .int .i64 i)], [(7, .row true true 4 (rows encA (xs.take i ++ List.replicate (xs.length - i) (⟨0, 0, 0, 0⟩ : Action))))]⟩) (fun i => xs.length - i)
    (fun i => i ≤ xs.length) 0 [(7, 7)] (Weak.of (by rfl) ?_ ?_ (by rfl)) (by omega) ?_
  · simp (config := { maxSteps := 4000000 }) only [go_sem, simprocAttr, ↓dnA, Tryz.f50, frW, wk2, wk1, wkL, wkB, hpW, List.mem_cons, Prod.mk.injEq, exists_eq_left, exists_eq_right, exists_eq]
    simp [rows, encA, encBk]
    all_goals exact Or.inr rfl
  · simp (config := { maxSteps := 4000000 }) only [go_sem, simprocAttr, ↓dnA, Tryz.f50, frW, wk2, wk1, wkL, wkB, hpW, List.mem_cons, Prod.mk.injEq, exists_eq_left, exists_eq_right, exists_eq]
  · rintro i hi
    by_cases h : i < xs.length
    · have hm : i < (xs.take i ++ List.replicate (xs.length - i) (⟨0, 0, 0, 0⟩ : Action)).length := by simp; omega
      simp (config := { maxSteps := 4000000 }) only [go_sem, simprocAttr, ↓dnA, Tryz.f50, rows_length, rows_get _ _ _ h, encA, encBk, nlt h, nn0]
      refine CallTo.det (c_laws_toAction xs[i]) fun _ => ?_
      simp (config := { maxSteps := 4000000 }) only [go_sem, simprocAttr, ↓dnA, Tryz.f50, rows_length, rows_get _ _ _ h, rows_get _ _ _ hm, hm, encA, encBk, encBkO, nlt h, nn0, wsucc h hx62]
      repeat refine And.intro (by first | omega | (simp; done) | (simp; omega) | assumption) ?_
      refine ⟨i + 1, [(7, 7)], by omega, by dsimp only; omega, Weak.of (by rfl) ?_ ?_ (by rfl)⟩
      · simp (config := { maxSteps := 4000000 }) only [go_sem, simprocAttr, ↓dnA, Tryz.f50, frW, wk2, wk1, wkL, wkB, hpW, List.mem_cons, Prod.mk.injEq, exists_eq_left, exists_eq_right, exists_eq]
        first
          | done
          | (refine (congrArg (rows encA) (fill_step xs (⟨0, 0, 0, 0⟩ : Action) (⟨0, 0, 0, 0⟩ : Action) i h)).symm.trans ?_; rw [← rows_set, getD_at _ _ _ h]; rfl)
      · simp (config := { maxSteps := 4000000 }) only [go_sem, simprocAttr, ↓dnA, Tryz.f50, wsucc h hx62, frW, wk2, wk1, wkL, wkB, hpW, List.mem_cons, Prod.mk.injEq, exists_eq_left, exists_eq_right, exists_eq]
    · have : i = xs.length := by omega
      subst this
      simp (config := { maxSteps := 4000000 }) only [go_sem, simprocAttr, ↓dnA, Tryz.f50, rows_length, nlf h]
      simp


theorem c_laws_toIntS (n1 : Option Bool) (xs : List Int) (hx : xs.length < 2 ^ 32) :
    Det Tryz.prog 19 [.sl n1 (rows encI xs)] (.osl true 1 (rows encI xs)) := by
  refine fspec_det tab_ok Tryz.call19 Tryz.func19 rfl 22 Tryz.ntmps19 (of_decide_eq_true rfl) fun B => codeK_sound tab_ok _ _ _ ?_
  have hx62 : xs.length < 2 ^ 62 := by omega
  simp (config := { maxSteps := 4000000 }) only [go_sem, simprocAttr, ↓dnA, Tryz.f19, rows_length]
  repeat refine And.intro (by first | omega | (simp; done) | (simp; omega) | assumption) ?_
  refine semL_for tab_ok (fun i : Nat => ⟨22, [(0, .sl n1 (rows encI xs)), (3, .row 7 xs.length), (4, .int .i64 i)], [(7, .row true true 1 (rows encI (xs.take i ++ List.replicate (xs.length - i) 0)))]⟩) (fun i => xs.length - i)
    (fun i => i ≤ xs.length) 0 [(7, 7)] (Weak.of (by rfl) ?_ ?_ (by rfl)) (by omega) ?_
  · simp (config := { maxSteps := 4000000 }) only [go_sem, simprocAttr, ↓dnA, Tryz.f19, frW, wk2, wk1, wkL, wkB, hpW, List.mem_cons, Prod.mk.injEq, exists_eq_left, exists_eq_right, exists_eq]
    simp [rows, encI]
  · simp (config := { maxSteps := 4000000 }) only [go_sem, simprocAttr, ↓dnA, Tryz.f19, frW, wk2, wk1, wkL, wkB, hpW, List.mem_cons, Prod.mk.injEq, exists_eq_left, exists_eq_right, exists_eq]
  · rintro i hi
    by_cases h : i < xs.length
    · have hm : i < (xs.take i ++ List.replicate (xs.length - i) 0).length := by simp; omega
      simp (config := { maxSteps := 4000000 }) only [go_sem, simprocAttr, ↓dnA, Tryz.f19, rows_length, rows_get _ _ _ h, rows_get _ _ _ hm, hm, encI, nlt h, nn0, wsucc h hx62]
      repeat refine And.intro (by first | omega | (simp; done) | (simp; omega) | assumption) ?_
      refine ⟨i + 1, [(7, 7)], by omega, by dsimp only; omega, Weak.of (by rfl) ?_ ?_ (by rfl)⟩
      · simp (config := { maxSteps := 4000000 }) only [go_sem, simprocAttr, ↓dnA, Tryz.f19, frW, wk2, wk1, wkL, wkB, hpW, List.mem_cons, Prod.mk.injEq, exists_eq_left, exists_eq_right, exists_eq]
        first
          | done
          | (refine (congrArg (rows encI) (fill_step xs 0 0 i h)).symm.trans ?_; rw [← rows_set, getD_at _ _ _ h]; rfl)
      · simp (config := { maxSteps := 4000000 }) only [go_sem, simprocAttr, ↓dnA, Tryz.f19, wsucc h hx62, frW, wk2, wk1, wkL, wkB, hpW, List.mem_cons, Prod.mk.injEq, exists_eq_left, exists_eq_right, exists_eq]
    · have : i = xs.length := by omega
      subst this
      simp (config := { maxSteps := 4000000 }) only [go_sem, simprocAttr, ↓dnA, Tryz.f19, rows_length, nlf h]
      simp

/-- How much the actions of blocks are. -/
def lsum : List Block → Nat
  | [] => 0
  | b :: r => b.list.length + lsum r

theorem lsum_mem : ∀ (bs : List Block) (b : Block), b ∈ bs → b.list.length ≤ lsum bs
  | [], b, h => by cases h
  | c :: r, b, h => by
    unfold lsum
    rcases List.mem_cons.1 h with rfl | h
    · omega
    · have := lsum_mem r b h; omega

/-- How much a tree is. -/
def tsz (t : Tree) : Nat := t.base.length + (t.blocks.length + lsum t.blocks) + t.before.length

/-- Sizes of a law's tree. -/
structure TreeS32 (t : Tree) : Prop where
  sum : tsz t ≤ 1048576
theorem TreeS32.base {t : Tree} (h : TreeS32 t) : t.base.length < 2 ^ 32 := by have := h.sum; unfold tsz at this; omega
theorem TreeS32.blocks {t : Tree} (h : TreeS32 t) : t.blocks.length < 2 ^ 32 := by have := h.sum; unfold tsz at this; omega
theorem TreeS32.before {t : Tree} (h : TreeS32 t) : t.before.length < 2 ^ 32 := by have := h.sum; unfold tsz at this; omega
theorem TreeS32.list {t : Tree} (h : TreeS32 t) : ∀ b, b ∈ t.blocks → b.list.length < 2 ^ 32 := fun b hb => by have := h.sum; have := lsum_mem t.blocks b hb; unfold tsz at *; omega
theorem TreeS32.sz {t : Tree} (h : TreeS32 t) : TreeSz t := ⟨by have := h.base; omega, by have := h.blocks; omega, by have := h.before; omega, fun b hb => by have := h.list b hb; omega⟩

end Go.Proofs.YteebkimhfaodnaaGreat

/- Contracts: the laws' sizes and tests. -/
set_option linter.unusedSimpArgs false
set_option linter.unusedVariables false
set_option maxRecDepth 20000
set_option maxHeartbeats 4000000
namespace Go.Proofs.YteebkimhfaodnaaGreat
open Go Go.RowKit

/-- What is left of a size. -/
def szI (left : Int) (n : Nat) : Int := if left - n < 0 then -1 else left - n

theorem szI_bd {left : Int} {n : Nat} (h : left ≤ 1048576) : szI left n ≤ 1048576 ∧ (0 ≤ szI left n → n ≤ 1048576) := by
  unfold szI; split <;> omega

theorem c_laws_szEntryS (n1 : Option Bool) (xs : List Entry) (left : Int) (hx : xs.length ≤ 9223372036854775807) (hl : 0 ≤ left ∧ left ≤ 1048576) : Det Tryz.prog 43 [.sl n1 (rows encE xs), .int .i64 left] (.int .i64 (szI left xs.length)) := by
  refine fspec_det tab_ok Tryz.call43 Tryz.func43 rfl 12 Tryz.ntmps43 (of_decide_eq_true rfl) fun B => codeK_sound tab_ok _ _ _ ?_
  have hw : IntKind.i64.wrap (left - (xs.length : Int)) = left - xs.length := wrap_small _ (by omega) (by omega)
  cases h : decide (left - (xs.length : Int) < 0) with
  | true => simp (config := { maxSteps := 4000000 }) only [go_sem, simprocAttr, ↓dnA, Tryz.f43, rows_length, hw, h, szI, of_decide_eq_true h]
  | false => simp (config := { maxSteps := 4000000 }) only [go_sem, simprocAttr, ↓dnA, Tryz.f43, rows_length, hw, h, szI, of_decide_eq_false h]

theorem c_laws_szActionS (n1 : Option Bool) (xs : List Action) (left : Int) (hx : xs.length ≤ 9223372036854775807) (hl : 0 ≤ left ∧ left ≤ 1048576) : Det Tryz.prog 44 [.sl n1 (rows encA xs), .int .i64 left] (.int .i64 (szI left xs.length)) := by
  refine fspec_det tab_ok Tryz.call44 Tryz.func44 rfl 12 Tryz.ntmps44 (of_decide_eq_true rfl) fun B => codeK_sound tab_ok _ _ _ ?_
  have hw : IntKind.i64.wrap (left - (xs.length : Int)) = left - xs.length := wrap_small _ (by omega) (by omega)
  cases h : decide (left - (xs.length : Int) < 0) with
  | true => simp (config := { maxSteps := 4000000 }) only [go_sem, simprocAttr, ↓dnA, Tryz.f44, rows_length, hw, h, szI, of_decide_eq_true h]
  | false => simp (config := { maxSteps := 4000000 }) only [go_sem, simprocAttr, ↓dnA, Tryz.f44, rows_length, hw, h, szI, of_decide_eq_false h]

theorem c_laws_szIntS (n1 : Option Bool) (xs : List Int) (left : Int) (hx : xs.length ≤ 9223372036854775807) (hl : 0 ≤ left ∧ left ≤ 1048576) : Det Tryz.prog 136 [.sl n1 (rows encI xs), .int .i64 left] (.int .i64 (szI left xs.length)) := by
  refine fspec_det tab_ok Tryz.call136 Tryz.func136 rfl 12 Tryz.ntmps136 (of_decide_eq_true rfl) fun B => codeK_sound tab_ok _ _ _ ?_
  have hw : IntKind.i64.wrap (left - (xs.length : Int)) = left - xs.length := wrap_small _ (by omega) (by omega)
  cases h : decide (left - (xs.length : Int) < 0) with
  | true => simp (config := { maxSteps := 4000000 }) only [go_sem, simprocAttr, ↓dnA, Tryz.f136, rows_length, hw, h, szI, of_decide_eq_true h]
  | false => simp (config := { maxSteps := 4000000 }) only [go_sem, simprocAttr, ↓dnA, Tryz.f136, rows_length, hw, h, szI, of_decide_eq_false h]

end Go.Proofs.YteebkimhfaodnaaGreat

/- Contracts: the laws' tests. -/
set_option linter.unusedSimpArgs false
set_option linter.unusedVariables false
set_option maxRecDepth 20000
set_option maxHeartbeats 4000000
namespace Go.Proofs.YteebkimhfaodnaaGreat
open Go Go.RowKit

theorem entB (a b : Entry) : ((a.key == b.key) && (a.value == b.value)) = decide (a = b) := by
  obtain ⟨a1, a2⟩ := a
  obtain ⟨b1, b2⟩ := b
  rw [Bool.eq_iff_iff]
  simp only [Bool.and_eq_true, beq_iff_eq, decide_eq_true_eq, Entry.mk.injEq]

theorem actB (a b : Action) : ((a.kind == b.kind) && ((a.fr == b.fr) && ((a.to == b.to) && (a.amount == b.amount)))) = decide (a = b) := by
  obtain ⟨a1, a2, a3, a4⟩ := a
  obtain ⟨b1, b2, b3, b4⟩ := b
  rw [Bool.eq_iff_iff]
  simp only [Bool.and_eq_true, beq_iff_eq, decide_eq_true_eq, Action.mk.injEq]

theorem c_laws_eqEntry (a b : Entry) : Det Tryz.prog 87 [.agg (encE a), .agg (encE b)] (.bool (decide (a = b))) := by
  refine fspec_det tab_ok Tryz.call87 Tryz.func87 rfl 15 Tryz.ntmps87 (of_decide_eq_true rfl) fun B => codeK_sound tab_ok _ _ _ ?_
  unfold encE
  rw [← entB]
  cases h1 : (a.key == b.key) with
  | false => simp (config := { maxSteps := 4000000 }) only [go_sem, simprocAttr, ↓dnA, Tryz.f87, bne, h1]
  | true =>
    cases h2 : (a.value == b.value) with
    | false => simp (config := { maxSteps := 4000000 }) only [go_sem, simprocAttr, ↓dnA, Tryz.f87, bne, h1, h2]
    | true => simp (config := { maxSteps := 4000000 }) only [go_sem, simprocAttr, ↓dnA, Tryz.f87, bne, h1, h2]

theorem c_laws_eqAction (a b : Action) : Det Tryz.prog 107 [.agg (encA a), .agg (encA b)] (.bool (decide (a = b))) := by
  refine fspec_det tab_ok Tryz.call107 Tryz.func107 rfl 25 Tryz.ntmps107 (of_decide_eq_true rfl) fun B => codeK_sound tab_ok _ _ _ ?_
  unfold encA
  rw [← actB]
  cases h1 : (a.kind == b.kind) with
  | false => simp (config := { maxSteps := 4000000 }) only [go_sem, simprocAttr, ↓dnA, Tryz.f107, bne, h1]
  | true =>
    cases h2 : (a.fr == b.fr) with
    | false => simp (config := { maxSteps := 4000000 }) only [go_sem, simprocAttr, ↓dnA, Tryz.f107, bne, h1, h2]
    | true =>
      cases h3 : (a.to == b.to) with
      | false => simp (config := { maxSteps := 4000000 }) only [go_sem, simprocAttr, ↓dnA, Tryz.f107, bne, h1, h2, h3]
      | true =>
        cases h4 : (a.amount == b.amount) with
        | false => simp (config := { maxSteps := 4000000 }) only [go_sem, simprocAttr, ↓dnA, Tryz.f107, bne, h1, h2, h3, h4]
        | true => simp (config := { maxSteps := 4000000 }) only [go_sem, simprocAttr, ↓dnA, Tryz.f107, bne, h1, h2, h3, h4]

theorem c_laws_eqEntryS (n1 n2 : Option Bool) (xs ys : List Entry) (hx : xs.length < 2 ^ 62) (hy : ys.length < 2 ^ 62)  :
    Det Tryz.prog 37 [.sl n1 (rows encE xs), .sl n2 (rows encE ys)] (.bool (decide (xs = ys))) := by
  refine fspec_det tab_ok Tryz.call37 Tryz.func37 rfl 27 Tryz.ntmps37 (of_decide_eq_true rfl) fun B => codeK_sound tab_ok _ _ _ ?_
  by_cases hl : xs.length = ys.length
  · have hd : (((xs.length : Int) != (ys.length : Int))) = false := by simp [hl]
    simp (config := { maxSteps := 4000000 }) only [go_sem, simprocAttr, ↓dnA, Tryz.f37, rows_length, hd]
    refine semL_for tab_ok (fun i : Nat => ⟨27, [(0, .sl n1 (rows encE xs)), (1, .sl n2 (rows encE ys)), (5, .int .i64 i)], []⟩) (fun i => xs.length - i)
      (fun i => i ≤ xs.length ∧ decide (xs.drop i = ys.drop i) = decide (xs = ys)) 0 [] (Weak.of (by rfl) trivial ?_ (by rfl)) ⟨by omega, rfl⟩ ?_
    · simp (config := { maxSteps := 4000000 }) only [go_sem, simprocAttr, ↓dnA, Tryz.f37, rows_length, frW, wk2, wk1, wkL, wkB, hpW, List.mem_cons, Prod.mk.injEq, exists_eq_left, exists_eq_right, exists_eq]
    · rintro i ⟨hi, hp⟩
      by_cases h : i < xs.length
      · have h2 : i < ys.length := by omega
        rw [eq_drop xs ys i hl h] at hp
        simp (config := { maxSteps := 4000000 }) only [go_sem, simprocAttr, ↓dnA, Tryz.f37, rows_length, nlt h]
        refine semL_draw tab_ok mixed_ rfl (ord := [(0, []), (1, []), (2, []), (3, []), (4, []), (5, []), (6, []), (7, []), (8, []), (9, [])]) (by dsimp only; decide +kernel) ?_
        simp (config := { maxSteps := 4000000 }) only [go_sem, simprocAttr, ↓dnA, Tryz.f37, rows_length, rows_get _ _ _ h, rows_get _ _ _ h2, encE, encBk, nn0, nlt h, nlt h2]
        refine CallTo.det (c_laws_eqEntry xs[i] ys[i]) fun _ => ?_
        cases he : decide (xs[i] = ys[i]) with
        | false =>
          have he' : decide (xs[i] = ys[i]) = false := he
          rw [he', Bool.false_and] at hp
          simp (config := { maxSteps := 4000000 }) only [go_sem, simprocAttr, ↓dnA, Tryz.f37, rows_length, rows_get _ _ _ h, rows_get _ _ _ h2, encE, encBk, nn0, nlt h, nlt h2, he, ← hp]
        | true =>
          have he' : decide (xs[i] = ys[i]) = true := he
          rw [he', Bool.true_and] at hp
          simp (config := { maxSteps := 4000000 }) only [go_sem, simprocAttr, ↓dnA, Tryz.f37, rows_length, rows_get _ _ _ h, rows_get _ _ _ h2, encE, encBk, nn0, nlt h, nlt h2, he]
          refine ⟨i + 1, [], ⟨by omega, hp⟩, by dsimp only; omega, Weak.of (by rfl) trivial ?_ (by rfl)⟩
          simp (config := { maxSteps := 4000000 }) only [go_sem, simprocAttr, ↓dnA, Tryz.f37, wsucc h hx, frW, wk2, wk1, wkL, wkB, hpW, List.mem_cons, Prod.mk.injEq, exists_eq_left, exists_eq_right, exists_eq]
      · have : i = xs.length := by omega
        subst this
        rw [List.drop_length, List.drop_of_length_le (by omega)] at hp
        simp (config := { maxSteps := 4000000 }) only [go_sem, simprocAttr, ↓dnA, Tryz.f37, rows_length, nlf h, ← hp]
  · have hd : (((xs.length : Int) != (ys.length : Int))) = true := by simp; omega
    have hne : xs ≠ ys := fun e => hl (by rw [e])
    simp (config := { maxSteps := 4000000 }) only [go_sem, simprocAttr, ↓dnA, Tryz.f37, rows_length, hd, decide_eq_false hne]


theorem c_laws_eqActionS (n1 n2 : Option Bool) (xs ys : List Action) (hx : xs.length < 2 ^ 62) (hy : ys.length < 2 ^ 62)  :
    Det Tryz.prog 55 [.sl n1 (rows encA xs), .sl n2 (rows encA ys)] (.bool (decide (xs = ys))) := by
  refine fspec_det tab_ok Tryz.call55 Tryz.func55 rfl 27 Tryz.ntmps55 (of_decide_eq_true rfl) fun B => codeK_sound tab_ok _ _ _ ?_
  by_cases hl : xs.length = ys.length
  · have hd : (((xs.length : Int) != (ys.length : Int))) = false := by simp [hl]
    simp (config := { maxSteps := 4000000 }) only [go_sem, simprocAttr, ↓dnA, Tryz.f55, rows_length, hd]
    refine semL_for tab_ok (fun i : Nat => ⟨27, [(0, .sl n1 (rows encA xs)), (1, .sl n2 (rows encA ys)), (5, .int .i64 i)], []⟩) (fun i => xs.length - i)
      (fun i => i ≤ xs.length ∧ decide (xs.drop i = ys.drop i) = decide (xs = ys)) 0 [] (Weak.of (by rfl) trivial ?_ (by rfl)) ⟨by omega, rfl⟩ ?_
    · simp (config := { maxSteps := 4000000 }) only [go_sem, simprocAttr, ↓dnA, Tryz.f55, rows_length, frW, wk2, wk1, wkL, wkB, hpW, List.mem_cons, Prod.mk.injEq, exists_eq_left, exists_eq_right, exists_eq]
    · rintro i ⟨hi, hp⟩
      by_cases h : i < xs.length
      · have h2 : i < ys.length := by omega
        rw [eq_drop xs ys i hl h] at hp
        simp (config := { maxSteps := 4000000 }) only [go_sem, simprocAttr, ↓dnA, Tryz.f55, rows_length, nlt h]
        refine semL_draw tab_ok mixed_ rfl (ord := [(0, []), (1, []), (2, []), (3, []), (4, []), (5, []), (6, []), (7, []), (8, []), (9, [])]) (by dsimp only; decide +kernel) ?_
        simp (config := { maxSteps := 4000000 }) only [go_sem, simprocAttr, ↓dnA, Tryz.f55, rows_length, rows_get _ _ _ h, rows_get _ _ _ h2, encA, encBk, nn0, nlt h, nlt h2]
        refine CallTo.det (c_laws_eqAction xs[i] ys[i]) fun _ => ?_
        cases he : decide (xs[i] = ys[i]) with
        | false =>
          have he' : decide (xs[i] = ys[i]) = false := he
          rw [he', Bool.false_and] at hp
          simp (config := { maxSteps := 4000000 }) only [go_sem, simprocAttr, ↓dnA, Tryz.f55, rows_length, rows_get _ _ _ h, rows_get _ _ _ h2, encA, encBk, nn0, nlt h, nlt h2, he, ← hp]
        | true =>
          have he' : decide (xs[i] = ys[i]) = true := he
          rw [he', Bool.true_and] at hp
          simp (config := { maxSteps := 4000000 }) only [go_sem, simprocAttr, ↓dnA, Tryz.f55, rows_length, rows_get _ _ _ h, rows_get _ _ _ h2, encA, encBk, nn0, nlt h, nlt h2, he]
          refine ⟨i + 1, [], ⟨by omega, hp⟩, by dsimp only; omega, Weak.of (by rfl) trivial ?_ (by rfl)⟩
          simp (config := { maxSteps := 4000000 }) only [go_sem, simprocAttr, ↓dnA, Tryz.f55, wsucc h hx, frW, wk2, wk1, wkL, wkB, hpW, List.mem_cons, Prod.mk.injEq, exists_eq_left, exists_eq_right, exists_eq]
      · have : i = xs.length := by omega
        subst this
        rw [List.drop_length, List.drop_of_length_le (by omega)] at hp
        simp (config := { maxSteps := 4000000 }) only [go_sem, simprocAttr, ↓dnA, Tryz.f55, rows_length, nlf h, ← hp]
  · have hd : (((xs.length : Int) != (ys.length : Int))) = true := by simp; omega
    have hne : xs ≠ ys := fun e => hl (by rw [e])
    simp (config := { maxSteps := 4000000 }) only [go_sem, simprocAttr, ↓dnA, Tryz.f55, rows_length, hd, decide_eq_false hne]


theorem c_laws_eqIntS (n1 n2 : Option Bool) (xs ys : List Int) (hx : xs.length < 2 ^ 62) (hy : ys.length < 2 ^ 62) :
    Det Tryz.prog 21 [.sl n1 (rows encI xs), .sl n2 (rows encI ys)] (.bool (decide (xs = ys))) := by
  refine fspec_det tab_ok Tryz.call21 Tryz.func21 rfl 26 Tryz.ntmps21 (of_decide_eq_true rfl) fun B => codeK_sound tab_ok _ _ _ ?_
  by_cases hl : xs.length = ys.length
  · have hd : (((xs.length : Int) != (ys.length : Int))) = false := by simp [hl]
    simp (config := { maxSteps := 4000000 }) only [go_sem, simprocAttr, ↓dnA, Tryz.f21, rows_length, hd]
    refine semL_for tab_ok (fun i : Nat => ⟨26, [(0, .sl n1 (rows encI xs)), (1, .sl n2 (rows encI ys)), (5, .int .i64 i)], []⟩) (fun i => xs.length - i)
      (fun i => i ≤ xs.length ∧ decide (xs.drop i = ys.drop i) = decide (xs = ys)) 0 [] (Weak.of (by rfl) trivial ?_ (by rfl)) ⟨by omega, rfl⟩ ?_
    · simp (config := { maxSteps := 4000000 }) only [go_sem, simprocAttr, ↓dnA, Tryz.f21, rows_length, frW, wk2, wk1, wkL, wkB, hpW, List.mem_cons, Prod.mk.injEq, exists_eq_left, exists_eq_right, exists_eq]
    · rintro i ⟨hi, hp⟩
      by_cases h : i < xs.length
      · have h2 : i < ys.length := by omega
        rw [eq_drop xs ys i hl h] at hp
        simp (config := { maxSteps := 4000000 }) only [go_sem, simprocAttr, ↓dnA, Tryz.f21, rows_length, nlt h]
        refine semL_still tab_ok mixed_ (by decide +kernel) ?_
        cases he : (xs[i] == ys[i]) with
        | false =>
          have he' : decide (xs[i] = ys[i]) = false := by simpa using he
          rw [he', Bool.false_and] at hp
          simp (config := { maxSteps := 4000000 }) only [go_sem, simprocAttr, ↓dnA, Tryz.f21, rows_length, rows_get _ _ _ h, rows_get _ _ _ h2, encI, nn0, nlt h, nlt h2, bne, he, ← hp]
        | true =>
          have he' : decide (xs[i] = ys[i]) = true := by simpa using he
          rw [he', Bool.true_and] at hp
          simp (config := { maxSteps := 4000000 }) only [go_sem, simprocAttr, ↓dnA, Tryz.f21, rows_length, rows_get _ _ _ h, rows_get _ _ _ h2, encI, nn0, nlt h, nlt h2, bne, he]
          refine ⟨i + 1, [], ⟨by omega, hp⟩, by dsimp only; omega, Weak.of (by rfl) trivial ?_ (by rfl)⟩
          simp (config := { maxSteps := 4000000 }) only [go_sem, simprocAttr, ↓dnA, Tryz.f21, wsucc h hx, frW, wk2, wk1, wkL, wkB, hpW, List.mem_cons, Prod.mk.injEq, exists_eq_left, exists_eq_right, exists_eq]
      · have : i = xs.length := by omega
        subst this
        rw [List.drop_length, List.drop_of_length_le (by omega)] at hp
        simp (config := { maxSteps := 4000000 }) only [go_sem, simprocAttr, ↓dnA, Tryz.f21, rows_length, nlf h, ← hp]
  · have hd : (((xs.length : Int) != (ys.length : Int))) = true := by simp; omega
    have hne : xs ≠ ys := fun e => hl (by rw [e])
    simp (config := { maxSteps := 4000000 }) only [go_sem, simprocAttr, ↓dnA, Tryz.f21, rows_length, hd, decide_eq_false hne]

end Go.Proofs.YteebkimhfaodnaaGreat

/- Arguments of the laws, by their types. -/
set_option linter.unusedSimpArgs false
namespace Go.Proofs.YteebkimhfaodnaaGreat
open Go Go.ChangeShapes Go.WideShapes Go.ChangeAt Go.RowKit

theorem own_ : ownKnob Tryz.prog.godebug = none := by kernel_rfl
theorem laidOut_ : laidOutB Tryz.prog = true := by kernel_rfl

theorem ty_int {cs : List AV} (h : Ty tab 3 cs) : ∃ n, cs = [.int .i64 n] ∧ IntKind.i64.has n := h.int_inv tabAt_3 rfl
theorem ty_bool {cs : List AV} (h : Ty tab 4 cs) : ∃ b, cs = [.bool b] := h.bool_inv tabAt_4 rfl
theorem ty_intA {a : AV} (h : TyArg tab 3 a) : ∃ n, a = .int .i64 n := by
  obtain ⟨n, e, _⟩ := ty_int (h.one_inv tabAt_3 rfl)
  exact ⟨n, by simpa using e⟩

/-- The cells of one value read as the cells of a datum. -/
def Leqs (r c : List AV) : Prop := r.length = c.length ∧ ∀ (j : Nat) (_ : j < c.length), Leq (r.getD j .top) (c.getD j .top)
theorem Leqs.refl (c : List AV) : Leqs c c := ⟨rfl, fun _ _ => Leq.refl _⟩
theorem Leqs.agg {r c : List AV} (h : Leqs r c) : Leq (.agg r) (.agg c) := Leq.agg h.1 h.2

/-- A slice of elements that read as data. -/
theorem ty_rows {α : Type} (e : α → List AV) (Q : α → Prop) {et : TypeId} {es : List (List AV)} (h : ∀ (j : Nat) (_ : j < es.length), Ty tab et (es.getD j [])) (hx : ∀ r, Ty tab et r → ∃ x, Q x ∧ Leqs r (e x)) :
    ∃ xs : List α, es.length = xs.length ∧ (∀ x, x ∈ xs → Q x) ∧ ∀ nn, Leq (.sl nn es) (.sl nn (rows e xs)) := by
  have key : ∃ xs : List α, es.length = xs.length ∧ (∀ x, x ∈ xs → Q x) ∧ ∀ (i : Nat) (hi : i < xs.length), Leqs (es.getD i []) (e (xs[i]'hi)) := by
    induction es with
    | nil => exact ⟨[], rfl, fun x hx => (by cases hx), fun i hi => absurd hi (by simp)⟩
    | cons r rs ih =>
      obtain ⟨x, hq, hx1⟩ := hx r (h 0 (by simp))
      obtain ⟨xs, h1, h2, h3⟩ := ih (fun j hj => h (j + 1) (by simpa using hj))
      refine ⟨x :: xs, by simp [h1], fun y hy => ?_, fun i hi => ?_⟩
      · rcases List.mem_cons.1 hy with rfl | hy
        · exact hq
        · exact h2 y hy
      · cases i with
        | zero => exact hx1
        | succ i => exact h3 i (by simpa using hi)
  obtain ⟨xs, h1, h2, h3⟩ := key
  refine ⟨xs, h1, h2, fun nn => Leq.sl (by rw [rows_length, h1]) (fun i hi => ?_) (fun i j hi hj => ?_)⟩
  · rw [rows_length] at hi
    rw [rows_get _ _ _ hi]
    exact (h3 i hi).1
  · rw [rows_length] at hi
    rw [rows_get _ _ _ hi] at hj ⊢
    exact (h3 i hi).2 j hj

/-- A slice, as one cell. -/
theorem ty_slice {α : Type} (e : α → List AV) (Q : α → Prop) {t et : TypeId} {ti : TI} {cs : List AV} (h : Ty tab t cs) (ht : tab t = some ti) (hk : ti.k = .slice et) (hx : ∀ r, Ty tab et r → ∃ x, Q x ∧ Leqs r (e x)) :
    ∃ (n : Option Bool) (xs : List α), xs.length ≤ 9223372036854775807 ∧ (∀ x, x ∈ xs → Q x) ∧ Leqs cs [.sl n (rows e xs)] ∧ Leqs cs [.sl none (rows e xs)] := by
  obtain ⟨nn, es, rfl, _, hl, he⟩ := h.slice_inv ht hk
  obtain ⟨xs, h1, h2, h3⟩ := ty_rows e Q he hx
  refine ⟨some nn, xs, by omega, h2, ⟨rfl, fun j hj => ?_⟩, ⟨rfl, fun j hj => ?_⟩⟩
  · have : j = 0 := by simpa using hj
    subst this; exact h3 _
  · have : j = 0 := by simpa using hj
    subst this; exact (h3 (some nn)).trans Leq.slN

theorem ty_entry {cs : List AV} (h : Ty tab 122 cs) : ∃ e : Entry, cs = encE e := by
  obtain ⟨ps, rfl, hl, hp⟩ := h.struct_inv tabAt_122 rfl
  match ps, hl with
  | [p, q], _ =>
    obtain ⟨x, hx, _⟩ := ty_int (hp 0 (by decide))
    obtain ⟨y, hy, _⟩ := ty_int (hp 1 (by decide))
    have hx : p = _ := hx
    have hy : q = _ := hy
    subst hx; subst hy
    exact ⟨⟨x, y⟩, rfl⟩

theorem ty_action {cs : List AV} (h : Ty tab 124 cs) : ∃ e : Action, cs = encA e := by
  obtain ⟨ps, rfl, hl, hp⟩ := h.struct_inv tabAt_124 rfl
  match ps, hl with
  | [p, q, r, s], _ =>
    obtain ⟨x, hx, _⟩ := ty_int (hp 0 (by decide))
    obtain ⟨y, hy, _⟩ := ty_int (hp 1 (by decide))
    obtain ⟨z, hz, _⟩ := ty_int (hp 2 (by decide))
    obtain ⟨w, hw, _⟩ := ty_int (hp 3 (by decide))
    have hx : p = _ := hx
    have hy : q = _ := hy
    have hz : r = _ := hz
    have hw : s = _ := hw
    subst hx; subst hy; subst hz; subst hw
    exact ⟨⟨x, y, z, w⟩, rfl⟩

theorem Leqs.cons {a b : AV} {r c : List AV} (h : Leq a b) (h' : Leqs r c) : Leqs (a :: r) (b :: c) := by
  refine ⟨by simp [h'.1], fun j hj => ?_⟩
  cases j with
  | zero => exact h
  | succ j => exact h'.2 j (by simpa using hj)

theorem Leqs.one {r : List AV} {b : AV} (h : Leqs r [b]) : ∃ a, r = [a] ∧ Leq a b := by
  obtain ⟨h1, h2⟩ := h
  match r, h1 with
  | [a], _ => exact ⟨a, rfl, h2 0 (by simp)⟩

end Go.Proofs.YteebkimhfaodnaaGreat

/- Contracts: the laws' marks. -/
set_option linter.unusedSimpArgs false
set_option linter.unusedVariables false
set_option maxRecDepth 20000
set_option maxHeartbeats 4000000
namespace Go.Proofs.YteebkimhfaodnaaGreat
open Go Go.RowKit

section
variable {α : Type} (e : α → List AV) (mk : α → Int → α) (st : α → Nat)

def stepS : List α → Nat
  | [] => 0
  | x :: r => st x + stepS r

/-- Elements that are marked one after the other, from k on. -/
def markS : List α → Int → List α
  | [], _ => []
  | x :: r, k => mk x k :: markS r (k + st x)

theorem markS_length : ∀ (xs : List α) (k : Int), (markS mk st xs k).length = xs.length
  | [], _ => rfl
  | x :: r, k => by simp [markS, markS_length r]

theorem stepS_take_succ : ∀ (xs : List α) (i : Nat) (h : i < xs.length), stepS st (xs.take (i + 1)) = stepS st (xs.take i) + st xs[i]
  | x :: r, 0, _ => by simp [stepS]
  | x :: r, i + 1, h => by
    have := stepS_take_succ r i (by simpa using h)
    simp only [List.take_succ_cons, stepS, List.getElem_cons_succ] at this ⊢
    omega

theorem stepS_le : ∀ (xs : List α) (i : Nat), stepS st (xs.take i) ≤ stepS st xs
  | [], _ => by simp [stepS]
  | x :: r, 0 => by simp [stepS]
  | x :: r, i + 1 => by
    have := stepS_le r i
    simp only [List.take_succ_cons, stepS]; omega

theorem stepS_lt (xs : List α) (i : Nat) (h : i < xs.length) : stepS st (xs.take i) + st xs[i] ≤ stepS st xs := by
  rw [← stepS_take_succ st xs i h]; exact stepS_le st xs (i + 1)

theorem markS_append : ∀ (xs ys : List α) (k : Int), markS mk st (xs ++ ys) k = markS mk st xs k ++ markS mk st ys (k + stepS st xs)
  | [], ys, k => by simp [markS, stepS]
  | x :: r, ys, k => by
    simp only [List.cons_append, markS, stepS, markS_append r ys]
    rw [show k + (st x : Int) + (stepS st r : Int) = k + ((st x + stepS st r : Nat) : Int) by omega]

theorem markS_take_succ (xs : List α) (i : Nat) (h : i < xs.length) (k : Int) : markS mk st (xs.take (i + 1)) k = markS mk st (xs.take i) k ++ [mk xs[i] (k + stepS st (xs.take i))] := by
  rw [take_snoc xs i h, markS_append]; rfl

theorem markS_get : ∀ (xs : List α) (i : Nat) (h : i < xs.length) (k : Int), (markS mk st xs k)[i]'(by rw [markS_length]; exact h) = mk xs[i] (k + stepS st (xs.take i))
  | x :: r, 0, _, k => by simp [markS, stepS]
  | x :: r, i + 1, h, k => by
    have := markS_get r i (by simpa using h) (k + st x)
    simp only [markS, List.getElem_cons_succ, List.take_succ_cons, stepS, this]
    rw [show k + (st x : Int) + (stepS st (r.take i) : Int) = k + ((st x + stepS st (r.take i) : Nat) : Int) by omega]

theorem markS_rget (xs : List α) (i : Nat) (k : Int) (h : i < xs.length) : (rows e (markS mk st xs k)).getD i [] = e (mk xs[i] (k + stepS st (xs.take i))) := by
  rw [rows_get _ _ _ (by rw [markS_length]; exact h), markS_get]

/-- The first i elements are marked. -/
def midS (xs : List α) (k : Int) (i : Nat) : List α := markS mk st (xs.take i) k ++ xs.drop i

theorem midS_zero (xs : List α) (k : Int) : midS mk st xs k 0 = xs := by simp [midS, markS]
theorem midS_len (xs : List α) (k : Int) : midS mk st xs k xs.length = markS mk st xs k := by simp [midS]
theorem midS_length (xs : List α) (k : Int) (i : Nat) (hi : i ≤ xs.length) : (midS mk st xs k i).length = xs.length := by
  simp [midS, markS_length]; omega
theorem midS_get (xs : List α) (k : Int) (i : Nat) (h : i < xs.length) : (rows e (midS mk st xs k i)).getD i [] = e xs[i] := by
  have hl : (markS mk st (xs.take i) k).length = i := by rw [markS_length, List.length_take]; omega
  have hl' : i < (midS mk st xs k i).length := by rw [midS_length _ _ _ _ _ (by omega)]; exact h
  rw [rows_get _ _ _ hl']
  congr 1
  have : (midS mk st xs k i)[i]? = some xs[i] := by
    unfold midS
    rw [List.getElem?_append_right (by omega), hl, Nat.sub_self]
    simp [h]
  exact Option.some.inj ((List.getElem?_eq_getElem hl').symm.trans this)
theorem midS_set (xs : List α) (k : Int) (i : Nat) (h : i < xs.length) : (rows e (midS mk st xs k i)).set i (e (mk xs[i] (k + stepS st (xs.take i)))) = rows e (midS mk st xs k (i + 1)) := by
  rw [rows_set]
  congr 1
  have hl : (markS mk st (xs.take i) k).length = i := by rw [markS_length, List.length_take]; omega
  unfold midS
  rw [List.set_append_right _ _ (by omega), hl, Nat.sub_self, drop_cons xs i h, List.set_cons_zero, markS_take_succ _ _ _ _ h, List.append_assoc]
  rfl
end

theorem set_same {α : Type} (l : List α) (i : Nat) (d : α) (h : i < l.length) (v : α) : (l.set i v).getD i d = v := by
  rw [set_getD _ _ _ _ _ h, if_pos rfl]

def mkE (_ : Entry) (k : Int) : Entry := ⟨k, k + 1⟩
def stE (_ : Entry) : Nat := 2
def mkA (_ : Action) (k : Int) : Action := ⟨k, k + 1, k + 1 + 1, k + 1 + 1 + 1⟩
def stA (_ : Action) : Nat := 4
def mkI (_ : Int) (k : Int) : Int := k
def stI (_ : Int) : Nat := 1

theorem c_laws_markEntryS (nn : Bool) (sz : Nat) (xs : List Entry) (k : Int) (hs : xs = [] ∨ sz = 2) (hx : xs.length < 2 ^ 62) (hk : 0 ≤ k ∧ k + stepS stE xs < 2 ^ 62) :
    FSpecM Tryz.prog 39 [.row 800 xs.length, .int .i64 k] [.osl nn sz (rows encE xs)] (fun r ls' => r = .int .i64 (k + stepS stE xs) ∧ ls' = [.osl nn sz (rows encE (markS mkE stE xs k))]) := by
  refine fspec_introM tab_ok Tryz.call39 Tryz.func39 rfl 27 Tryz.ntmps39 (of_decide_eq_true rfl) (of_decide_eq_true rfl) fun B => codeK_sound tab_ok _ _ _ ?_
  rcases hs with rfl | rfl
  · simp (config := { maxSteps := 4000000 }) only [go_sem, simprocAttr, ↓dnA, Tryz.f39]
    refine semL_for tab_ok (fun i : Nat => ⟨27, [(0, .row 800 0), (1, .int .i64 k), (5, .int .i64 0)], [(800, .row true nn sz (rows encE ([] : List Entry)))]⟩) (fun i => i) (fun _ => True) 0 [(800, 800)] (Weak.of (by rfl) ?_ ?_ (by rfl)) trivial ?_
    · simp (config := { maxSteps := 4000000 }) only [go_sem, simprocAttr, ↓dnA, Tryz.f39, frW, wk2, wk1, wkL, wkB, hpW, List.mem_cons, Prod.mk.injEq, exists_eq_left, exists_eq_right, exists_eq]
    · simp (config := { maxSteps := 4000000 }) only [go_sem, simprocAttr, ↓dnA, Tryz.f39, List.length_nil, nc0, frW, wk2, wk1, wkL, wkB, hpW, List.mem_cons, Prod.mk.injEq, exists_eq_left, exists_eq_right, exists_eq]
    · rintro i -
      simp (config := { maxSteps := 4000000 }) only [go_sem, simprocAttr, ↓dnA, Tryz.f39, List.length_nil, nc0, rows_length]
      simp [stepS, markS, rows]
  · simp (config := { maxSteps := 4000000 }) only [go_sem, simprocAttr, ↓dnA, Tryz.f39, rows_length]
    refine semL_for tab_ok (fun i : Nat => ⟨27, [(0, .row 800 xs.length), (1, .int .i64 (k + (stepS stE (xs.take i) : Int))), (5, .int .i64 i)], [(800, .row true nn 2 (rows encE (midS mkE stE xs k i)))]⟩) (fun i => xs.length - i)
      (fun i => i ≤ xs.length) 0 [(800, 800)] (Weak.of (by rfl) ?_ ?_ (by rfl)) (by omega) ?_
    · simp (config := { maxSteps := 4000000 }) only [go_sem, simprocAttr, ↓dnA, Tryz.f39, midS_zero, frW, wk2, wk1, wkL, wkB, hpW, List.mem_cons, Prod.mk.injEq, exists_eq_left, exists_eq_right, exists_eq]
    · simp (config := { maxSteps := 4000000 }) only [go_sem, simprocAttr, ↓dnA, Tryz.f39, List.take_zero, stepS, Int.add_zero, nc0, frW, wk2, wk1, wkL, wkB, hpW, List.mem_cons, Prod.mk.injEq, exists_eq_left, exists_eq_right, exists_eq]
    · rintro i hi
      by_cases h : i < xs.length
      · have hb := stepS_lt stE xs i h
        have hm : i < (rows encE (midS mkE stE xs k i)).length := by rw [rows_length, midS_length _ _ _ _ _ hi]; exact h
        have hst : stE xs[i] = 2 := rfl
        have hw1 : IntKind.i64.wrap ((k + (stepS stE (xs.take i) : Int)) + 1) = (k + (stepS stE (xs.take i) : Int)) + 1 := wrap_small _ (by omega) (by omega)
        have hw2 : IntKind.i64.wrap ((k + (stepS stE (xs.take i) : Int)) + 1 + 1) = (k + (stepS stE (xs.take i) : Int)) + 1 + 1 := wrap_small _ (by omega) (by omega)
        have hK : k + (stepS stE (xs.take (i + 1)) : Int) = (k + (stepS stE (xs.take i) : Int)) + 1 + 1 := by rw [stepS_take_succ _ _ _ h, hst]; omega
        simp (config := { maxSteps := 4000000 }) only [go_sem, simprocAttr, ↓dnA, Tryz.f39, rows_length, midS_length _ _ _ _ _ hi, List.length_set, nlt h, h, nn0, midS_get _ _ _ _ _ _ h, encE, set_same _ _ _ hm, List.set_set, spliceL, hw1, hw2, wsucc h hx]
        refine ⟨i + 1, [(800, 800)], by omega, by dsimp only; omega, Weak.of (by rfl) ?_ ?_ (by rfl)⟩
        · simp (config := { maxSteps := 4000000 }) only [go_sem, simprocAttr, ↓dnA, Tryz.f39, frW, wk2, wk1, wkL, wkB, hpW, List.mem_cons, Prod.mk.injEq, exists_eq_left, exists_eq_right, exists_eq]
          exact (midS_set encE mkE stE xs k i h).symm
        · simp (config := { maxSteps := 4000000 }) only [go_sem, simprocAttr, ↓dnA, Tryz.f39, hK, wsucc h hx, frW, wk2, wk1, wkL, wkB, hpW, List.mem_cons, Prod.mk.injEq, exists_eq_left, exists_eq_right, exists_eq]
      · have hi' : i = xs.length := by omega
        subst hi'
        simp (config := { maxSteps := 4000000 }) only [go_sem, simprocAttr, ↓dnA, Tryz.f39, nlf h, rows_length, midS_len, List.take_length, markS_length]

theorem c_laws_heldEntryS (n1 : Option Bool) (xs : List Entry) (k : Int) (hx : xs.length < 2 ^ 62) (hk : 0 ≤ k ∧ k + stepS stE xs < 2 ^ 62) :
    Det Tryz.prog 41 [.sl n1 (rows encE (markS mkE stE xs k)), .int .i64 k] (.int .i64 (k + stepS stE xs)) := by
  refine fspec_det tab_ok Tryz.call41 Tryz.func41 rfl 31 Tryz.ntmps41 (of_decide_eq_true rfl) fun B => codeK_sound tab_ok _ _ _ ?_
  simp (config := { maxSteps := 4000000 }) only [go_sem, simprocAttr, ↓dnA, Tryz.f41]
  refine semL_for tab_ok (fun i : Nat => ⟨31, [(0, .sl n1 (rows encE (markS mkE stE xs k))), (1, .int .i64 (k + (stepS stE (xs.take i) : Int))), (5, .int .i64 i)], []⟩) (fun i => xs.length - i)
    (fun i => i ≤ xs.length) 0 [] (Weak.of rfl trivial ?_ rfl) (by omega) ?_
  · simp (config := { maxSteps := 4000000 }) only [go_sem, simprocAttr, ↓dnA, Tryz.f41, List.take_zero, stepS, Int.add_zero, nc0, frW, wk2, wk1, wkL, wkB, hpW, List.mem_cons, Prod.mk.injEq, exists_eq_left, exists_eq_right, exists_eq]
  · rintro i hi
    by_cases h : i < xs.length
    · have hb := stepS_lt stE xs i h
      have hst : stE xs[i] = 2 := rfl
      have hw1 : IntKind.i64.wrap ((k + (stepS stE (xs.take i) : Int)) + 1) = (k + (stepS stE (xs.take i) : Int)) + 1 := wrap_small _ (by omega) (by omega)
      have hw2 : IntKind.i64.wrap ((k + (stepS stE (xs.take i) : Int)) + 1 + 1) = (k + (stepS stE (xs.take i) : Int)) + 1 + 1 := wrap_small _ (by omega) (by omega)
      have hK : k + (stepS stE (xs.take (i + 1)) : Int) = (k + (stepS stE (xs.take i) : Int)) + 1 + 1 := by rw [stepS_take_succ _ _ _ h, hst]; omega
      simp (config := { maxSteps := 4000000 }) only [go_sem, simprocAttr, ↓dnA, Tryz.f41, rows_length, markS_length, nlt h, h, nn0, markS_rget _ _ _ _ _ _ h, encE, mkE, hw1, hw2, wsucc h hx]
      refine ⟨i + 1, [], by omega, by dsimp only; omega, Weak.of rfl trivial ?_ rfl⟩
      simp (config := { maxSteps := 4000000 }) only [go_sem, simprocAttr, ↓dnA, Tryz.f41, hK, wsucc h hx, frW, wk2, wk1, wkL, wkB, hpW, List.mem_cons, Prod.mk.injEq, exists_eq_left, exists_eq_right, exists_eq]
    · have hi' : i = xs.length := by omega
      subst hi'
      simp (config := { maxSteps := 4000000 }) only [go_sem, simprocAttr, ↓dnA, Tryz.f41, nlf h, rows_length, List.take_length, markS_length]


theorem c_laws_markActionS (nn : Bool) (sz : Nat) (xs : List Action) (k : Int) (hs : xs = [] ∨ sz = 4) (hx : xs.length < 2 ^ 62) (hk : 0 ≤ k ∧ k + stepS stA xs < 2 ^ 62) :
    FSpecM Tryz.prog 58 [.row 800 xs.length, .int .i64 k] [.osl nn sz (rows encA xs)] (fun r ls' => r = .int .i64 (k + stepS stA xs) ∧ ls' = [.osl nn sz (rows encA (markS mkA stA xs k))]) := by
  refine fspec_introM tab_ok Tryz.call58 Tryz.func58 rfl 41 Tryz.ntmps58 (of_decide_eq_true rfl) (of_decide_eq_true rfl) fun B => codeK_sound tab_ok _ _ _ ?_
  rcases hs with rfl | rfl
  · simp (config := { maxSteps := 4000000 }) only [go_sem, simprocAttr, ↓dnA, Tryz.f58]
    refine semL_for tab_ok (fun i : Nat => ⟨41, [(0, .row 800 0), (1, .int .i64 k), (5, .int .i64 0)], [(800, .row true nn sz (rows encA ([] : List Action)))]⟩) (fun i => i) (fun _ => True) 0 [(800, 800)] (Weak.of (by rfl) ?_ ?_ (by rfl)) trivial ?_
    · simp (config := { maxSteps := 4000000 }) only [go_sem, simprocAttr, ↓dnA, Tryz.f58, frW, wk2, wk1, wkL, wkB, hpW, List.mem_cons, Prod.mk.injEq, exists_eq_left, exists_eq_right, exists_eq]
    · simp (config := { maxSteps := 4000000 }) only [go_sem, simprocAttr, ↓dnA, Tryz.f58, List.length_nil, nc0, frW, wk2, wk1, wkL, wkB, hpW, List.mem_cons, Prod.mk.injEq, exists_eq_left, exists_eq_right, exists_eq]
    · rintro i -
      simp (config := { maxSteps := 4000000 }) only [go_sem, simprocAttr, ↓dnA, Tryz.f58, List.length_nil, nc0, rows_length]
      simp [stepS, markS, rows]
  · simp (config := { maxSteps := 4000000 }) only [go_sem, simprocAttr, ↓dnA, Tryz.f58, rows_length]
    refine semL_for tab_ok (fun i : Nat => ⟨41, [(0, .row 800 xs.length), (1, .int .i64 (k + (stepS stA (xs.take i) : Int))), (5, .int .i64 i)], [(800, .row true nn 4 (rows encA (midS mkA stA xs k i)))]⟩) (fun i => xs.length - i)
      (fun i => i ≤ xs.length) 0 [(800, 800)] (Weak.of (by rfl) ?_ ?_ (by rfl)) (by omega) ?_
    · simp (config := { maxSteps := 4000000 }) only [go_sem, simprocAttr, ↓dnA, Tryz.f58, midS_zero, frW, wk2, wk1, wkL, wkB, hpW, List.mem_cons, Prod.mk.injEq, exists_eq_left, exists_eq_right, exists_eq]
    · simp (config := { maxSteps := 4000000 }) only [go_sem, simprocAttr, ↓dnA, Tryz.f58, List.take_zero, stepS, Int.add_zero, nc0, frW, wk2, wk1, wkL, wkB, hpW, List.mem_cons, Prod.mk.injEq, exists_eq_left, exists_eq_right, exists_eq]
    · rintro i hi
      by_cases h : i < xs.length
      · have hb := stepS_lt stA xs i h
        have hm : i < (rows encA (midS mkA stA xs k i)).length := by rw [rows_length, midS_length _ _ _ _ _ hi]; exact h
        have hst : stA xs[i] = 4 := rfl
        have hw1 : IntKind.i64.wrap ((k + (stepS stA (xs.take i) : Int)) + 1) = (k + (stepS stA (xs.take i) : Int)) + 1 := wrap_small _ (by omega) (by omega)
        have hw2 : IntKind.i64.wrap ((k + (stepS stA (xs.take i) : Int)) + 1 + 1) = (k + (stepS stA (xs.take i) : Int)) + 1 + 1 := wrap_small _ (by omega) (by omega)
        have hw3 : IntKind.i64.wrap ((k + (stepS stA (xs.take i) : Int)) + 1 + 1 + 1) = (k + (stepS stA (xs.take i) : Int)) + 1 + 1 + 1 := wrap_small _ (by omega) (by omega)
        have hw4 : IntKind.i64.wrap ((k + (stepS stA (xs.take i) : Int)) + 1 + 1 + 1 + 1) = (k + (stepS stA (xs.take i) : Int)) + 1 + 1 + 1 + 1 := wrap_small _ (by omega) (by omega)
        have hK : k + (stepS stA (xs.take (i + 1)) : Int) = (k + (stepS stA (xs.take i) : Int)) + 1 + 1 + 1 + 1 := by rw [stepS_take_succ _ _ _ h, hst]; omega
        simp (config := { maxSteps := 4000000 }) only [go_sem, simprocAttr, ↓dnA, Tryz.f58, rows_length, midS_length _ _ _ _ _ hi, List.length_set, nlt h, h, nn0, midS_get _ _ _ _ _ _ h, encA, set_same _ _ _ hm, List.set_set, spliceL, hw1, hw2, hw3, hw4, wsucc h hx]
        refine ⟨i + 1, [(800, 800)], by omega, by dsimp only; omega, Weak.of (by rfl) ?_ ?_ (by rfl)⟩
        · simp (config := { maxSteps := 4000000 }) only [go_sem, simprocAttr, ↓dnA, Tryz.f58, frW, wk2, wk1, wkL, wkB, hpW, List.mem_cons, Prod.mk.injEq, exists_eq_left, exists_eq_right, exists_eq]
          exact (midS_set encA mkA stA xs k i h).symm
        · simp (config := { maxSteps := 4000000 }) only [go_sem, simprocAttr, ↓dnA, Tryz.f58, hK, wsucc h hx, frW, wk2, wk1, wkL, wkB, hpW, List.mem_cons, Prod.mk.injEq, exists_eq_left, exists_eq_right, exists_eq]
      · have hi' : i = xs.length := by omega
        subst hi'
        simp (config := { maxSteps := 4000000 }) only [go_sem, simprocAttr, ↓dnA, Tryz.f58, nlf h, rows_length, midS_len, List.take_length, markS_length]

theorem c_laws_heldActionS (n1 : Option Bool) (xs : List Action) (k : Int) (hx : xs.length < 2 ^ 62) (hk : 0 ≤ k ∧ k + stepS stA xs < 2 ^ 62) :
    Det Tryz.prog 61 [.sl n1 (rows encA (markS mkA stA xs k)), .int .i64 k] (.int .i64 (k + stepS stA xs)) := by
  refine fspec_det tab_ok Tryz.call61 Tryz.func61 rfl 49 Tryz.ntmps61 (of_decide_eq_true rfl) fun B => codeK_sound tab_ok _ _ _ ?_
  simp (config := { maxSteps := 4000000 }) only [go_sem, simprocAttr, ↓dnA, Tryz.f61]
  refine semL_for tab_ok (fun i : Nat => ⟨49, [(0, .sl n1 (rows encA (markS mkA stA xs k))), (1, .int .i64 (k + (stepS stA (xs.take i) : Int))), (5, .int .i64 i)], []⟩) (fun i => xs.length - i)
    (fun i => i ≤ xs.length) 0 [] (Weak.of rfl trivial ?_ rfl) (by omega) ?_
  · simp (config := { maxSteps := 4000000 }) only [go_sem, simprocAttr, ↓dnA, Tryz.f61, List.take_zero, stepS, Int.add_zero, nc0, frW, wk2, wk1, wkL, wkB, hpW, List.mem_cons, Prod.mk.injEq, exists_eq_left, exists_eq_right, exists_eq]
  · rintro i hi
    by_cases h : i < xs.length
    · have hb := stepS_lt stA xs i h
      have hst : stA xs[i] = 4 := rfl
      have hw1 : IntKind.i64.wrap ((k + (stepS stA (xs.take i) : Int)) + 1) = (k + (stepS stA (xs.take i) : Int)) + 1 := wrap_small _ (by omega) (by omega)
      have hw2 : IntKind.i64.wrap ((k + (stepS stA (xs.take i) : Int)) + 1 + 1) = (k + (stepS stA (xs.take i) : Int)) + 1 + 1 := wrap_small _ (by omega) (by omega)
      have hw3 : IntKind.i64.wrap ((k + (stepS stA (xs.take i) : Int)) + 1 + 1 + 1) = (k + (stepS stA (xs.take i) : Int)) + 1 + 1 + 1 := wrap_small _ (by omega) (by omega)
      have hw4 : IntKind.i64.wrap ((k + (stepS stA (xs.take i) : Int)) + 1 + 1 + 1 + 1) = (k + (stepS stA (xs.take i) : Int)) + 1 + 1 + 1 + 1 := wrap_small _ (by omega) (by omega)
      have hK : k + (stepS stA (xs.take (i + 1)) : Int) = (k + (stepS stA (xs.take i) : Int)) + 1 + 1 + 1 + 1 := by rw [stepS_take_succ _ _ _ h, hst]; omega
      simp (config := { maxSteps := 4000000 }) only [go_sem, simprocAttr, ↓dnA, Tryz.f61, rows_length, markS_length, nlt h, h, nn0, markS_rget _ _ _ _ _ _ h, encA, mkA, hw1, hw2, hw3, hw4, wsucc h hx]
      refine ⟨i + 1, [], by omega, by dsimp only; omega, Weak.of rfl trivial ?_ rfl⟩
      simp (config := { maxSteps := 4000000 }) only [go_sem, simprocAttr, ↓dnA, Tryz.f61, hK, wsucc h hx, frW, wk2, wk1, wkL, wkB, hpW, List.mem_cons, Prod.mk.injEq, exists_eq_left, exists_eq_right, exists_eq]
    · have hi' : i = xs.length := by omega
      subst hi'
      simp (config := { maxSteps := 4000000 }) only [go_sem, simprocAttr, ↓dnA, Tryz.f61, nlf h, rows_length, List.take_length, markS_length]


theorem c_laws_markIntS (nn : Bool) (sz : Nat) (xs : List Int) (k : Int) (hs : xs = [] ∨ sz = 1) (hx : xs.length < 2 ^ 62) (hk : 0 ≤ k ∧ k + stepS stI xs < 2 ^ 62) :
    FSpecM Tryz.prog 22 [.row 800 xs.length, .int .i64 k] [.osl nn sz (rows encI xs)] (fun r ls' => r = .int .i64 (k + stepS stI xs) ∧ ls' = [.osl nn sz (rows encI (markS mkI stI xs k))]) := by
  refine fspec_introM tab_ok Tryz.call22 Tryz.func22 rfl 19 Tryz.ntmps22 (of_decide_eq_true rfl) (of_decide_eq_true rfl) fun B => codeK_sound tab_ok _ _ _ ?_
  rcases hs with rfl | rfl
  · simp (config := { maxSteps := 4000000 }) only [go_sem, simprocAttr, ↓dnA, Tryz.f22]
    refine semL_for tab_ok (fun i : Nat => ⟨19, [(0, .row 800 0), (1, .int .i64 k), (5, .int .i64 0)], [(800, .row true nn sz (rows encI ([] : List Int)))]⟩) (fun i => i) (fun _ => True) 0 [(800, 800)] (Weak.of (by rfl) ?_ ?_ (by rfl)) trivial ?_
    · simp (config := { maxSteps := 4000000 }) only [go_sem, simprocAttr, ↓dnA, Tryz.f22, frW, wk2, wk1, wkL, wkB, hpW, List.mem_cons, Prod.mk.injEq, exists_eq_left, exists_eq_right, exists_eq]
    · simp (config := { maxSteps := 4000000 }) only [go_sem, simprocAttr, ↓dnA, Tryz.f22, List.length_nil, nc0, frW, wk2, wk1, wkL, wkB, hpW, List.mem_cons, Prod.mk.injEq, exists_eq_left, exists_eq_right, exists_eq]
    · rintro i -
      simp (config := { maxSteps := 4000000 }) only [go_sem, simprocAttr, ↓dnA, Tryz.f22, List.length_nil, nc0, rows_length]
      simp [stepS, markS, rows]
  · simp (config := { maxSteps := 4000000 }) only [go_sem, simprocAttr, ↓dnA, Tryz.f22, rows_length]
    refine semL_for tab_ok (fun i : Nat => ⟨19, [(0, .row 800 xs.length), (1, .int .i64 (k + (stepS stI (xs.take i) : Int))), (5, .int .i64 i)], [(800, .row true nn 1 (rows encI (midS mkI stI xs k i)))]⟩) (fun i => xs.length - i)
      (fun i => i ≤ xs.length) 0 [(800, 800)] (Weak.of (by rfl) ?_ ?_ (by rfl)) (by omega) ?_
    · simp (config := { maxSteps := 4000000 }) only [go_sem, simprocAttr, ↓dnA, Tryz.f22, midS_zero, frW, wk2, wk1, wkL, wkB, hpW, List.mem_cons, Prod.mk.injEq, exists_eq_left, exists_eq_right, exists_eq]
    · simp (config := { maxSteps := 4000000 }) only [go_sem, simprocAttr, ↓dnA, Tryz.f22, List.take_zero, stepS, Int.add_zero, nc0, frW, wk2, wk1, wkL, wkB, hpW, List.mem_cons, Prod.mk.injEq, exists_eq_left, exists_eq_right, exists_eq]
    · rintro i hi
      by_cases h : i < xs.length
      · have hb := stepS_lt stI xs i h
        have hm : i < (rows encI (midS mkI stI xs k i)).length := by rw [rows_length, midS_length _ _ _ _ _ hi]; exact h
        have hst : stI xs[i] = 1 := rfl
        have hw1 : IntKind.i64.wrap ((k + (stepS stI (xs.take i) : Int)) + 1) = (k + (stepS stI (xs.take i) : Int)) + 1 := wrap_small _ (by omega) (by omega)
        have hK : k + (stepS stI (xs.take (i + 1)) : Int) = (k + (stepS stI (xs.take i) : Int)) + 1 := by rw [stepS_take_succ _ _ _ h, hst]; omega
        simp (config := { maxSteps := 4000000 }) only [go_sem, simprocAttr, ↓dnA, Tryz.f22, rows_length, midS_length _ _ _ _ _ hi, List.length_set, nlt h, h, nn0, midS_get _ _ _ _ _ _ h, encI, set_same _ _ _ hm, List.set_set, spliceL, hw1, wsucc h hx]
        refine ⟨i + 1, [(800, 800)], by omega, by dsimp only; omega, Weak.of (by rfl) ?_ ?_ (by rfl)⟩
        · simp (config := { maxSteps := 4000000 }) only [go_sem, simprocAttr, ↓dnA, Tryz.f22, frW, wk2, wk1, wkL, wkB, hpW, List.mem_cons, Prod.mk.injEq, exists_eq_left, exists_eq_right, exists_eq]
          exact (midS_set encI mkI stI xs k i h).symm
        · simp (config := { maxSteps := 4000000 }) only [go_sem, simprocAttr, ↓dnA, Tryz.f22, hK, wsucc h hx, frW, wk2, wk1, wkL, wkB, hpW, List.mem_cons, Prod.mk.injEq, exists_eq_left, exists_eq_right, exists_eq]
      · have hi' : i = xs.length := by omega
        subst hi'
        simp (config := { maxSteps := 4000000 }) only [go_sem, simprocAttr, ↓dnA, Tryz.f22, nlf h, rows_length, midS_len, List.take_length, markS_length]

theorem c_laws_heldIntS (n1 : Option Bool) (xs : List Int) (k : Int) (hx : xs.length < 2 ^ 62) (hk : 0 ≤ k ∧ k + stepS stI xs < 2 ^ 62) :
    Det Tryz.prog 110 [.sl n1 (rows encI (markS mkI stI xs k)), .int .i64 k] (.int .i64 (k + stepS stI xs)) := by
  refine fspec_det tab_ok Tryz.call110 Tryz.func110 rfl 21 Tryz.ntmps110 (of_decide_eq_true rfl) fun B => codeK_sound tab_ok _ _ _ ?_
  simp (config := { maxSteps := 4000000 }) only [go_sem, simprocAttr, ↓dnA, Tryz.f110]
  refine semL_for tab_ok (fun i : Nat => ⟨21, [(0, .sl n1 (rows encI (markS mkI stI xs k))), (1, .int .i64 (k + (stepS stI (xs.take i) : Int))), (5, .int .i64 i)], []⟩) (fun i => xs.length - i)
    (fun i => i ≤ xs.length) 0 [] (Weak.of rfl trivial ?_ rfl) (by omega) ?_
  · simp (config := { maxSteps := 4000000 }) only [go_sem, simprocAttr, ↓dnA, Tryz.f110, List.take_zero, stepS, Int.add_zero, nc0, frW, wk2, wk1, wkL, wkB, hpW, List.mem_cons, Prod.mk.injEq, exists_eq_left, exists_eq_right, exists_eq]
  · rintro i hi
    by_cases h : i < xs.length
    · have hb := stepS_lt stI xs i h
      have hst : stI xs[i] = 1 := rfl
      have hw1 : IntKind.i64.wrap ((k + (stepS stI (xs.take i) : Int)) + 1) = (k + (stepS stI (xs.take i) : Int)) + 1 := wrap_small _ (by omega) (by omega)
      have hK : k + (stepS stI (xs.take (i + 1)) : Int) = (k + (stepS stI (xs.take i) : Int)) + 1 := by rw [stepS_take_succ _ _ _ h, hst]; omega
      simp (config := { maxSteps := 4000000 }) only [go_sem, simprocAttr, ↓dnA, Tryz.f110, rows_length, markS_length, nlt h, h, nn0, markS_rget _ _ _ _ _ _ h, encI, mkI, hw1, wsucc h hx]
      refine ⟨i + 1, [], by omega, by dsimp only; omega, Weak.of rfl trivial ?_ rfl⟩
      simp (config := { maxSteps := 4000000 }) only [go_sem, simprocAttr, ↓dnA, Tryz.f110, hK, wsucc h hx, frW, wk2, wk1, wkL, wkB, hpW, List.mem_cons, Prod.mk.injEq, exists_eq_left, exists_eq_right, exists_eq]
    · have hi' : i = xs.length := by omega
      subst hi'
      simp (config := { maxSteps := 4000000 }) only [go_sem, simprocAttr, ↓dnA, Tryz.f110, nlf h, rows_length, List.take_length, markS_length]


end Go.Proofs.YteebkimhfaodnaaGreat

/- Contracts: the laws' marks of blocks and trees. -/
set_option linter.unusedSimpArgs false
set_option linter.unusedVariables false
set_option maxRecDepth 20000
set_option maxHeartbeats 4000000
namespace Go.Proofs.YteebkimhfaodnaaGreat
open Go Go.RowKit

theorem stepS_const {α : Type} (st : α → Nat) (c : Nat) (h : ∀ x, st x = c) : ∀ xs : List α, stepS st xs = c * xs.length
  | [] => by simp [stepS]
  | x :: r => by rw [stepS, stepS_const st c h r, h x, List.length_cons, Nat.mul_add, Nat.mul_one, Nat.add_comm]

theorem sz_of {α : Type} (e : α → List AV) (xs : List α) (n sz : Nat) (he : ∀ x, (e x).length = n) (h : ∀ r ∈ rows e xs, r.length = sz) : xs = [] ∨ sz = n := by
  cases xs with
  | nil => exact .inl rfl
  | cons x r => exact .inr ((h (e x) (by simp [rows])).symm.trans (he x))

end Go.Proofs.YteebkimhfaodnaaGreat

/- Contracts: engines, and their copies. -/
set_option linter.unusedSimpArgs false
set_option linter.unusedVariables false
set_option maxRecDepth 20000
set_option maxHeartbeats 4000000
namespace Go.Proofs.YteebkimhfaodnaaGreat
open Go Go.RowKit

theorem semL_nilVA {P : Program} {B : Base} {c : Code} {s : AState} {Kx : Exit → AState → Prop} (vid j id sz : Nat) (own : Bool) {cs : List AV} (h0 : s.blk vid = .var cs) (hj : j < cs.length) (h1 : cs.getD j .top = .sl (some false) []) (h2 : s.blk id = .none) (h3 : nF id) (h4 : 0 < sz)
    (h : @SemL P B c { s with hp := (vid, .var (cs.set j (.row id 0))) :: (id, .row own false sz []) :: s.hp } ⟨Kx⟩) : @SemL P B c s ⟨Kx⟩ := @semL_nilV _ _ _ _ ⟨Kx⟩ vid j id sz own _ h0 hj h1 h2 h3 h4 h

structure Version where
  key : Int
  by_ : Int
  value : Int
deriving DecidableEq, Inhabited
def encR (v : Version) : List AV := [.int .i64 v.key, .int .i64 v.by_, .int .i64 v.value]

structure Effect where
  done : Bool
  reads : List Entry
  writes : List Entry
deriving DecidableEq, Inhabited
def encF (n1 n2 : Option Bool) (e : Effect) : List AV := [.bool e.done, .sl n1 (rows encE e.reads), .sl n2 (rows encE e.writes)]

structure Slot where
  stage : Int
  tries : Int
  fr : List Int
  res : Effect
deriving DecidableEq, Inhabited
def encS (n1 n2 n3 : Option Bool) (s : Slot) : List AV := [.int .i64 s.stage, .int .i64 s.tries, .sl n1 (rows encI s.fr), .bool s.res.done, .sl n2 (rows encE s.res.reads), .sl n3 (rows encE s.res.writes)]
def encS1 (s : Slot) : List AV := encS none none none s

structure Engine where
  base : List Entry
  list : List Action
  versions : List Version
  slots : List Slot
deriving DecidableEq, Inhabited
def encG (n1 n2 n3 n4 : Option Bool) (e : Engine) : List AV := [.sl n1 (rows encE e.base), .sl n2 (rows encA e.list), .sl n3 (rows encR e.versions), .sl n4 (rows encS1 e.slots)]
def encGO (e : Engine) : List AV := [.osl true 2 (rows encE e.base), .osl true 4 (rows encA e.list), .osl true 3 (rows encR e.versions), .osl true 6 (rows encS1 e.slots)]
def encGF (e : Engine) : List AV := [.osl false 2 (rows encE e.base), .osl false 4 (rows encA e.list), .osl false 3 (rows encR e.versions), .osl false 6 (rows encS1 e.slots)]

/-- The sizes of a slot's lists. -/
structure SlotSz (n : Nat) (s : Slot) : Prop where
  fr : s.fr.length < n
  reads : s.res.reads.length < n
  writes : s.res.writes.length < n
structure EngSz (n : Nat) (e : Engine) : Prop where
  base : e.base.length < n
  list : e.list.length < n
  versions : e.versions.length < n
  slots : e.slots.length < n
  each : ∀ s, s ∈ e.slots → SlotSz n s

section
variable {α : Type} (e : α → List AV)
theorem all_rows (p : AV → Bool) (h : ∀ x, (e x).all p = true) (xs : List α) : ((rows e xs).all fun r => r.all p) = true := by
  rw [List.all_eq_true]
  intro r hr
  obtain ⟨x, _, rfl⟩ := List.mem_map.1 hr
  exact h x
theorem sz0_rows (n : Nat) (h : ∀ x, (e x).length = n) (xs : List α) : xs.length = 0 ∨ ((rows e xs).getD 0 []).length = n := by
  cases xs with
  | nil => exact .inl rfl
  | cons x r => exact .inr (h x)
end

theorem c_impl_cloneEntries (n1 : Option Bool) (xs : List Entry) (hx : xs.length < 2 ^ 32) : Det Tryz.prog 102 [.sl n1 (rows encE xs)] (.osl false 2 (rows encE xs)) := by
  refine fspec_det tab_ok Tryz.call102 Tryz.func102 rfl 5 Tryz.ntmps102 (of_decide_eq_true rfl) fun B => codeK_sound tab_ok _ _ _ ?_
  have h1 := all_rows encE AV.flat (fun _ => rfl) xs
  have h2 := all_rows encE AV.one (fun _ => rfl) xs
  have h3 := sz0_rows encE 2 (fun _ => rfl) xs
  simp (config := { maxSteps := 4000000 }) only [go_sem, simprocAttr, ↓dnA, Tryz.f102, rows_length]
  repeat refine And.intro (by first | omega | (simp; done) | (simp; omega) | assumption) ?_
  omega

theorem c_impl_Effect_clone (n1 n2 : Option Bool) (e : Effect) (h1 : e.reads.length < 2 ^ 32) (h2 : e.writes.length < 2 ^ 32) : Det Tryz.prog 78 [.agg (encF n1 n2 e)] (.agg [.bool e.done, .osl false 2 (rows encE e.reads), .osl false 2 (rows encE e.writes)]) := by
  refine fspec_det tab_ok Tryz.call78 Tryz.func78 rfl 12 Tryz.ntmps78 (of_decide_eq_true rfl) fun B => codeK_sound tab_ok _ _ _ ?_
  simp (config := { maxSteps := 4000000 }) only [go_sem, simprocAttr, ↓dnA, Tryz.f78, rows_length, encF]
  refine semL_draw tab_ok mixed_ rfl (ord := [(0, []), (1, []), (2, []), (3, []), (5, []), (6, []), (4, [0, 1, 5, 6]), (7, [0, 1]), (8, []), (9, [])]) (by dsimp only; decide +kernel) ?_
  simp (config := { maxSteps := 4000000 }) only [go_sem, simprocAttr, ↓dnA, Tryz.f78, rows_length, encF]
  refine CallTo.det (c_impl_cloneEntries n1 e.reads h1) fun _ => ?_
  simp (config := { maxSteps := 4000000 }) only [go_sem, simprocAttr, ↓dnA, Tryz.f78, rows_length, encF]
  refine CallTo.det (c_impl_cloneEntries n2 e.writes h2) fun _ => ?_
  simp (config := { maxSteps := 4000000 }) only [go_sem, simprocAttr, ↓dnA, Tryz.f78, rows_length, encF]

theorem c_impl_Engine_clone (n1 n2 n3 n4 : Option Bool) (e : Engine) (hx : EngSz (2 ^ 32) e) : Det Tryz.prog 53 [.agg (encG n1 n2 n3 n4 e)] (.agg (encGF e)) := by
  refine fspec_det tab_ok Tryz.call53 Tryz.func53 rfl 41 Tryz.ntmps53 (of_decide_eq_true rfl) fun B => codeK_sound tab_ok _ _ _ ?_
  have a1 := all_rows encA AV.flat (fun _ => rfl) e.list
  have a2 := all_rows encA AV.one (fun _ => rfl) e.list
  have a3 := sz0_rows encA 4 (fun _ => rfl) e.list
  have r1 := all_rows encR AV.flat (fun _ => rfl) e.versions
  have r2 := all_rows encR AV.one (fun _ => rfl) e.versions
  have r3 := sz0_rows encR 3 (fun _ => rfl) e.versions
  have q1 := hx.list
  have q2 := hx.versions
  have q3 := hx.slots
  simp (config := { maxSteps := 4000000 }) only [go_sem, simprocAttr, ↓dnA, Tryz.f53, rows_length, encG]
  refine semL_draw tab_ok mixed_ rfl (ord := [(0, []), (1, []), (3, []), (4, []), (6, []), (7, []), (2, [3, 4, 6, 7]), (5, [6, 7]), (8, []), (9, []), (10, [0, 1, 3, 4, 6, 7, 9]), (11, [])]) (by dsimp only; decide +kernel) ?_
  simp (config := { maxSteps := 4000000 }) only [go_sem, simprocAttr, ↓dnA, Tryz.f53, rows_length, encG]
  refine CallTo.det (c_impl_cloneEntries n1 e.base hx.base) fun _ => ?_
  simp (config := { maxSteps := 4000000 }) only [go_sem, simprocAttr, ↓dnA, Tryz.f53, rows_length, encG]
  repeat refine And.intro (by first | omega | (simp; done) | (simp; omega) | assumption) ?_
  refine semL_nilVA 3 3 600 6 true (by rfl) (by simp) (by rfl) (by rfl) (by decide) (by decide) ?_
  refine semL_for tab_ok (fun i : Nat => ⟨41, [(2, .loc 2 0), (3, .loc 3 0), (17, .sl n4 (rows encS1 e.slots)), (18, .int .i64 e.slots.length), (19, .int .i64 i)],
      [(2, .var [.sl (some false) [], .sl (some false) [], .sl (some false) [], .sl (some false) []]), (3, .var [.row 9000 e.base.length, .row 11 e.list.length, .row 14 e.versions.length, .row 600 i]),
        (14, .row true false 3 (rows encR e.versions)), (11, .row true false 4 (rows encA e.list)), (9000, .row true false 2 (rows encE e.base)), (600, .row true false 6 (rows encS1 (e.slots.take i)))]⟩) (fun i => e.slots.length - i)
    (fun i => i ≤ e.slots.length) 0 [(2, 2), (3, 3), (14, 14), (11, 11), (9000, 9000), (600, 600)] (Weak.of (by rfl) ?_ ?_ (by rfl)) (by omega) ?_
  · simp (config := { maxSteps := 4000000 }) only [go_sem, simprocAttr, ↓dnA, Tryz.f53, rows_length, frW, wk2, wk1, wkL, wkB, hpW, List.mem_cons, Prod.mk.injEq, exists_eq_left, exists_eq_right, exists_eq]
    try rfl
  · simp (config := { maxSteps := 4000000 }) only [go_sem, simprocAttr, ↓dnA, Tryz.f53, rows_length, frW, wk2, wk1, wkL, wkB, hpW, List.mem_cons, Prod.mk.injEq, exists_eq_left, exists_eq_right, exists_eq]
  · rintro i hi
    by_cases h : i < e.slots.length
    · have hs := hx.each _ (List.getElem_mem h)
      have hs1 := hs.fr
      have i1 := all_rows encI AV.flat (fun _ => rfl) e.slots[i].fr
      have i2 := all_rows encI AV.one (fun _ => rfl) e.slots[i].fr
      have i3 := sz0_rows encI 1 (fun _ => rfl) e.slots[i].fr
      have htk : (rows encS1 (e.slots.take i)).take i = rows encS1 (e.slots.take i) := by
        rw [List.take_of_length_le]; rw [rows_length, List.length_take]; omega
      have hl : min i e.slots.length = i := by omega
      have hw : IntKind.i64.wrap ((i : Int) + 1) = ((i + 1 : Nat) : Int) := wsucc h (by omega)
      simp (config := { maxSteps := 4000000 }) only [go_sem, simprocAttr, ↓dnA, Tryz.f53, rows_length, nlt h, rows_get _ _ _ h, encS1, encS, nn0]
      refine semL_draw tab_ok mixed_ rfl (ord := [(0, []), (1, []), (2, []), (3, []), (4, []), (5, []), (6, []), (7, []), (9, []), (10, []), (8, [0, 1, 2, 3, 4, 5, 9, 10]), (11, [0, 1, 2, 3, 4, 5]), (12, []), (13, [0, 1]), (14, []), (15, []), (16, [])]) (by dsimp only; decide +kernel) ?_
      simp (config := { maxSteps := 4000000 }) only [go_sem, simprocAttr, ↓dnA, Tryz.f53, rows_length, List.length_take, hl, htk]
      repeat refine And.intro (by first | omega | (simp; done) | (simp; omega) | assumption) ?_
      refine CallTo.det (c_impl_Effect_clone none none e.slots[i].res hs.reads hs.writes) fun _ => ?_
      simp (config := { maxSteps := 4000000 }) only [go_sem, simprocAttr, ↓dnA, Tryz.f53, rows_length, List.length_take, hl, htk, hw]
      repeat refine And.intro (by first | omega | (simp; done) | (simp; omega) | assumption) ?_
      refine ⟨i + 1, [(2, 2), (3, 3), (14, 14), (11, 11), (9000, 9000), (37, 600)], by omega, by dsimp only; omega, Weak.of (by rfl) ?_ ?_ (by rfl)⟩
      · simp (config := { maxSteps := 4000000 }) only [go_sem, simprocAttr, ↓dnA, Tryz.f53, rows_length, frW, wk2, wk1, wkL, wkB, hpW, List.mem_cons, Prod.mk.injEq, exists_eq_left, exists_eq_right, exists_eq]
        rw [take_snoc _ _ h, ← rows_snoc]
        rfl
      · simp (config := { maxSteps := 4000000 }) only [go_sem, simprocAttr, ↓dnA, Tryz.f53, rows_length, frW, wk2, wk1, wkL, wkB, hpW, List.mem_cons, Prod.mk.injEq, exists_eq_left, exists_eq_right, exists_eq]
    · have hi' : i = e.slots.length := by omega
      subst hi'
      simp (config := { maxSteps := 4000000 }) only [go_sem, simprocAttr, ↓dnA, Tryz.f53, rows_length, nlf h, encGF, List.take_length]

def slot0 : Slot := ⟨0, 0, [], ⟨false, [], []⟩⟩
end Go.Proofs.YteebkimhfaodnaaGreat

/- Contracts: the laws' marks of engines. -/
set_option linter.unusedSimpArgs false
set_option linter.unusedVariables false
set_option maxRecDepth 20000
set_option maxHeartbeats 4000000
namespace Go.Proofs.YteebkimhfaodnaaGreat
open Go Go.RowKit

def mkR (_ : Version) (k : Int) : Version := ⟨k, k + 1, k + 1 + 1⟩
def stR (_ : Version) : Nat := 3

theorem c_laws_markVersionS (nn : Bool) (sz : Nat) (xs : List Version) (k : Int) (hs : xs = [] ∨ sz = 3) (hx : xs.length < 2 ^ 62) (hk : 0 ≤ k ∧ k + stepS stR xs < 2 ^ 62) :
    FSpecM Tryz.prog 59 [.row 800 xs.length, .int .i64 k] [.osl nn sz (rows encR xs)] (fun r ls' => r = .int .i64 (k + stepS stR xs) ∧ ls' = [.osl nn sz (rows encR (markS mkR stR xs k))]) := by
  refine fspec_introM tab_ok Tryz.call59 Tryz.func59 rfl 34 Tryz.ntmps59 (of_decide_eq_true rfl) (of_decide_eq_true rfl) fun B => codeK_sound tab_ok _ _ _ ?_
  rcases hs with rfl | rfl
  · simp (config := { maxSteps := 4000000 }) only [go_sem, simprocAttr, ↓dnA, Tryz.f59]
    refine semL_for tab_ok (fun i : Nat => ⟨34, [(0, .row 800 0), (1, .int .i64 k), (5, .int .i64 0)], [(800, .row true nn sz (rows encR ([] : List Version)))]⟩) (fun i => i) (fun _ => True) 0 [(800, 800)] (Weak.of (by rfl) ?_ ?_ (by rfl)) trivial ?_
    · simp (config := { maxSteps := 4000000 }) only [go_sem, simprocAttr, ↓dnA, Tryz.f59, frW, wk2, wk1, wkL, wkB, hpW, List.mem_cons, Prod.mk.injEq, exists_eq_left, exists_eq_right, exists_eq]
    · simp (config := { maxSteps := 4000000 }) only [go_sem, simprocAttr, ↓dnA, Tryz.f59, List.length_nil, nc0, frW, wk2, wk1, wkL, wkB, hpW, List.mem_cons, Prod.mk.injEq, exists_eq_left, exists_eq_right, exists_eq]
    · rintro i -
      simp (config := { maxSteps := 4000000 }) only [go_sem, simprocAttr, ↓dnA, Tryz.f59, List.length_nil, nc0, rows_length]
      simp [stepS, markS, rows]
  · simp (config := { maxSteps := 4000000 }) only [go_sem, simprocAttr, ↓dnA, Tryz.f59, rows_length]
    refine semL_for tab_ok (fun i : Nat => ⟨34, [(0, .row 800 xs.length), (1, .int .i64 (k + (stepS stR (xs.take i) : Int))), (5, .int .i64 i)], [(800, .row true nn 3 (rows encR (midS mkR stR xs k i)))]⟩) (fun i => xs.length - i)
      (fun i => i ≤ xs.length) 0 [(800, 800)] (Weak.of (by rfl) ?_ ?_ (by rfl)) (by omega) ?_
    · simp (config := { maxSteps := 4000000 }) only [go_sem, simprocAttr, ↓dnA, Tryz.f59, midS_zero, frW, wk2, wk1, wkL, wkB, hpW, List.mem_cons, Prod.mk.injEq, exists_eq_left, exists_eq_right, exists_eq]
    · simp (config := { maxSteps := 4000000 }) only [go_sem, simprocAttr, ↓dnA, Tryz.f59, List.take_zero, stepS, Int.add_zero, nc0, frW, wk2, wk1, wkL, wkB, hpW, List.mem_cons, Prod.mk.injEq, exists_eq_left, exists_eq_right, exists_eq]
    · rintro i hi
      by_cases h : i < xs.length
      · have hb := stepS_lt stR xs i h
        have hm : i < (rows encR (midS mkR stR xs k i)).length := by rw [rows_length, midS_length _ _ _ _ _ hi]; exact h
        have hst : stR xs[i] = 3 := rfl
        have hw1 : IntKind.i64.wrap ((k + (stepS stR (xs.take i) : Int)) + 1) = (k + (stepS stR (xs.take i) : Int)) + 1 := wrap_small _ (by omega) (by omega)
        have hw2 : IntKind.i64.wrap ((k + (stepS stR (xs.take i) : Int)) + 1 + 1) = (k + (stepS stR (xs.take i) : Int)) + 1 + 1 := wrap_small _ (by omega) (by omega)
        have hw3 : IntKind.i64.wrap ((k + (stepS stR (xs.take i) : Int)) + 1 + 1 + 1) = (k + (stepS stR (xs.take i) : Int)) + 1 + 1 + 1 := wrap_small _ (by omega) (by omega)
        have hK : k + (stepS stR (xs.take (i + 1)) : Int) = (k + (stepS stR (xs.take i) : Int)) + 1 + 1 + 1 := by rw [stepS_take_succ _ _ _ h, hst]; omega
        simp (config := { maxSteps := 4000000 }) only [go_sem, simprocAttr, ↓dnA, Tryz.f59, rows_length, midS_length _ _ _ _ _ hi, List.length_set, nlt h, h, nn0, midS_get _ _ _ _ _ _ h, encR, set_same _ _ _ hm, List.set_set, spliceL, hw1, hw2, hw3, wsucc h hx]
        refine ⟨i + 1, [(800, 800)], by omega, by dsimp only; omega, Weak.of (by rfl) ?_ ?_ (by rfl)⟩
        · simp (config := { maxSteps := 4000000 }) only [go_sem, simprocAttr, ↓dnA, Tryz.f59, frW, wk2, wk1, wkL, wkB, hpW, List.mem_cons, Prod.mk.injEq, exists_eq_left, exists_eq_right, exists_eq]
          exact (midS_set encR mkR stR xs k i h).symm
        · simp (config := { maxSteps := 4000000 }) only [go_sem, simprocAttr, ↓dnA, Tryz.f59, hK, wsucc h hx, frW, wk2, wk1, wkL, wkB, hpW, List.mem_cons, Prod.mk.injEq, exists_eq_left, exists_eq_right, exists_eq]
      · have hi' : i = xs.length := by omega
        subst hi'
        simp (config := { maxSteps := 4000000 }) only [go_sem, simprocAttr, ↓dnA, Tryz.f59, nlf h, rows_length, midS_len, List.take_length, markS_length]

theorem c_laws_heldVersionS (n1 : Option Bool) (xs : List Version) (k : Int) (hx : xs.length < 2 ^ 62) (hk : 0 ≤ k ∧ k + stepS stR xs < 2 ^ 62) :
    Det Tryz.prog 62 [.sl n1 (rows encR (markS mkR stR xs k)), .int .i64 k] (.int .i64 (k + stepS stR xs)) := by
  refine fspec_det tab_ok Tryz.call62 Tryz.func62 rfl 40 Tryz.ntmps62 (of_decide_eq_true rfl) fun B => codeK_sound tab_ok _ _ _ ?_
  simp (config := { maxSteps := 4000000 }) only [go_sem, simprocAttr, ↓dnA, Tryz.f62]
  refine semL_for tab_ok (fun i : Nat => ⟨40, [(0, .sl n1 (rows encR (markS mkR stR xs k))), (1, .int .i64 (k + (stepS stR (xs.take i) : Int))), (5, .int .i64 i)], []⟩) (fun i => xs.length - i)
    (fun i => i ≤ xs.length) 0 [] (Weak.of rfl trivial ?_ rfl) (by omega) ?_
  · simp (config := { maxSteps := 4000000 }) only [go_sem, simprocAttr, ↓dnA, Tryz.f62, List.take_zero, stepS, Int.add_zero, nc0, frW, wk2, wk1, wkL, wkB, hpW, List.mem_cons, Prod.mk.injEq, exists_eq_left, exists_eq_right, exists_eq]
  · rintro i hi
    by_cases h : i < xs.length
    · have hb := stepS_lt stR xs i h
      have hst : stR xs[i] = 3 := rfl
      have hw1 : IntKind.i64.wrap ((k + (stepS stR (xs.take i) : Int)) + 1) = (k + (stepS stR (xs.take i) : Int)) + 1 := wrap_small _ (by omega) (by omega)
      have hw2 : IntKind.i64.wrap ((k + (stepS stR (xs.take i) : Int)) + 1 + 1) = (k + (stepS stR (xs.take i) : Int)) + 1 + 1 := wrap_small _ (by omega) (by omega)
      have hw3 : IntKind.i64.wrap ((k + (stepS stR (xs.take i) : Int)) + 1 + 1 + 1) = (k + (stepS stR (xs.take i) : Int)) + 1 + 1 + 1 := wrap_small _ (by omega) (by omega)
      have hK : k + (stepS stR (xs.take (i + 1)) : Int) = (k + (stepS stR (xs.take i) : Int)) + 1 + 1 + 1 := by rw [stepS_take_succ _ _ _ h, hst]; omega
      simp (config := { maxSteps := 4000000 }) only [go_sem, simprocAttr, ↓dnA, Tryz.f62, rows_length, markS_length, nlt h, h, nn0, markS_rget _ _ _ _ _ _ h, encR, mkR, hw1, hw2, hw3, wsucc h hx]
      refine ⟨i + 1, [], by omega, by dsimp only; omega, Weak.of rfl trivial ?_ rfl⟩
      simp (config := { maxSteps := 4000000 }) only [go_sem, simprocAttr, ↓dnA, Tryz.f62, hK, wsucc h hx, frW, wk2, wk1, wkL, wkB, hpW, List.mem_cons, Prod.mk.injEq, exists_eq_left, exists_eq_right, exists_eq]
    · have hi' : i = xs.length := by omega
      subst hi'
      simp (config := { maxSteps := 4000000 }) only [go_sem, simprocAttr, ↓dnA, Tryz.f62, nlf h, rows_length, List.take_length, markS_length]



/-- A slot's marks. -/
def mkS (s : Slot) (k : Int) : Slot :=
  ⟨k, k + 1, markS mkI stI s.fr (k + 1 + 1), ⟨(k + 1 + 1 + (stepS stI s.fr : Int)).tmod 3 == 0, markS mkE stE s.res.reads (k + 1 + 1 + (stepS stI s.fr : Int) + 1),
    markS mkE stE s.res.writes (k + 1 + 1 + (stepS stI s.fr : Int) + 1 + (stepS stE s.res.reads : Int))⟩⟩
def stS (s : Slot) : Nat := 3 + stepS stI s.fr + stepS stE s.res.reads + stepS stE s.res.writes

theorem c_laws_markSlotS (nn : Bool) (xs : List Slot) (k : Int) (hx : xs.length < 2 ^ 62) (hk : 0 ≤ k ∧ k + stepS stS xs < 2 ^ 62) :
    FSpecM Tryz.prog 60 [.row 800 xs.length, .int .i64 k] [.osl nn 6 (rows encS1 xs)] (fun r ls' => r = .int .i64 (k + stepS stS xs) ∧ ls' = [.osl nn 6 (rows encS1 (markS mkS stS xs k))]) := by
  refine fspec_introM tab_ok Tryz.call60 Tryz.func60 rfl 60 Tryz.ntmps60 (of_decide_eq_true rfl) (of_decide_eq_true rfl) fun B => codeK_sound tab_ok _ _ _ ?_
  simp (config := { maxSteps := 4000000 }) only [go_sem, simprocAttr, ↓dnA, Tryz.f60, rows_length]
  refine semL_for tab_ok (fun i : Nat => ⟨60, [(0, .row 800 xs.length), (1, .int .i64 (k + (stepS stS (xs.take i) : Int))), (5, .int .i64 i)], [(800, .row true nn 6 (rows encS1 (midS mkS stS xs k i)))]⟩) (fun i => xs.length - i)
    (fun i => i ≤ xs.length) 0 [(800, 800)] (Weak.of (by rfl) ?_ ?_ (by rfl)) (by omega) ?_
  · simp (config := { maxSteps := 4000000 }) only [go_sem, simprocAttr, ↓dnA, Tryz.f60, midS_zero, frW, wk2, wk1, wkL, wkB, hpW, List.mem_cons, Prod.mk.injEq, exists_eq_left, exists_eq_right, exists_eq]
  · simp (config := { maxSteps := 4000000 }) only [go_sem, simprocAttr, ↓dnA, Tryz.f60, List.take_zero, stepS, Int.add_zero, nc0, frW, wk2, wk1, wkL, wkB, hpW, List.mem_cons, Prod.mk.injEq, exists_eq_left, exists_eq_right, exists_eq]
  · rintro i hi
    by_cases h : i < xs.length
    · have hb := stepS_lt stS xs i h
      have hm : i < (rows encS1 (midS mkS stS xs k i)).length := by rw [rows_length, midS_length _ _ _ _ _ hi]; exact h
      have hst : stS xs[i] = 3 + stepS stI xs[i].fr + stepS stE xs[i].res.reads + stepS stE xs[i].res.writes := rfl
      have hl1 := stepS_const stI 1 (fun _ => rfl) xs[i].fr
      have hl2 := stepS_const stE 2 (fun _ => rfl) xs[i].res.reads
      have hl3 := stepS_const stE 2 (fun _ => rfl) xs[i].res.writes
      have hK : k + (stepS stS (xs.take (i + 1)) : Int) = k + (stepS stS (xs.take i) : Int) + 1 + 1 + (stepS stI xs[i].fr : Int) + 1 + (stepS stE xs[i].res.reads : Int) + (stepS stE xs[i].res.writes : Int) := by rw [stepS_take_succ _ _ _ h, hst]; omega
      have hs := midS_set encS1 mkS stS xs k i h
      unfold mkS at hs
      generalize hKe : k + (stepS stS (xs.take i) : Int) = K at *
      have hw1 : IntKind.i64.wrap (K + 1) = K + 1 := wrap_small _ (by omega) (by omega)
      have hw2 : IntKind.i64.wrap (K + 1 + 1) = K + 1 + 1 := wrap_small _ (by omega) (by omega)
      have hw3 : IntKind.i64.wrap (K + 1 + 1 + (stepS stI xs[i].fr : Int) + 1) = K + 1 + 1 + (stepS stI xs[i].fr : Int) + 1 := wrap_small _ (by omega) (by omega)
      simp (config := { maxSteps := 4000000 }) only [go_sem, simprocAttr, ↓dnA, Tryz.f60, rows_length, midS_length _ _ _ _ _ hi, List.length_set, nlt h, h, nn0, midS_get _ _ _ _ _ _ h, encS1, encS, set_same _ _ _ hm, List.set_set, spliceL, hw1, hw2]
      intro sz2 hz2 hl2'
      refine CallMTo.of (c_laws_markIntS false sz2 xs[i].fr (K + 1 + 1) (sz_of encI xs[i].fr 1 sz2 (fun _ => rfl) hl2') (by omega) (by omega)) ?_
      rintro r ls' ⟨rfl, rfl⟩ es2' he
      simp only [List.cons.injEq, AV.osl.injEq, and_true, true_and] at he
      subst he
      simp (config := { maxSteps := 4000000 }) only [go_sem, simprocAttr, ↓dnA, Tryz.f60, rows_length, midS_length _ _ _ _ _ hi, List.length_set, nlt h, h, nn0, midS_get _ _ _ _ _ _ h, encS1, encS, set_same _ _ _ hm, List.set_set, spliceL, hw3]
      repeat refine And.intro (by first | omega | (simp; done) | (simp; omega) | assumption) ?_
      intro sz2 hz2 hl2'
      refine CallMTo.of (c_laws_markEntryS false sz2 xs[i].res.reads _ (sz_of encE xs[i].res.reads 2 sz2 (fun _ => rfl) hl2') (by omega) (by omega)) ?_
      rintro r ls' ⟨rfl, rfl⟩ es2' he
      simp only [List.cons.injEq, AV.osl.injEq, and_true, true_and] at he
      subst he
      simp (config := { maxSteps := 4000000 }) only [go_sem, simprocAttr, ↓dnA, Tryz.f60, rows_length, midS_length _ _ _ _ _ hi, List.length_set, nlt h, h, nn0, midS_get _ _ _ _ _ _ h, encS1, encS, set_same _ _ _ hm, List.set_set, spliceL]
      repeat refine And.intro (by first | omega | (simp; done) | (simp; omega) | assumption) ?_
      intro sz2 hz2 hl2'
      refine CallMTo.of (c_laws_markEntryS false sz2 xs[i].res.writes _ (sz_of encE xs[i].res.writes 2 sz2 (fun _ => rfl) hl2') (by omega) (by omega)) ?_
      rintro r ls' ⟨rfl, rfl⟩ es2' he
      simp only [List.cons.injEq, AV.osl.injEq, and_true, true_and] at he
      subst he
      simp (config := { maxSteps := 4000000 }) only [go_sem, simprocAttr, ↓dnA, Tryz.f60, rows_length, midS_length _ _ _ _ _ hi, List.length_set, nlt h, h, nn0, midS_get _ _ _ _ _ _ h, encS1, encS, set_same _ _ _ hm, List.set_set, spliceL, wsucc h hx]
      refine ⟨i + 1, [(800, 800)], by omega, by dsimp only; omega, Weak.of (by rfl) ?_ ?_ (by rfl)⟩
      · simp (config := { maxSteps := 4000000 }) only [go_sem, simprocAttr, ↓dnA, Tryz.f60, frW, wk2, wk1, wkL, wkB, hpW, List.mem_cons, Prod.mk.injEq, exists_eq_left, exists_eq_right, exists_eq]
        exact hs.symm
      · simp (config := { maxSteps := 4000000 }) only [go_sem, simprocAttr, ↓dnA, Tryz.f60, hK, wsucc h hx, frW, wk2, wk1, wkL, wkB, hpW, List.mem_cons, Prod.mk.injEq, exists_eq_left, exists_eq_right, exists_eq]
    · have hi' : i = xs.length := by omega
      subst hi'
      simp (config := { maxSteps := 4000000 }) only [go_sem, simprocAttr, ↓dnA, Tryz.f60, nlf h, rows_length, midS_len, List.take_length, markS_length]

theorem c_laws_heldSlotS (n1 : Option Bool) (xs : List Slot) (k : Int) (hx : xs.length < 2 ^ 62) (hk : 0 ≤ k ∧ k + stepS stS xs < 2 ^ 62) :
    Det Tryz.prog 63 [.sl n1 (rows encS1 (markS mkS stS xs k)), .int .i64 k] (.int .i64 (k + stepS stS xs)) := by
  refine fspec_det tab_ok Tryz.call63 Tryz.func63 rfl 72 Tryz.ntmps63 (of_decide_eq_true rfl) fun B => codeK_sound tab_ok _ _ _ ?_
  simp (config := { maxSteps := 4000000 }) only [go_sem, simprocAttr, ↓dnA, Tryz.f63]
  refine semL_for tab_ok (fun i : Nat => ⟨72, [(0, .sl n1 (rows encS1 (markS mkS stS xs k))), (1, .int .i64 (k + (stepS stS (xs.take i) : Int))), (5, .int .i64 i)], []⟩) (fun i => xs.length - i)
    (fun i => i ≤ xs.length) 0 [] (Weak.of rfl trivial ?_ rfl) (by omega) ?_
  · simp (config := { maxSteps := 4000000 }) only [go_sem, simprocAttr, ↓dnA, Tryz.f63, List.take_zero, stepS, Int.add_zero, nc0, frW, wk2, wk1, wkL, wkB, hpW, List.mem_cons, Prod.mk.injEq, exists_eq_left, exists_eq_right, exists_eq]
  · rintro i hi
    by_cases h : i < xs.length
    · have hb := stepS_lt stS xs i h
      have hst : stS xs[i] = 3 + stepS stI xs[i].fr + stepS stE xs[i].res.reads + stepS stE xs[i].res.writes := rfl
      have hl1 := stepS_const stI 1 (fun _ => rfl) xs[i].fr
      have hl2 := stepS_const stE 2 (fun _ => rfl) xs[i].res.reads
      have hl3 := stepS_const stE 2 (fun _ => rfl) xs[i].res.writes
      have hK : k + (stepS stS (xs.take (i + 1)) : Int) = k + (stepS stS (xs.take i) : Int) + 1 + 1 + (stepS stI xs[i].fr : Int) + 1 + (stepS stE xs[i].res.reads : Int) + (stepS stE xs[i].res.writes : Int) := by rw [stepS_take_succ _ _ _ h, hst]; omega
      have hg := markS_rget encS1 mkS stS xs i k h
      generalize hKe : k + (stepS stS (xs.take i) : Int) = K at *
      have hw1 : IntKind.i64.wrap (K + 1) = K + 1 := wrap_small _ (by omega) (by omega)
      have hw2 : IntKind.i64.wrap (K + 1 + 1) = K + 1 + 1 := wrap_small _ (by omega) (by omega)
      have hw3 : IntKind.i64.wrap (K + 1 + 1 + (stepS stI xs[i].fr : Int) + 1) = K + 1 + 1 + (stepS stI xs[i].fr : Int) + 1 := wrap_small _ (by omega) (by omega)
      have d1 : decide (K + 1 + 1 + (stepS stI xs[i].fr : Int) < 0) = false := by simp; omega
      have d2 : decide (K + 1 + 1 + (stepS stI xs[i].fr : Int) + 1 + (stepS stE xs[i].res.reads : Int) < 0) = false := by simp; omega
      have d3 : decide (K + 1 + 1 + (stepS stI xs[i].fr : Int) + 1 + (stepS stE xs[i].res.reads : Int) + (stepS stE xs[i].res.writes : Int) < 0) = false := by simp; omega
      simp (config := { maxSteps := 4000000 }) only [go_sem, simprocAttr, ↓dnA, Tryz.f63, rows_length, markS_length, nlt h, h, nn0, hg, encS1, encS, mkS, hw1, hw2]
      refine CallTo.det (c_laws_heldIntS none xs[i].fr (K + 1 + 1) (by omega) (by omega)) fun _ => ?_
      simp (config := { maxSteps := 4000000 }) only [go_sem, simprocAttr, ↓dnA, Tryz.f63, rows_length, markS_length, nlt h, h, nn0, hg, encS1, encS, mkS, d1, hw3]
      repeat refine And.intro (by first | omega | (simp; done) | (simp; omega) | assumption) ?_
      refine CallTo.det (c_laws_heldEntryS none xs[i].res.reads _ (by omega) (by omega)) fun _ => ?_
      simp (config := { maxSteps := 4000000 }) only [go_sem, simprocAttr, ↓dnA, Tryz.f63, rows_length, markS_length, nlt h, h, nn0, hg, encS1, encS, mkS, d1, d2, hw3]
      repeat refine And.intro (by first | omega | (simp; done) | (simp; omega) | assumption) ?_
      refine CallTo.det (c_laws_heldEntryS none xs[i].res.writes _ (by omega) (by omega)) fun _ => ?_
      simp (config := { maxSteps := 4000000 }) only [go_sem, simprocAttr, ↓dnA, Tryz.f63, rows_length, markS_length, nlt h, h, nn0, hg, encS1, encS, mkS, d3, wsucc h hx]
      refine ⟨i + 1, [], by omega, by dsimp only; omega, Weak.of rfl trivial ?_ rfl⟩
      simp (config := { maxSteps := 4000000 }) only [go_sem, simprocAttr, ↓dnA, Tryz.f63, hK, wsucc h hx, frW, wk2, wk1, wkL, wkB, hpW, List.mem_cons, Prod.mk.injEq, exists_eq_left, exists_eq_right, exists_eq]
    · have hi' : i = xs.length := by omega
      subst hi'
      simp (config := { maxSteps := 4000000 }) only [go_sem, simprocAttr, ↓dnA, Tryz.f63, nlf h, rows_length, List.take_length, markS_length]

def stG (e : Engine) : Nat := stepS stE e.base + stepS stA e.list + stepS stR e.versions + stepS stS e.slots
def mkG (e : Engine) (k : Int) : Engine :=
  ⟨markS mkE stE e.base k, markS mkA stA e.list (k + (stepS stE e.base : Int)), markS mkR stR e.versions (k + (stepS stE e.base : Int) + (stepS stA e.list : Int)),
    markS mkS stS e.slots (k + (stepS stE e.base : Int) + (stepS stA e.list : Int) + (stepS stR e.versions : Int))⟩

theorem mkG_l1 (e : Engine) (k : Int) : (mkG e k).base.length = e.base.length := markS_length _ _ _ _
theorem mkG_l2 (e : Engine) (k : Int) : (mkG e k).list.length = e.list.length := markS_length _ _ _ _
theorem mkG_l3 (e : Engine) (k : Int) : (mkG e k).versions.length = e.versions.length := markS_length _ _ _ _
theorem mkG_l4 (e : Engine) (k : Int) : (mkG e k).slots.length = e.slots.length := markS_length _ _ _ _

theorem c_laws_markEngine (n1 n2 n3 n4 : Bool) (e : Engine) (k : Int) (hx : EngSz (2 ^ 62) e) (hk : 0 ≤ k ∧ k + stG e < 2 ^ 62) :
    FSpecM Tryz.prog 16 [.agg [.row 800 e.base.length, .row 801 e.list.length, .row 802 e.versions.length, .row 803 e.slots.length], .int .i64 k]
      [.osl n1 2 (rows encE e.base), .osl n2 4 (rows encA e.list), .osl n3 3 (rows encR e.versions), .osl n4 6 (rows encS1 e.slots)]
      (fun r ls' => r = .int .i64 (k + stG e) ∧ ls' = [.osl n1 2 (rows encE (mkG e k).base), .osl n2 4 (rows encA (mkG e k).list), .osl n3 3 (rows encR (mkG e k).versions), .osl n4 6 (rows encS1 (mkG e k).slots)]) := by
  refine fspec_introM tab_ok Tryz.call16 Tryz.func16 rfl 22 Tryz.ntmps16 (of_decide_eq_true rfl) (of_decide_eq_true rfl) fun B => codeK_sound tab_ok _ _ _ ?_
  unfold stG at hk ⊢
  have he : k + ((stepS stE e.base + stepS stA e.list + stepS stR e.versions + stepS stS e.slots : Nat) : Int) = k + (stepS stE e.base : Int) + (stepS stA e.list : Int) + (stepS stR e.versions : Int) + (stepS stS e.slots : Int) := by omega
  simp (config := { maxSteps := 4000000 }) only [go_sem, simprocAttr, ↓dnA, Tryz.f16, List.nodup_cons, rows_length]
  refine CallMTo.of (c_laws_markEntryS n1 2 e.base k (.inr rfl) hx.base ⟨hk.1, by omega⟩) ?_
  rintro r ls' ⟨rfl, rfl⟩
  simp (config := { maxSteps := 4000000 }) only [go_sem, simprocAttr, ↓dnA, Tryz.f16, List.nodup_cons, rows_length]
  refine CallMTo.of (c_laws_markActionS n2 4 e.list _ (.inr rfl) hx.list ⟨by omega, by omega⟩) ?_
  rintro r ls' ⟨rfl, rfl⟩
  simp (config := { maxSteps := 4000000 }) only [go_sem, simprocAttr, ↓dnA, Tryz.f16, List.nodup_cons, rows_length]
  refine CallMTo.of (c_laws_markVersionS n3 3 e.versions _ (.inr rfl) hx.versions ⟨by omega, by omega⟩) ?_
  rintro r ls' ⟨rfl, rfl⟩
  simp (config := { maxSteps := 4000000 }) only [go_sem, simprocAttr, ↓dnA, Tryz.f16, List.nodup_cons, rows_length]
  refine CallMTo.of (c_laws_markSlotS n4 e.slots _ hx.slots ⟨by omega, by omega⟩) ?_
  rintro r ls' ⟨rfl, rfl⟩
  simp (config := { maxSteps := 4000000 }) only [go_sem, simprocAttr, ↓dnA, Tryz.f16, List.nodup_cons, rows_length, markS_length, mkG, he]

theorem c_laws_heldEngine (n1 n2 n3 n4 : Option Bool) (e : Engine) (k : Int) (hx : EngSz (2 ^ 62) e) (hk : 0 ≤ k ∧ k + stG e < 2 ^ 62) :
    Det Tryz.prog 17 [.agg (encG n1 n2 n3 n4 (mkG e k)), .int .i64 k] (.int .i64 (k + stG e)) := by
  refine fspec_det tab_ok Tryz.call17 Tryz.func17 rfl 30 Tryz.ntmps17 (of_decide_eq_true rfl) fun B => codeK_sound tab_ok _ _ _ ?_
  unfold stG at hk ⊢
  have he : k + ((stepS stE e.base + stepS stA e.list + stepS stR e.versions + stepS stS e.slots : Nat) : Int) = k + (stepS stE e.base : Int) + (stepS stA e.list : Int) + (stepS stR e.versions : Int) + (stepS stS e.slots : Int) := by omega
  have d1 : decide (k + (stepS stE e.base : Int) < 0) = false := by simp; omega
  have d2 : decide (k + (stepS stE e.base : Int) + (stepS stA e.list : Int) < 0) = false := by simp; omega
  have d3 : decide (k + (stepS stE e.base : Int) + (stepS stA e.list : Int) + (stepS stR e.versions : Int) < 0) = false := by simp; omega
  have d4 : decide (k + (stepS stE e.base : Int) + (stepS stA e.list : Int) + (stepS stR e.versions : Int) + (stepS stS e.slots : Int) < 0) = false := by simp; omega
  unfold encG mkG
  simp (config := { maxSteps := 4000000 }) only [go_sem, simprocAttr, ↓dnA, Tryz.f17, List.nodup_cons, rows_length]
  refine CallTo.det (c_laws_heldEntryS n1 e.base k hx.base ⟨hk.1, by omega⟩) fun _ => ?_
  simp (config := { maxSteps := 4000000 }) only [go_sem, simprocAttr, ↓dnA, Tryz.f17, List.nodup_cons, rows_length, d1]
  refine CallTo.det (c_laws_heldActionS n2 e.list _ hx.list ⟨by omega, by omega⟩) fun _ => ?_
  simp (config := { maxSteps := 4000000 }) only [go_sem, simprocAttr, ↓dnA, Tryz.f17, List.nodup_cons, rows_length, d1, d2]
  refine CallTo.det (c_laws_heldVersionS n3 e.versions _ hx.versions ⟨by omega, by omega⟩) fun _ => ?_
  simp (config := { maxSteps := 4000000 }) only [go_sem, simprocAttr, ↓dnA, Tryz.f17, List.nodup_cons, rows_length, d1, d2, d3]
  refine CallTo.det (c_laws_heldSlotS n4 e.slots _ hx.slots ⟨by omega, by omega⟩) fun _ => ?_
  simp (config := { maxSteps := 4000000 }) only [go_sem, simprocAttr, ↓dnA, Tryz.f17, List.nodup_cons, rows_length, d1, d2, d3, d4, he]

end Go.Proofs.YteebkimhfaodnaaGreat

/- Contracts: the laws' sizes and copies of engines. -/
set_option linter.unusedSimpArgs false
set_option linter.unusedVariables false
set_option maxRecDepth 20000
set_option maxHeartbeats 4000000
namespace Go.Proofs.YteebkimhfaodnaaGreat
open Go Go.RowKit

theorem szI_add {left : Int} {a b : Nat} (h : ¬ szI left a < 0) : szI (szI left a) b = szI left (a + b) := by
  unfold szI at *
  by_cases h1 : left - (a : Int) < 0
  · rw [if_pos h1] at h; omega
  · simp only [if_neg h1] at h ⊢
    by_cases h2 : left - (a : Int) - (b : Int) < 0
    · rw [if_pos h2, if_pos (by omega)]
    · rw [if_neg h2, if_neg (by omega)]; omega
theorem szI_over {left : Int} {a : Nat} (b : Nat) (h : szI left a < 0) : szI left (a + b) = -1 := by
  unfold szI at *
  by_cases h1 : left - (a : Int) < 0
  · rw [if_pos (by omega)]
  · rw [if_neg h1] at h; omega

theorem szI_neg {left : Int} {a : Nat} (h : szI left a < 0) : szI left a = -1 := by
  have := szI_over 0 h
  simpa using this

/-- How much a slot, an engine is. -/
def ssz (s : Slot) : Nat := s.fr.length + (s.res.reads.length + s.res.writes.length)
def ssum : List Slot → Nat
  | [] => 0
  | s :: r => ssz s + ssum r
theorem ssum_cons (s : Slot) (r : List Slot) : ssum (s :: r) = ssz s + ssum r := rfl
theorem ssum_mem : ∀ (l : List Slot) (s : Slot), s ∈ l → ssz s ≤ ssum l
  | [], s, h => by cases h
  | c :: r, s, h => by
    unfold ssum
    rcases List.mem_cons.1 h with rfl | h
    · omega
    · have := ssum_mem r s h; omega
def gsz (e : Engine) : Nat := e.base.length + (e.list.length + (e.versions.length + (e.slots.length + ssum e.slots)))

structure SlotLen (s : Slot) : Prop where
  fr : s.fr.length ≤ 9223372036854775807
  reads : s.res.reads.length ≤ 9223372036854775807
  writes : s.res.writes.length ≤ 9223372036854775807
structure EngLen (e : Engine) : Prop where
  base : e.base.length ≤ 9223372036854775807
  list : e.list.length ≤ 9223372036854775807
  versions : e.versions.length ≤ 9223372036854775807
  slots : e.slots.length ≤ 9223372036854775807
  each : ∀ s, s ∈ e.slots → SlotLen s
theorem gsz_sz {e : Engine} {n : Nat} (h : gsz e < n) : EngSz n e := by
  unfold gsz at h
  refine ⟨by omega, by omega, by omega, by omega, fun s hs => ?_⟩
  have h1 := ssum_mem _ _ hs
  unfold ssz at h1
  exact ⟨by omega, by omega, by omega⟩

theorem c_laws_szVersionS (n1 : Option Bool) (xs : List Version) (left : Int) (hx : xs.length ≤ 9223372036854775807) (hl : 0 ≤ left ∧ left ≤ 1048576) : Det Tryz.prog 45 [.sl n1 (rows encR xs), .int .i64 left] (.int .i64 (szI left xs.length)) := by
  refine fspec_det tab_ok Tryz.call45 Tryz.func45 rfl 12 Tryz.ntmps45 (of_decide_eq_true rfl) fun B => codeK_sound tab_ok _ _ _ ?_
  have hw : IntKind.i64.wrap (left - (xs.length : Int)) = left - xs.length := wrap_small _ (by omega) (by omega)
  by_cases h : left - (xs.length : Int) < 0
  · simp (config := { maxSteps := 4000000 }) only [go_sem, simprocAttr, ↓dnA, Tryz.f45, rows_length, hw, decide_eq_true h, szI, h]
  · simp (config := { maxSteps := 4000000 }) only [go_sem, simprocAttr, ↓dnA, Tryz.f45, rows_length, hw, decide_eq_false h, szI, h]

theorem c_laws_szEffect (n1 n2 : Option Bool) (x : Effect) (left : Int) (h1 : x.reads.length ≤ 9223372036854775807) (h2 : x.writes.length ≤ 9223372036854775807) (hl : 0 ≤ left ∧ left ≤ 1048576) :
    Det Tryz.prog 137 [.agg (encF n1 n2 x), .int .i64 left] (.int .i64 (szI left (x.reads.length + x.writes.length))) := by
  refine fspec_det tab_ok Tryz.call137 Tryz.func137 rfl 18 Tryz.ntmps137 (of_decide_eq_true rfl) fun B => codeK_sound tab_ok _ _ _ ?_
  have hb := szI_bd (n := x.reads.length) hl.2
  simp (config := { maxSteps := 4000000 }) only [go_sem, simprocAttr, ↓dnA, Tryz.f137, encF]
  refine CallTo.det (c_laws_szEntryS n1 x.reads left h1 hl) fun _ => ?_
  cases d1 : decide (szI left x.reads.length < 0) with
  | true => simp (config := { maxSteps := 4000000 }) only [go_sem, simprocAttr, ↓dnA, Tryz.f137, encF, d1, szI_over x.writes.length (of_decide_eq_true d1)]
  | false =>
    have d1' := of_decide_eq_false d1
    rw [← szI_add d1']
    have hb2 := szI_bd (left := szI left x.reads.length) (n := x.writes.length) hb.1
    simp (config := { maxSteps := 4000000 }) only [go_sem, simprocAttr, ↓dnA, Tryz.f137, encF, d1]
    refine CallTo.det (c_laws_szEntryS n2 x.writes _ h2 ⟨by omega, hb.1⟩) fun _ => ?_
    cases d2 : decide (szI (szI left x.reads.length) x.writes.length < 0) with
    | true =>
      have e2 : szI (szI left x.reads.length) x.writes.length = -1 := szI_neg (of_decide_eq_true d2)
      simp (config := { maxSteps := 4000000 }) only [go_sem, simprocAttr, ↓dnA, Tryz.f137, encF, d2, e2]
    | false => simp (config := { maxSteps := 4000000 }) only [go_sem, simprocAttr, ↓dnA, Tryz.f137, encF, d2]

theorem c_laws_szSlot (n1 n2 n3 : Option Bool) (x : Slot) (left : Int) (h : SlotLen x) (hl : 0 ≤ left ∧ left ≤ 1048576) :
    Det Tryz.prog 89 [.agg (encS n1 n2 n3 x), .int .i64 left] (.int .i64 (szI left (ssz x))) := by
  refine fspec_det tab_ok Tryz.call89 Tryz.func89 rfl 18 Tryz.ntmps89 (of_decide_eq_true rfl) fun B => codeK_sound tab_ok _ _ _ ?_
  have hb := szI_bd (n := x.fr.length) hl.2
  simp (config := { maxSteps := 4000000 }) only [go_sem, simprocAttr, ↓dnA, Tryz.f89, encS]
  refine CallTo.det (c_laws_szIntS n1 x.fr left h.fr hl) fun _ => ?_
  unfold ssz
  cases d1 : decide (szI left x.fr.length < 0) with
  | true => simp (config := { maxSteps := 4000000 }) only [go_sem, simprocAttr, ↓dnA, Tryz.f89, encS, d1, szI_over (x.res.reads.length + x.res.writes.length) (of_decide_eq_true d1)]
  | false =>
    have d1' := of_decide_eq_false d1
    rw [← szI_add d1']
    simp (config := { maxSteps := 4000000 }) only [go_sem, simprocAttr, ↓dnA, Tryz.f89, encS, d1]
    refine CallTo.det (c_laws_szEffect n2 n3 x.res _ h.reads h.writes ⟨by omega, hb.1⟩) fun _ => ?_
    cases d2 : decide (szI (szI left x.fr.length) (x.res.reads.length + x.res.writes.length) < 0) with
    | true =>
      have e2 : szI (szI left x.fr.length) (x.res.reads.length + x.res.writes.length) = -1 := szI_neg (of_decide_eq_true d2)
      simp (config := { maxSteps := 4000000 }) only [go_sem, simprocAttr, ↓dnA, Tryz.f89, encS, d2, e2]
    | false => simp (config := { maxSteps := 4000000 }) only [go_sem, simprocAttr, ↓dnA, Tryz.f89, encS, d2]

theorem c_laws_szSlotS (n1 : Option Bool) (xs : List Slot) (left : Int) (hx : xs.length ≤ 9223372036854775807) (hb : ∀ b, b ∈ xs → SlotLen b) (hl : 0 ≤ left ∧ left ≤ 1048576) : Det Tryz.prog 46 [.sl n1 (rows encS1 xs), .int .i64 left] (.int .i64 (szI left (xs.length + ssum xs))) := by
  refine fspec_det tab_ok Tryz.call46 Tryz.func46 rfl 27 Tryz.ntmps46 (of_decide_eq_true rfl) fun B => codeK_sound tab_ok _ _ _ ?_
  have hw : IntKind.i64.wrap (left - (xs.length : Int)) = left - xs.length := wrap_small _ (by omega) (by omega)
  cases h : decide (left - (xs.length : Int) < 0) with
  | true =>
    have hz : szI left (xs.length + ssum xs) = -1 := szI_over _ (by unfold szI; rw [if_pos (of_decide_eq_true h)]; decide)
    simp (config := { maxSteps := 4000000 }) only [go_sem, simprocAttr, ↓dnA, Tryz.f46, rows_length, hw, h, hz]
  | false =>
    have h' := of_decide_eq_false h
    have h0 : szI left xs.length = left - xs.length := by unfold szI; rw [if_neg h']
    have hz : szI left (xs.length + ssum xs) = szI (left - xs.length) (ssum xs) := by rw [← h0, szI_add (by omega)]
    rw [hz]
    simp (config := { maxSteps := 4000000 }) only [go_sem, simprocAttr, ↓dnA, Tryz.f46, rows_length, hw, h]
    refine semL_for tab_ok (fun p : Nat × Int => ⟨27, [(0, .sl n1 (rows encS1 xs)), (1, .int .i64 p.2), (5, .int .i64 p.1)], []⟩) (fun p => xs.length - p.1)
      (fun p => p.1 ≤ xs.length ∧ (0 ≤ p.2 ∧ p.2 ≤ 1048576) ∧ szI p.2 (ssum (xs.drop p.1)) = szI (left - xs.length) (ssum xs)) (0, left - xs.length) [] (Weak.of (by rfl) trivial ?_ (by rfl)) ⟨by omega, by dsimp only; omega, rfl⟩ ?_
    · simp (config := { maxSteps := 4000000 }) only [go_sem, simprocAttr, ↓dnA, Tryz.f46, frW, wk2, wk1, wkL, wkB, hpW, List.mem_cons, Prod.mk.injEq, exists_eq_left, exists_eq_right, exists_eq]
    · rintro ⟨i, l⟩ ⟨hi, hlb, hp⟩
      dsimp only at hi hlb hp
      by_cases h : i < xs.length
      · rw [drop_cons xs i h] at hp
        rw [ssum_cons] at hp
        simp (config := { maxSteps := 4000000 }) only [go_sem, simprocAttr, ↓dnA, Tryz.f46, rows_length, rows_get _ _ _ h, encS1, encS, nlt h, nn0]
        refine CallTo.det (c_laws_szSlot none none none xs[i] l (hb _ (List.getElem_mem h)) hlb) fun _ => ?_
        cases h2 : decide (szI l (ssz xs[i]) < 0) with
        | true =>
          rw [szI_over _ (of_decide_eq_true h2)] at hp
          simp (config := { maxSteps := 4000000 }) only [go_sem, simprocAttr, ↓dnA, Tryz.f46, h2, hp.symm]
        | false =>
          have h2' := of_decide_eq_false h2
          rw [← szI_add h2'] at hp
          have hb2 := szI_bd (left := l) (n := ssz xs[i]) hlb.2
          simp (config := { maxSteps := 4000000 }) only [go_sem, simprocAttr, ↓dnA, Tryz.f46, h2, wsucc h (by omega : xs.length < 2 ^ 62)]
          refine ⟨(i + 1, szI l (ssz xs[i])), [], ⟨by dsimp only; omega, by dsimp only; omega, hp⟩, by dsimp only; omega, Weak.of (by rfl) trivial ?_ (by rfl)⟩
          simp (config := { maxSteps := 4000000 }) only [go_sem, simprocAttr, ↓dnA, Tryz.f46, frW, wk2, wk1, wkL, wkB, hpW, List.mem_cons, Prod.mk.injEq, exists_eq_left, exists_eq_right, exists_eq]
      · have : i = xs.length := by omega
        subst this
        rw [List.drop_length] at hp
        have hl0 : szI l (ssum []) = l := by unfold szI ssum; rw [if_neg (by omega)]; omega
        rw [hl0] at hp
        simp (config := { maxSteps := 4000000 }) only [go_sem, simprocAttr, ↓dnA, Tryz.f46, rows_length, nlf h, ← hp]

theorem c_laws_szEngine (n1 n2 n3 n4 : Option Bool) (e : Engine) (left : Int) (h : EngLen e) (hl : 0 ≤ left ∧ left ≤ 1048576) :
    Det Tryz.prog 11 [.agg (encG n1 n2 n3 n4 e), .int .i64 left] (.int .i64 (szI left (gsz e))) := by
  refine fspec_det tab_ok Tryz.call11 Tryz.func11 rfl 30 Tryz.ntmps11 (of_decide_eq_true rfl) fun B => codeK_sound tab_ok _ _ _ ?_
  unfold gsz
  have hb := szI_bd (n := e.base.length) hl.2
  simp (config := { maxSteps := 4000000 }) only [go_sem, simprocAttr, ↓dnA, Tryz.f11, encG]
  refine CallTo.det (c_laws_szEntryS n1 e.base left h.base hl) fun _ => ?_
  cases d1 : decide (szI left e.base.length < 0) with
  | true => simp (config := { maxSteps := 4000000 }) only [go_sem, simprocAttr, ↓dnA, Tryz.f11, encG, d1, szI_over (e.list.length + (e.versions.length + (e.slots.length + ssum e.slots))) (of_decide_eq_true d1)]
  | false =>
    have d1' := of_decide_eq_false d1
    rw [← szI_add d1']
    generalize szI left e.base.length = l1 at *
    have hb1 := szI_bd (n := e.list.length) hb.1
    simp (config := { maxSteps := 4000000 }) only [go_sem, simprocAttr, ↓dnA, Tryz.f11, encG, d1]
    refine CallTo.det (c_laws_szActionS n2 e.list l1 h.list ⟨by omega, hb.1⟩) fun _ => ?_
    cases d2 : decide (szI l1 e.list.length < 0) with
    | true => simp (config := { maxSteps := 4000000 }) only [go_sem, simprocAttr, ↓dnA, Tryz.f11, encG, d2, szI_over (e.versions.length + (e.slots.length + ssum e.slots)) (of_decide_eq_true d2)]
    | false =>
      have d2' := of_decide_eq_false d2
      rw [← szI_add d2']
      generalize szI l1 e.list.length = l2 at *
      have hb2 := szI_bd (n := e.versions.length) hb1.1
      simp (config := { maxSteps := 4000000 }) only [go_sem, simprocAttr, ↓dnA, Tryz.f11, encG, d2]
      refine CallTo.det (c_laws_szVersionS n3 e.versions l2 h.versions ⟨by omega, hb1.1⟩) fun _ => ?_
      cases d3 : decide (szI l2 e.versions.length < 0) with
      | true => simp (config := { maxSteps := 4000000 }) only [go_sem, simprocAttr, ↓dnA, Tryz.f11, encG, d3, szI_over (e.slots.length + ssum e.slots) (of_decide_eq_true d3)]
      | false =>
        have d3' := of_decide_eq_false d3
        rw [← szI_add d3']
        generalize szI l2 e.versions.length = l3 at *
        simp (config := { maxSteps := 4000000 }) only [go_sem, simprocAttr, ↓dnA, Tryz.f11, encG, d3]
        refine CallTo.det (c_laws_szSlotS n4 e.slots l3 h.slots h.each ⟨by omega, hb2.1⟩) fun _ => ?_
        cases d4 : decide (szI l3 (e.slots.length + ssum e.slots) < 0) with
        | true =>
          have e4 : szI l3 (e.slots.length + ssum e.slots) = -1 := szI_neg (of_decide_eq_true d4)
          simp (config := { maxSteps := 4000000 }) only [go_sem, simprocAttr, ↓dnA, Tryz.f11, encG, d4, e4]
        | false => simp (config := { maxSteps := 4000000 }) only [go_sem, simprocAttr, ↓dnA, Tryz.f11, encG, d4]

theorem c_laws_toVersion (a : Version) : Det Tryz.prog 100 [.agg (encR a)] (.agg (encR a)) := by
  refine fspec_det tab_ok Tryz.call100 Tryz.func100 rfl 14 Tryz.ntmps100 (of_decide_eq_true rfl) fun B => codeK_sound tab_ok _ _ _ ?_
  unfold encR
  simp (config := { maxSteps := 4000000 }) only [go_sem, simprocAttr, ↓dnA, Tryz.f100]

theorem c_laws_toVersionS (n1 : Option Bool) (xs : List Version) (hx : xs.length < 2 ^ 32) :
    Det Tryz.prog 51 [.sl n1 (rows encR xs)] (.osl true 3 (rows encR xs)) := by
  refine fspec_det tab_ok Tryz.call51 Tryz.func51 rfl 23 Tryz.ntmps51 (of_decide_eq_true rfl) fun B => codeK_sound tab_ok _ _ _ ?_
  have hx62 : xs.length < 2 ^ 62 := by omega
  simp (config := { maxSteps := 4000000 }) only [go_sem, simprocAttr, ↓dnA, Tryz.f51, rows_length]
  repeat refine And.intro (by first | omega | (simp; done) | (simp; omega) | assumption) ?_
  refine semL_for tab_ok (fun i : Nat => ⟨23, [(0, .sl n1 (rows encR xs)), (3, .row 7 xs.length), (4, .int .i64 i)], [(7, .row true true 3 (rows encR (xs.take i ++ List.replicate (xs.length - i) (⟨0, 0, 0⟩ : Version))))]⟩) (fun i => xs.length - i)
    (fun i => i ≤ xs.length) 0 [(7, 7)] (Weak.of (by rfl) ?_ ?_ (by rfl)) (by omega) ?_
  · simp (config := { maxSteps := 4000000 }) only [go_sem, simprocAttr, ↓dnA, Tryz.f51, frW, wk2, wk1, wkL, wkB, hpW, List.mem_cons, Prod.mk.injEq, exists_eq_left, exists_eq_right, exists_eq]
    simp [rows, encR, encBk]
    all_goals exact Or.inr rfl
  · simp (config := { maxSteps := 4000000 }) only [go_sem, simprocAttr, ↓dnA, Tryz.f51, frW, wk2, wk1, wkL, wkB, hpW, List.mem_cons, Prod.mk.injEq, exists_eq_left, exists_eq_right, exists_eq]
  · rintro i hi
    by_cases h : i < xs.length
    · have hm : i < (xs.take i ++ List.replicate (xs.length - i) (⟨0, 0, 0⟩ : Version)).length := by simp; omega
      simp (config := { maxSteps := 4000000 }) only [go_sem, simprocAttr, ↓dnA, Tryz.f51, rows_length, rows_get _ _ _ h, encR, encBk, nlt h, nn0]
      refine CallTo.det (c_laws_toVersion xs[i]) fun _ => ?_
      simp (config := { maxSteps := 4000000 }) only [go_sem, simprocAttr, ↓dnA, Tryz.f51, rows_length, rows_get _ _ _ h, rows_get _ _ _ hm, hm, encR, encBk, encBkO, nlt h, nn0, wsucc h hx62]
      repeat refine And.intro (by first | omega | (simp; done) | (simp; omega) | assumption) ?_
      refine ⟨i + 1, [(7, 7)], by omega, by dsimp only; omega, Weak.of (by rfl) ?_ ?_ (by rfl)⟩
      · simp (config := { maxSteps := 4000000 }) only [go_sem, simprocAttr, ↓dnA, Tryz.f51, frW, wk2, wk1, wkL, wkB, hpW, List.mem_cons, Prod.mk.injEq, exists_eq_left, exists_eq_right, exists_eq]
        first
          | done
          | (refine (congrArg (rows encR) (fill_step xs (⟨0, 0, 0⟩ : Version) (⟨0, 0, 0⟩ : Version) i h)).symm.trans ?_; rw [← rows_set, getD_at _ _ _ h]; rfl)
      · simp (config := { maxSteps := 4000000 }) only [go_sem, simprocAttr, ↓dnA, Tryz.f51, wsucc h hx62, frW, wk2, wk1, wkL, wkB, hpW, List.mem_cons, Prod.mk.injEq, exists_eq_left, exists_eq_right, exists_eq]
    · have : i = xs.length := by omega
      subst this
      simp (config := { maxSteps := 4000000 }) only [go_sem, simprocAttr, ↓dnA, Tryz.f51, rows_length, nlf h]
      simp


theorem c_laws_toEffect (n1 n2 : Option Bool) (x : Effect) (h1 : x.reads.length < 2 ^ 32) (h2 : x.writes.length < 2 ^ 32) :
    Det Tryz.prog 142 [.agg (encF n1 n2 x)] (.agg [.bool x.done, .osl true 2 (rows encE x.reads), .osl true 2 (rows encE x.writes)]) := by
  refine fspec_det tab_ok Tryz.call142 Tryz.func142 rfl 16 Tryz.ntmps142 (of_decide_eq_true rfl) fun B => codeK_sound tab_ok _ _ _ ?_
  simp (config := { maxSteps := 4000000 }) only [go_sem, simprocAttr, ↓dnA, Tryz.f142, encF]
  refine CallTo.det (c_laws_toEntryS _ _ h1) fun _ => ?_
  simp (config := { maxSteps := 4000000 }) only [go_sem, simprocAttr, ↓dnA, Tryz.f142, encF, rows_length]
  refine CallTo.det (c_laws_toEntryS _ _ h2) fun _ => ?_
  simp (config := { maxSteps := 4000000 }) only [go_sem, simprocAttr, ↓dnA, Tryz.f142, encF, rows_length]
  try simp

theorem c_laws_toSlot (n1 n2 n3 : Option Bool) (x : Slot) (h : SlotSz (2 ^ 32) x) :
    Det Tryz.prog 101 [.agg (encS n1 n2 n3 x)] (.agg [.int .i64 x.stage, .int .i64 x.tries, .osl true 1 (rows encI x.fr), .bool x.res.done, .osl true 2 (rows encE x.res.reads), .osl true 2 (rows encE x.res.writes)]) := by
  refine fspec_det tab_ok Tryz.call101 Tryz.func101 rfl 19 Tryz.ntmps101 (of_decide_eq_true rfl) fun B => codeK_sound tab_ok _ _ _ ?_
  simp (config := { maxSteps := 4000000 }) only [go_sem, simprocAttr, ↓dnA, Tryz.f101, encS]
  refine CallTo.det (c_laws_toIntS _ _ h.fr) fun _ => ?_
  simp (config := { maxSteps := 4000000 }) only [go_sem, simprocAttr, ↓dnA, Tryz.f101, encS, rows_length]
  refine CallTo.det (c_laws_toEffect n2 n3 x.res h.reads h.writes) fun _ => ?_
  simp (config := { maxSteps := 4000000 }) only [go_sem, simprocAttr, ↓dnA, Tryz.f101, encS, rows_length]
  try simp

theorem c_laws_toSlotS (n1 : Option Bool) (xs : List Slot) (hx : xs.length < 2 ^ 32) (hl : ∀ b, b ∈ xs → SlotSz (2 ^ 32) b) :
    Det Tryz.prog 52 [.sl n1 (rows encS1 xs)] (.osl true 6 (rows encS1 xs)) := by
  refine fspec_det tab_ok Tryz.call52 Tryz.func52 rfl 23 Tryz.ntmps52 (of_decide_eq_true rfl) fun B => codeK_sound tab_ok _ _ _ ?_
  have hx62 : xs.length < 2 ^ 62 := by omega
  simp (config := { maxSteps := 4000000 }) only [go_sem, simprocAttr, ↓dnA, Tryz.f52, encS1, encS, rows_length]
  repeat refine And.intro (by first | omega | (simp; done) | (simp; omega) | assumption) ?_
  refine semL_for tab_ok (fun i : Nat => ⟨23, [(0, .sl n1 (rows encS1 xs)), (3, .row 7 xs.length), (4, .int .i64 i)], [(7, .row true true 6 (rows encS1 (xs.take i ++ List.replicate (xs.length - i) slot0)))]⟩) (fun i => xs.length - i)
    (fun i => i ≤ xs.length) 0 [(7, 7)] (Weak.of (by rfl) ?_ ?_ (by rfl)) (by omega) ?_
  · simp (config := { maxSteps := 4000000 }) only [go_sem, simprocAttr, ↓dnA, Tryz.f52, encS1, encS, frW, wk2, wk1, wkL, wkB, hpW, List.mem_cons, Prod.mk.injEq, exists_eq_left, exists_eq_right, exists_eq]
    simp [rows, encS1, encBk]
    all_goals exact Or.inr rfl
  · simp (config := { maxSteps := 4000000 }) only [go_sem, simprocAttr, ↓dnA, Tryz.f52, encS1, encS, frW, wk2, wk1, wkL, wkB, hpW, List.mem_cons, Prod.mk.injEq, exists_eq_left, exists_eq_right, exists_eq]
  · rintro i hi
    by_cases h : i < xs.length
    · have hm : i < (xs.take i ++ List.replicate (xs.length - i) slot0).length := by simp; omega
      simp (config := { maxSteps := 4000000 }) only [go_sem, simprocAttr, ↓dnA, Tryz.f52, encS1, encS, rows_length, rows_get _ _ _ h, encS1, encBk, nlt h, nn0]
      refine CallTo.det (c_laws_toSlot none none none xs[i] (hl _ (List.getElem_mem h))) fun _ => ?_
      simp (config := { maxSteps := 4000000 }) only [go_sem, simprocAttr, ↓dnA, Tryz.f52, encS1, encS, rows_length, rows_get _ _ _ h, rows_get _ _ _ hm, hm, encS1, encBk, encBkO, nlt h, nn0, wsucc h hx62]
      repeat refine And.intro (by first | omega | (simp; done) | (simp; omega) | assumption) ?_
      refine ⟨i + 1, [(7, 7)], by omega, by dsimp only; omega, Weak.of (by rfl) ?_ ?_ (by rfl)⟩
      · simp (config := { maxSteps := 4000000 }) only [go_sem, simprocAttr, ↓dnA, Tryz.f52, encS1, encS, frW, wk2, wk1, wkL, wkB, hpW, List.mem_cons, Prod.mk.injEq, exists_eq_left, exists_eq_right, exists_eq]
        first
          | done
          | (refine (congrArg (rows encS1) (fill_step xs slot0 slot0 i h)).symm.trans ?_; rw [← rows_set, getD_at _ _ _ h]; rfl)
      · simp (config := { maxSteps := 4000000 }) only [go_sem, simprocAttr, ↓dnA, Tryz.f52, encS1, encS, wsucc h hx62, frW, wk2, wk1, wkL, wkB, hpW, List.mem_cons, Prod.mk.injEq, exists_eq_left, exists_eq_right, exists_eq]
    · have : i = xs.length := by omega
      subst this
      simp (config := { maxSteps := 4000000 }) only [go_sem, simprocAttr, ↓dnA, Tryz.f52, encS1, encS, rows_length, nlf h]
      simp


theorem c_laws_toEngine (n1 n2 n3 n4 : Option Bool) (e : Engine) (h : EngSz (2 ^ 32) e) :
    Det Tryz.prog 13 [.agg (encG n1 n2 n3 n4 e)] (.agg (encGO e)) := by
  refine fspec_det tab_ok Tryz.call13 Tryz.func13 rfl 21 Tryz.ntmps13 (of_decide_eq_true rfl) fun B => codeK_sound tab_ok _ _ _ ?_
  simp (config := { maxSteps := 4000000 }) only [go_sem, simprocAttr, ↓dnA, Tryz.f13, encG, encGO]
  refine CallTo.det (c_laws_toEntryS _ _ h.base) fun _ => ?_
  simp (config := { maxSteps := 4000000 }) only [go_sem, simprocAttr, ↓dnA, Tryz.f13, rows_length]
  refine CallTo.det (c_laws_toActionS _ _ h.list) fun _ => ?_
  simp (config := { maxSteps := 4000000 }) only [go_sem, simprocAttr, ↓dnA, Tryz.f13, rows_length]
  refine CallTo.det (c_laws_toVersionS _ _ h.versions) fun _ => ?_
  simp (config := { maxSteps := 4000000 }) only [go_sem, simprocAttr, ↓dnA, Tryz.f13, rows_length]
  refine CallTo.det (c_laws_toSlotS _ _ h.slots h.each) fun _ => ?_
  simp (config := { maxSteps := 4000000 }) only [go_sem, simprocAttr, ↓dnA, Tryz.f13, rows_length, encGO]
  try simp


end Go.Proofs.YteebkimhfaodnaaGreat

/- Arguments of the laws, by their types: engines. -/
set_option linter.unusedSimpArgs false
namespace Go.Proofs.YteebkimhfaodnaaGreat
open Go Go.RowKit

theorem Leqs.app {r c r' c' : List AV} (h : Leqs r c) (h' : Leqs r' c') : Leqs (r ++ r') (c ++ c') := by
  refine ⟨by simp [h.1, h'.1], fun j hj => ?_⟩
  by_cases e : j < c.length
  · rw [getD_append_left _ _ _ _ (by rw [h.1]; exact e), getD_append_left _ _ _ _ e]
    exact h.2 j e
  · have hr := h.1
    rw [getD_append_right _ _ _ _ (by omega), getD_append_right _ _ _ _ (by omega), hr]
    exact h'.2 _ (by rw [List.length_append] at hj; omega)

theorem ty_versionC {cs : List AV} (h : Ty tab 126 cs) : ∃ e : Version, cs = encR e := by
  obtain ⟨ps, rfl, hl, hp⟩ := h.struct_inv tabAt_126 rfl
  match ps, hl with
  | [p, q, r], _ =>
    obtain ⟨x, hx, _⟩ := ty_int (hp 0 (by decide))
    obtain ⟨y, hy, _⟩ := ty_int (hp 1 (by decide))
    obtain ⟨z, hz, _⟩ := ty_int (hp 2 (by decide))
    have hx : p = _ := hx
    have hy : q = _ := hy
    have hz : r = _ := hz
    subst hx; subst hy; subst hz
    exact ⟨⟨x, y, z⟩, rfl⟩

theorem ty_effectC {cs : List AV} (h : Ty tab 113 cs) : ∃ e : Effect, Leqs cs (encF none none e) ∧ e.reads.length ≤ 9223372036854775807 ∧ e.writes.length ≤ 9223372036854775807 := by
  obtain ⟨ps, rfl, hl, hp⟩ := h.struct_inv tabAt_113 rfl
  match ps, hl with
  | [p1, p2, p3], _ =>
    obtain ⟨b, hb⟩ := ty_bool (hp 0 (by decide))
    obtain ⟨_, x2, l2, _, _, h2⟩ := ty_slice encE (fun _ => True) (hp 1 (by decide)) tabAt_22 rfl fun r hr => by
      obtain ⟨a, rfl⟩ := ty_entry hr
      exact ⟨a, trivial, Leqs.refl _⟩
    obtain ⟨_, x3, l3, _, _, h3⟩ := ty_slice encE (fun _ => True) (hp 2 (by decide)) tabAt_22 rfl fun r hr => by
      obtain ⟨a, rfl⟩ := ty_entry hr
      exact ⟨a, trivial, Leqs.refl _⟩
    have hb : p1 = _ := hb
    have h2 : Leqs p2 _ := h2
    have h3 : Leqs p3 _ := h3
    subst hb
    have := (Leqs.refl [AV.bool b]).app (h2.app (h3.app (Leqs.refl [])))
    exact ⟨⟨b, x2, x3⟩, by simpa [encF] using this, l2, l3⟩

theorem ty_slotC {cs : List AV} (h : Ty tab 115 cs) : ∃ e : Slot, Leqs cs (encS1 e) ∧ SlotLen e := by
  obtain ⟨ps, rfl, hl, hp⟩ := h.struct_inv tabAt_115 rfl
  match ps, hl with
  | [p1, p2, p3, p4], _ =>
    obtain ⟨x, hx, _⟩ := ty_int (hp 0 (by decide))
    obtain ⟨y, hy, _⟩ := ty_int (hp 1 (by decide))
    obtain ⟨_, x3, l3, _, _, h3⟩ := ty_slice encI (fun _ => True) (hp 2 (by decide)) tabAt_41 rfl fun r hr => by
      obtain ⟨a, rfl, _⟩ := ty_int hr
      exact ⟨a, trivial, Leqs.refl _⟩
    obtain ⟨f, h4, l4, l5⟩ := ty_effectC (hp 3 (by decide))
    have hx : p1 = _ := hx
    have hy : p2 = _ := hy
    have h3 : Leqs p3 _ := h3
    have h4 : Leqs p4 _ := h4
    subst hx; subst hy
    have := (Leqs.refl [AV.int .i64 x]).app ((Leqs.refl [AV.int .i64 y]).app (h3.app (h4.app (Leqs.refl []))))
    exact ⟨⟨x, y, x3, f⟩, by simpa [encF, encS1, encS] using this, l3, l4, l5⟩

theorem ty_engineC {cs : List AV} (h : Ty tab 27 cs) : ∃ (n1 n2 n3 n4 : Option Bool) (e : Engine), Leqs cs (encG n1 n2 n3 n4 e) ∧ EngLen e := by
  obtain ⟨ps, rfl, hl, hp⟩ := h.struct_inv tabAt_27 rfl
  match ps, hl with
  | [p1, p2, p3, p4], _ =>
    obtain ⟨n1, x1, l1, _, h1, _⟩ := ty_slice encE (fun _ => True) (hp 0 (by decide)) tabAt_22 rfl fun r hr => by
      obtain ⟨a, rfl⟩ := ty_entry hr
      exact ⟨a, trivial, Leqs.refl _⟩
    obtain ⟨n2, x2, l2, _, h2, _⟩ := ty_slice encA (fun _ => True) (hp 1 (by decide)) tabAt_23 rfl fun r hr => by
      obtain ⟨a, rfl⟩ := ty_action hr
      exact ⟨a, trivial, Leqs.refl _⟩
    obtain ⟨n3, x3, l3, _, h3, _⟩ := ty_slice encR (fun _ => True) (hp 2 (by decide)) tabAt_24 rfl fun r hr => by
      obtain ⟨a, rfl⟩ := ty_versionC hr
      exact ⟨a, trivial, Leqs.refl _⟩
    obtain ⟨n4, x4, l4, m4, h4, _⟩ := ty_slice encS1 SlotLen (hp 3 (by decide)) tabAt_25 rfl fun r hr => by
      obtain ⟨a, g1, g2⟩ := ty_slotC hr
      exact ⟨a, g2, g1⟩
    have h1 : Leqs p1 _ := h1
    have h2 : Leqs p2 _ := h2
    have h3 : Leqs p3 _ := h3
    have h4 : Leqs p4 _ := h4
    have := h1.app (h2.app (h3.app (h4.app (Leqs.refl []))))
    exact ⟨n1, n2, n3, n4, ⟨x1, x2, x3, x4⟩, by simpa [encG] using this, ⟨l1, l2, l3, l4, m4⟩⟩

theorem ty_engine {a : AV} (h : TyArg tab 27 a) : ∃ (n1 n2 n3 n4 : Option Bool) (e : Engine), Leq a (.agg (encG n1 n2 n3 n4 e)) ∧ EngLen e := by
  obtain ⟨cs, rfl, h2⟩ := h.agg_inv tabAt_27 rfl
  obtain ⟨n1, n2, n3, n4, t, h3, h4⟩ := ty_engineC h2
  exact ⟨n1, n2, n3, n4, t, h3.agg, h4⟩

theorem ty_intsG {a : AV} (h : TyArg tab 41 a) : ∃ (n : Option Bool) (xs : List Int), Leq a (.sl n (rows encI xs)) ∧ xs.length ≤ 9223372036854775807 := by
  obtain ⟨n, xs, h1, _, h2, _⟩ := ty_slice encI (fun _ => True) (h.one_inv tabAt_41 rfl) tabAt_41 rfl fun r hr => by
    obtain ⟨b, rfl, _⟩ := ty_int hr
    exact ⟨b, trivial, Leqs.refl _⟩
  exact ⟨n, xs, h2.2 0 (by simp), h1⟩

end Go.Proofs.YteebkimhfaodnaaGreat

