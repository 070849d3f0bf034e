/- The table of types, the operations that compute or read, and why each of them is right. -/
import Derived.Test.YtdaemhaecjldaaaAi2
namespace Go.Proofs.Ytdaemhaecjldaaa
open Go Go.RowKit

inductive TK where
  | int (k : IntKind)
  | bool
  | slice (e : TypeId)
  | struct (fs : List (Nat × TypeId))
  | arr (n : Nat) (e : TypeId)
  | map (k e : TypeId)
  | other

structure TI where
  k : TK
  size : Nat
  bytes : Nat
  flat : Bool
  eqs : Bool
  zc : List AV

def TI.agg (i : TI) : Bool := match i.k with
  | .struct _ => true
  | .arr _ _ => true
  | _ => false

abbrev Tab := TypeId → Option TI

def zCell : Value → AV → Bool
  | .int k n, .int k' n' => k == k' && n == n'
  | .bool b, .bool b' => b == b'
  | .slice none 0 0, .sl (some false) [] => true
  | v, .top => v.oneCell'
  | _, _ => false

def zCells : List Value → List AV → Bool
  | [], [] => true
  | v :: vs, a :: as => zCell v a && zCells vs as
  | _, _ => false

def tkOk : TypeDesc → TK → Bool
  | .int k, .int k' => k == k'
  | .bool, .bool => true
  | .slice e, .slice e' => e == e'
  | .struct fs, .struct gs => fs.toList.map (fun f => (f.offset, f.type)) == gs
  | .array n e, .arr n' e' => n == n' && e == e'
  | .map k e, .map k' e' => k == k' && e == e'
  | .int _, _ => false
  | .bool, _ => false
  | .slice _, _ => false
  | .struct _, _ => false
  | .array _ _, _ => false
  | .map _ _, _ => false
  | _, .other => true
  | _, _ => false

/-- The fields of a struct that '==' looks at are numbers, one cell each, in order. -/
def eqFieldsOk (P : Program) : Nat → List Field → Bool
  | _, [] => true
  | n, f :: fs => f.offset == n && f.name != "_" && (match P.underlying f.type with | some (.int _) => true | _ => false) && eqFieldsOk P (n + 1) fs

def eqsOk (P : Program) (t : TypeId) (size : Nat) : Bool :=
  !P.eqGuardType P.depth t && !P.stoodInHeld t && (match P.underlying t with | some (.struct fs) => fs.size == size && eqFieldsOk P 0 fs.toList | _ => false)

/-- A row of the table is right: a closed fact of the program. -/
def tiOk (P : Program) (t : TypeId) (i : TI) : Bool :=
  match P.info? t, P.underlying t with
  | some info, some d => info.size == i.size && info.bytes == i.bytes && tkOk d i.k && (!i.eqs || eqsOk P t i.size) && (match d with | .struct fs => fs.toList.all (fun f => (P.info? f.type).isSome) | _ => true) &&
      (match info.zero with | some z => zCells z.cells.toList i.zc && z.cells.size == i.size | none => false)
  | _, _ => false

structure TabOk (P : Program) (T : Tab) : Prop where
  ok : ∀ t i, T t = some i → tiOk P t i = true

structure TIok (P : Program) (t : TypeId) (i : TI) (nf : TypeInfo) (d : TypeDesc) (z : Value) : Prop where
  info : P.info? t = some nf
  und : P.underlying t = some d
  size : nf.size = i.size
  bytes : nf.bytes = i.bytes
  tk : tkOk d i.k = true
  eqs : i.eqs = true → eqsOk P t i.size = true
  fields : ∀ fs, d = .struct fs → ∀ f, f ∈ fs.toList → (P.info? f.type).isSome = true
  zero : nf.zero = some z
  zc : zCells z.cells.toList i.zc = true
  zs : z.cells.size = i.size

theorem TabOk.get {P : Program} {T : Tab} (h : TabOk P T) {t : TypeId} {i : TI} (ht : T t = some i) : ∃ info d z, TIok P t i info d z := by
  have := h.ok t i ht
  unfold tiOk at this
  split at this
  · rename_i info d h1 h2
    simp only [Bool.and_eq_true, beq_iff_eq] at this
    obtain ⟨⟨⟨⟨⟨h3, h4⟩, h5⟩, he⟩, hf⟩, h6⟩ := this
    split at h6
    · rename_i z hz
      simp only [Bool.and_eq_true, beq_iff_eq] at h6
      exact ⟨info, d, z, h1, h2, h3, h4, h5, (fun e => by simpa [e] using he), (fun fs e f hm => by subst e; exact List.all_eq_true.1 hf f hm), hz, h6.1, h6.2⟩
    · cases h6
  · cases this

section
variable {P : Program} {t : TypeId} {i : TI} {info : TypeInfo} {d : TypeDesc} {z : Value} (h : TIok P t i info d z) (w : World)
include h
theorem TIok.run_size : (sizeOf t).run P w = .ok i.size w := by simp [sizeOf, typeInfo, h.info, h.size]
theorem TIok.run_info : (typeInfo t).run P w = .ok info w := by simp [typeInfo, h.info]
theorem TIok.run_zero : (zeroValue t).run P w = .ok z w := by simp [zeroValue, typeInfo, h.info, h.zero]
theorem TIok.run_und : (underlying t).run P w = .ok d w := run_underlying h.und w
theorem TIok.run_agg : (isAgg t).run P w = .ok i.agg w := by
  have := h.tk
  unfold isAgg
  rw [Sem.run_bind, h.run_und w]
  unfold TI.agg
  cases d <;> cases hk : i.k <;> simp_all [tkOk]
end

def evC : Value → AV
  | .int k n => .int k n
  | .bool b => .bool b
  | .slice a n c => if a.isNone && n == 0 && c == 0 then .sl (some false) [] else .top
  | .func (.func f) x y => if x.size = 0 ∧ y.size = 0 then .fn f [] else .top
  | _ => .top

def AState.ev (s : AState) : Operand → AV
  | .tmp t => s.get t
  | .const v => evC v
  | .global _ => .top
  | .func f => .fn f []

section
variable {X : Ctx} {kd : Nat → Kd} {w : World} {v : Value}
theorem VRel.int_inv {k : IntKind} {n : Int} (h : VRel X kd w v (.int k n)) : v = .int k n := by
  cases h with | pure h => cases h; rfl
theorem VRel.bool_inv {b : Bool} (h : VRel X kd w v (.bool b)) : v = .bool b := by
  cases h with | pure h => cases h; rfl
theorem VRel.sl_inv {nn : Option Bool} {es : List (List AV)} (h : VRel X kd w v (.sl nn es)) : Reads w X.Sh v (.sl nn es) := by
  cases h with | pure h => exact h
theorem VRel.fn_inv {f : FuncId} {cs : List AV} (h : VRel X kd w v (.fn f cs)) : Reads w X.Sh v (.fn f cs) := by
  cases h with | pure h => exact h
theorem VRel.agg_inv {cs : List AV} (h : VRel X kd w v (.agg cs)) : ∃ vs : Array Value, v = .agg vs ∧ vs.size = cs.length ∧ ∀ (i : Nat) (_ : i < cs.length), VRel X kd w (vs.getD i undef) (cs.getD i .top) := by
  cases h with
  | pure h => cases h with | agg vs cs hl h => exact ⟨vs, rfl, hl, fun i hi => .pure (h i hi)⟩
  | agg vs cs hl h => exact ⟨vs, rfl, hl, h⟩
theorem VRel.tup_inv {cs : List AV} (h : VRel X kd w v (.tup cs)) : ∃ vs : Array Value, v = .tuple vs ∧ vs.size = cs.length ∧ ∀ (i : Nat) (_ : i < cs.length), VRel X kd w (vs.getD i undef) (cs.getD i .top) := by
  cases h with
  | pure h => cases h with | tup vs cs hl h => exact ⟨vs, rfl, hl, fun i hi => .pure (h i hi)⟩
  | tup vs cs hl h => exact ⟨vs, rfl, hl, h⟩
theorem VRel.pel_inv {cs : List AV} (h : VRel X kd w v (.pel cs)) : ∃ (b o : Nat) (f : Nat → Value), v = .pointer (some ⟨b, o, none⟩) ∧ 0 < cs.length ∧ X.Sh b ∧
    (∀ (j : Nat) (_ : j < cs.length), w.cell? ⟨b, o + j, none⟩ = some (f j)) ∧ ∀ (j : Nat) (_ : j < cs.length), Reads w X.Sh (f j) (cs.getD j .top) := by
  cases h with
  | pure h => cases h
  | pel cs b o f hl hS hc h => exact ⟨b, o, f, rfl, hl, hS, hc, h⟩
theorem VRel.loc_inv {id off : Nat} (h : VRel X kd w v (.loc id off)) (hk : kd id = .var) : ∃ b, v = .pointer (some ⟨b, off, none⟩) ∧ X.at_ id = some b := by
  cases h with
  | pure h => cases h
  | loc id off b hk hi => exact ⟨b, rfl, hi⟩
  | locD v id off h1 hk' => rw [hk] at hk'; cases hk'
theorem VRel.elt_inv {id i off sz : Nat} (h : VRel X kd w v (.elt id i off)) (hk : kd id = .row sz) : ∃ b, v = .pointer (some ⟨b, i * sz + off, none⟩) ∧ X.at_ id = some b := by
  cases h with
  | pure h => cases h
  | elt id i off sz' b hk' hi => rw [hk] at hk'; cases hk'; exact ⟨b, rfl, hi⟩
  | eltD v id i off h1 hk' => rw [hk] at hk'; cases hk'
theorem VRel.row_inv {id n sz : Nat} (h : VRel X kd w v (.row id n)) (hk : kd id = .row sz) : (∃ b, v = .slice (some ⟨b, 0, none⟩) n (X.cap id) ∧ X.at_ id = some b) ∨ (v = .slice none 0 0 ∧ n = 0 ∧ X.at_ id = none) := by
  cases h with
  | pure h => cases h
  | row id n sz' b hk' hi => exact .inl ⟨b, rfl, hi⟩
  | rowN id sz' hk' hi => exact .inr ⟨rfl, rfl, hi⟩
  | rowD v id n h1 hk' => rw [hk] at hk'; cases hk'
theorem VRel.may_inv {g : Bool} {a : AV} (h : VRel X kd w v (.may g a)) (hg : g = true) : VRel X kd w v a := by
  cases h with
  | pure h => cases h
  | may g v a h => exact h hg
end

/-- The values of one cell. -/
def AV.one : AV → Bool
  | .int _ _ => true
  | .bool _ => true
  | .sl _ _ => true
  | .fn _ _ => true
  | .loc _ _ => true
  | .elt _ _ _ => true
  | .pel _ => true
  | .row _ _ => true
  | _ => false

theorem VRel.one {X : Ctx} {kd : Nat → Kd} {w : World} {v : Value} {a : AV} (h : VRel X kd w v a) (h1 : a.one = true) : v.oneCell' = true := by
  cases h with
  | top v => cases h1
  | pure h => cases h <;> first | rfl | cases h1
  | agg => cases h1
  | tup => cases h1
  | loc => rfl
  | locD v id off h1' hk => exact h1'
  | elt => rfl
  | eltD v id i off h1' hk => exact h1'
  | pel => rfl
  | row => rfl
  | rowN => rfl
  | rowD v id n h1' hk => exact h1'
  | may => cases h1

theorem evC_rel (X : Ctx) (kd : Nat → Kd) (w : World) (v : Value) : VRel X kd w v (evC v) := by
  unfold evC
  split
  · exact .pure (.int _ _)
  · exact .pure (.bool _)
  · split
    · rename_i hc
      simp only [Bool.and_eq_true, Option.isNone_iff_eq_none, beq_iff_eq] at hc
      obtain ⟨⟨rfl, rfl⟩, rfl⟩ := hc
      exact .pure (.nil _ (by simp))
    · exact .top _
  · split
    · rename_i f x y hc
      have hx : x = #[] := Array.size_eq_zero_iff.1 hc.1
      have hy : y = #[] := Array.size_eq_zero_iff.1 hc.2
      subst hx; subst hy
      exact .pure (.fn _ #[] [] rfl (fun i hi => absurd hi (by simp)))
    · exact .top _
  · exact .top _

theorem R.ev {X : Ctx} {s : AState} {a : Act} {w : World} (h : R X s a w) (x : Operand) : VRel X s.kds w (a.eval x) (s.ev x) := by
  cases x with
  | tmp t => exact h.fr t
  | const v => exact evC_rel _ _ _ v
  | global g => exact .top _
  | func f => exact .pure (.fn _ #[] [] rfl (fun i hi => absurd hi (by simp)))

theorem getL_put {β : Type} (d : β) (k : Nat) (v : β) (r : List (Nat × β)) (i : Nat) : getL d ((k, v) :: r) i = if i = k then v else getL d r i := rfl

/-- Putting a value into a slot. -/
theorem R.put {X : Ctx} {s : AState} {a : Act} {w : World} (h : R X s a w) {dst : Option Nat} {v : Value} {av : AV} (hv : VRel X s.kds w v av) (hd : ∀ d, dst = some d → d < s.nt) : R X (s.put dst av) (a.put dst v) w := by
  cases dst with
  | none => exact h
  | some d =>
    have hk : (s.put (some d) av).kds = s.kds := rfl
    refine ⟨?_, h.df, ?_, h.bl, h.ow, h.os, h.tape, h.output, h.size, h.old, h.bx⟩
    · simp only [Act.put, Array.size_setIfInBounds]; exact h.nt
    · intro i
      rw [hk]
      show VRel X s.kds w ((a.tmps.setIfInBounds d v).getD i undef) (getL .top ((d, av) :: s.fr) i)
      rw [getL_cons]
      by_cases hi : i = d
      · subst hi
        rw [if_pos rfl]
        have : i < a.tmps.size := by rw [h.nt]; exact hd i rfl
        simpa [Array.getD, this] using hv
      · rw [if_neg hi]
        have e : (a.tmps.setIfInBounds d v).getD i undef = a.tmps.getD i undef := by
          simp only [Array.getD_eq_getD_getElem?]
          rw [Array.getElem?_setIfInBounds_ne (Ne.symm hi)]
        rw [e]; exact h.fr i

end Go.Proofs.Ytdaemhaecjldaaa
