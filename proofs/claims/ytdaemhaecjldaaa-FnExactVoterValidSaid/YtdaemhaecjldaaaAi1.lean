/- The abstract values of the interpreter, what it means that a value reads as pure data in a world, and how such readings are carried from world to world. -/
import Derived.WalkKit
import Derived.WalkSpells
import Derived.WalkLawsBesides
namespace Go.Proofs.Ytdaemhaecjldaaa
open Go Go.RowKit

/-- Abstract values. 'sl': an immutable slice read as a list of rows of cells. 'row id n': the first n elements of the owned row 'id'. 'loc': the address of a cell of an own variable; 'elt': of a cell of an element of an own row; 'pel': of cells of immutable data. 'osl', 'box': at the boundary of a call alone. -/
inductive AV where
  | top
  | int (k : IntKind) (n : Int)
  | bool (b : Bool)
  | sl (nn : Option Bool) (es : List (List AV))
  | fn (f : FuncId) (caps : List AV)
  | agg (cs : List AV)
  | tup (vs : List AV)
  | loc (id off : Nat)
  | elt (id i off : Nat)
  | pel (cs : List AV)
  | row (id n : Nat)
  | may (g : Bool) (v : AV)
  | osl (nn : Bool) (sz : Nat) (es : List (List AV))
  | box (cs : List AV)

instance : Inhabited AV := ⟨.top⟩

/-- The value v reads as the pure datum in the world w; the blocks that are looked at lie in S. -/
inductive Reads (w : World) (S : Nat → Prop) : Value → AV → Prop where
  | int (k : IntKind) (n : Int) : Reads w S (.int k n) (.int k n)
  | bool (b : Bool) : Reads w S (.bool b) (.bool b)
  | fn (f : FuncId) (vs : Array Value) (cs : List AV) (hl : vs.size = cs.length) (h : ∀ (i : Nat) (_ : i < cs.length), Reads w S (vs.getD i undef) (cs.getD i .top)) :
      Reads w S (.func (.func f) #[] vs) (.fn f cs)
  | agg (vs : Array Value) (cs : List AV) (hl : vs.size = cs.length) (h : ∀ (i : Nat) (_ : i < cs.length), Reads w S (vs.getD i undef) (cs.getD i .top)) :
      Reads w S (.agg vs) (.agg cs)
  | tup (vs : Array Value) (cs : List AV) (hl : vs.size = cs.length) (h : ∀ (i : Nat) (_ : i < cs.length), Reads w S (vs.getD i undef) (cs.getD i .top)) :
      Reads w S (.tuple vs) (.tup cs)
  | nil (nn : Option Bool) (hn : nn ≠ some true) : Reads w S (.slice none 0 0) (.sl nn [])
  | empty (a : Addr) (cap : Nat) (nn : Option Bool) (hn : nn ≠ some false) : Reads w S (.slice (some a) 0 cap) (.sl nn [])
  | slice (b o cap sz : Nat) (nn : Option Bool) (es : List (List AV)) (f : Nat → Nat → Value) (hn : nn ≠ some false) (hsz : ∀ e ∈ es, e.length = sz) (hz : 0 < sz) (hS : es ≠ [] → S b) (hcap : es.length ≤ cap)
      (hc : ∀ (i j : Nat) (_ : i < es.length) (_ : j < sz), w.cell? ⟨b, o + i * sz + j, none⟩ = some (f i j))
      (h : ∀ (i j : Nat) (_ : i < es.length) (_ : j < sz), Reads w S (f i j) ((es.getD i []).getD j .top)) :
      Reads w S (.slice (some ⟨b, o, none⟩) es.length cap) (.sl nn es)

theorem Reads.mono {w : World} {S S' : Nat → Prop} (hS : ∀ b, S b → S' b) {v : Value} {a : AV} (h : Reads w S v a) : Reads w S' v a := by
  induction h with
  | int k n => exact .int k n
  | bool b => exact .bool b
  | fn f vs cs hl _ ih => exact .fn f vs cs hl ih
  | agg vs cs hl _ ih => exact .agg vs cs hl ih
  | tup vs cs hl _ ih => exact .tup vs cs hl ih
  | nil nn hn => exact .nil nn hn
  | empty a cap nn hn => exact .empty a cap nn hn
  | slice b o cap sz nn es f hn hsz hz hSb hcap hc _ ih => exact .slice b o cap sz nn es f hn hsz hz (fun e => hS _ (hSb e)) hcap hc ih

/-- Readings are carried to a world in which the blocks looked at are as they were. -/
theorem Reads.step {w w' : World} {S S' : Nat → Prop} (hw : ∀ b, S b → b < w.heap.size → w'.heap[b]? = w.heap[b]? ∧ S' b) {v : Value} {a : AV} (h : Reads w S v a) : Reads w' S' v a := by
  induction h with
  | int k n => exact .int k n
  | bool b => exact .bool b
  | fn f vs cs hl _ ih => exact .fn f vs cs hl ih
  | agg vs cs hl _ ih => exact .agg vs cs hl ih
  | tup vs cs hl _ ih => exact .tup vs cs hl ih
  | nil nn hn => exact .nil nn hn
  | empty a cap nn hn => exact .empty a cap nn hn
  | slice b o cap sz nn es f hn hsz hz hSb hcap hc _ ih =>
    have hlt : es ≠ [] → b < w.heap.size := fun he => World.block_lt_of_cell? w _ (hc 0 0 (List.length_pos_iff.2 he) hz)
    refine .slice b o cap sz nn es f hn hsz hz (fun e => (hw b (hSb e) (hlt e)).2) hcap ?_ ih
    intro i j hi hj
    have he : es ≠ [] := fun e => by rw [e] at hi; exact absurd hi (Nat.not_lt_zero _)
    rw [← hc i j hi hj]
    exact World.cell?_of_block (hw b (hSb he) (hlt he)).1

end Go.Proofs.Ytdaemhaecjldaaa
