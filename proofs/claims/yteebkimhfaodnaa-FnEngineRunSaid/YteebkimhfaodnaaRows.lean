/-
  No cell of these rows narrows 'for every input' (looked for: loops, veiled, ifaces, maps, wideKeys, modest, calm, conditions, laid).
  DERIVED. THE GIVEN ROWS OF THIS SEAT. 4 by the template 'for every input the law returns true; each argument reads behind the call as it read before'; 0 by the template 'total and deterministic' (their statements: YteebkimhfaodnaaTotals.lean).
  GIVEN WITH THE SEED: the statements are not yours to turn. If you find one false, say at which input.
  Laid BY PROGRAM, IN A SANDBOX (cutbox-rows.mjs): the forced cells as the released guide's own fill.sh prints them over the translation f2f1d74aa9366376… (all of the seat's roots in one cut). By AI agents, Wed Nov 11 2026. No macro, syntax, notation, axiom, sorry.
-/
import Derived.Test.YteebkimhfaodnaaChecked
import GoSem.Claim
import GoSem.ClaimJoined
import GoSem.ClaimMapViews
import Derived.JoinedTies
import Derived.KernelRfl
namespace Go.Proofs.Yteebkimhfaodnaa
/- THE CELL 'sum', in the pinned program and in every row, IS THE sha256 OF THE DUMP (.gsa) THAT YteebkimhfaodnaaProg.lean LOADS. Nothing in Lean hashes anything: it is a label: what it is worth is what the hold of that sum in a sandbox is worth. -/
noncomputable def Try.pinned : Pinned := { name := "yteebkimhfaodnaa", sum := "f2f1d74aa9366376c9e0eb9d5edb8803946e937624751e930fc164ed7b323be2", checked := Try.checked }
namespace Rows
def none {H : Type} : Left H := { results := [], args := [] }

/-- 'laws.FnEngineOf': WHATEVER THE INPUT: true; the input reads as it did. -/
def fnEngineOfSpec : ChangeSpec := { name := "fnEngineOf", fn := fun _ => fun
  | [d] => { results := [.lit (.bool true)], args := [d] }
  | _ => none }
def fnEngineOfRow : OpenClaim := { program := "yteebkimhfaodnaa", sum := "f2f1d74aa9366376c9e0eb9d5edb8803946e937624751e930fc164ed7b323be2", func := "loop.example/blockexecutor/laws.FnEngineOf", spec := "fnEngineOf", unfollowed := true, recurses := true, apart := false }
def FnEngineOfSaid : Prop := fnEngineOfRow.holds Try.pinned (OpenSpec.ofChange fnEngineOfSpec)

/-- ITS FALSE NEIGHBOUR: 'it returns false'. Refute it at one input. -/
def fnEngineOfWrong : ChangeSpec := { name := "fnEngineOf", fn := fun _ => fun
  | [d] => { results := [.lit (.bool false)], args := [d] }
  | _ => none }
def FnEngineOfWrongFalsely : Prop := fnEngineOfRow.holds Try.pinned (OpenSpec.ofChange fnEngineOfWrong)

/-- 'laws.FnEngineReverse': WHATEVER THE INPUT: true; the input reads as it did. -/
def fnEngineReverseSpec : ChangeSpec := { name := "fnEngineReverse", fn := fun _ => fun
  | [d] => { results := [.lit (.bool true)], args := [d] }
  | _ => none }
def fnEngineReverseRow : OpenClaim := { program := "yteebkimhfaodnaa", sum := "f2f1d74aa9366376c9e0eb9d5edb8803946e937624751e930fc164ed7b323be2", func := "loop.example/blockexecutor/laws.FnEngineReverse", spec := "fnEngineReverse", unfollowed := true, recurses := true, apart := false }
def FnEngineReverseSaid : Prop := fnEngineReverseRow.holds Try.pinned (OpenSpec.ofChange fnEngineReverseSpec)

/-- ITS FALSE NEIGHBOUR: 'it returns false'. Refute it at one input. -/
def fnEngineReverseWrong : ChangeSpec := { name := "fnEngineReverse", fn := fun _ => fun
  | [d] => { results := [.lit (.bool false)], args := [d] }
  | _ => none }
def FnEngineReverseWrongFalsely : Prop := fnEngineReverseRow.holds Try.pinned (OpenSpec.ofChange fnEngineReverseWrong)

/-- 'laws.FnTriesOf': WHATEVER THE INPUT: true; the input reads as it did. -/
def fnTriesOfSpec : ChangeSpec := { name := "fnTriesOf", fn := fun _ => fun
  | [d] => { results := [.lit (.bool true)], args := [d] }
  | _ => none }
def fnTriesOfRow : OpenClaim := { program := "yteebkimhfaodnaa", sum := "f2f1d74aa9366376c9e0eb9d5edb8803946e937624751e930fc164ed7b323be2", func := "loop.example/blockexecutor/laws.FnTriesOf", spec := "fnTriesOf", unfollowed := true, recurses := true, apart := false }
def FnTriesOfSaid : Prop := fnTriesOfRow.holds Try.pinned (OpenSpec.ofChange fnTriesOfSpec)

/-- ITS FALSE NEIGHBOUR: 'it returns false'. Refute it at one input. -/
def fnTriesOfWrong : ChangeSpec := { name := "fnTriesOf", fn := fun _ => fun
  | [d] => { results := [.lit (.bool false)], args := [d] }
  | _ => none }
def FnTriesOfWrongFalsely : Prop := fnTriesOfRow.holds Try.pinned (OpenSpec.ofChange fnTriesOfWrong)

/-- 'laws.FnEngineRun': WHATEVER THE INPUT: true; the input reads as it did. -/
def fnEngineRunSpec : ChangeSpec := { name := "fnEngineRun", fn := fun _ => fun
  | [d] => { results := [.lit (.bool true)], args := [d] }
  | _ => none }
def fnEngineRunRow : OpenClaim := { program := "yteebkimhfaodnaa", sum := "f2f1d74aa9366376c9e0eb9d5edb8803946e937624751e930fc164ed7b323be2", func := "loop.example/blockexecutor/laws.FnEngineRun", spec := "fnEngineRun", unfollowed := true, recurses := true, apart := false }
def FnEngineRunSaid : Prop := fnEngineRunRow.holds Try.pinned (OpenSpec.ofChange fnEngineRunSpec)

/-- ITS FALSE NEIGHBOUR: 'it returns false'. Refute it at one input. -/
def fnEngineRunWrong : ChangeSpec := { name := "fnEngineRun", fn := fun _ => fun
  | [d] => { results := [.lit (.bool false)], args := [d] }
  | _ => none }
def FnEngineRunWrongFalsely : Prop := fnEngineRunRow.holds Try.pinned (OpenSpec.ofChange fnEngineRunWrong)

/- THE SECOND FORM. 'bulk': how many values and letters a reading holds, each counted each time it is reached (what is shared counts as often as it is met; a slice's spare places count too). A statement '..UptoSaid' is the law's where the arguments, and the package variables that the reading takes, are together of bulk at most 1048576: NARROWER than '..Said'. Prove '..Said' where nothing that the law and all that it calls make is longer than what came in: it says more and counts as full. Else prove '..UptoSaid'. A law counts once. -/
mutual
def uptoBulk {H : Type} : DataW H → Nat
  | .lit (.string bytes) => bytes.length + 1
  | .lit _ => 1
  | .nil => 1
  | .ptr d => uptoBulk d + 1
  | .slice elems spare => uptoBulkAll elems + uptoBulkAll spare + 1
  | .agg parts => uptoBulkAll parts + 1
  | .iface _ d => uptoBulk d + 1
  | .map entries => uptoBulkEntries entries + 1
  | .held _ => 1
def uptoBulkAll {H : Type} : List (DataW H) → Nat
  | [] => 0
  | d :: r => uptoBulk d + uptoBulkAll r
def uptoBulkEntries {H : Type} : List (Lit × DataW H) → Nat
  | [] => 0
  | x :: r => uptoBulkEntry x + uptoBulkEntries r
def uptoBulkEntry {H : Type} : Lit × DataW H → Nat
  | (.string bytes, d) => bytes.length + uptoBulk d + 1
  | (_, d) => uptoBulk d + 1
 end
def uptoSmall : (H : Type) → List (DataW H) → Bool := fun _ ds => decide (uptoBulkAll ds ≤ 1048576)
def OpenSpec.upto (s : _root_.Go.ChangeSpec) : _root_.Go.OpenSpec := { _root_.Go.OpenSpec.ofChange s with cond := some uptoSmall }

/-- 'laws.FnEngineOf', WHERE WHAT IT READS IS OF BULK AT MOST 1048576: true; the input reads as it did. -/
def fnEngineOfUptoRow : OpenClaim := { program := "yteebkimhfaodnaa", sum := "f2f1d74aa9366376c9e0eb9d5edb8803946e937624751e930fc164ed7b323be2", func := "loop.example/blockexecutor/laws.FnEngineOf", spec := "fnEngineOf", unfollowed := true, recurses := true, apart := false, narrowed := true }
def FnEngineOfUptoSaid : Prop := fnEngineOfUptoRow.holds Try.pinned (OpenSpec.upto fnEngineOfSpec)

/-- 'laws.FnEngineReverse', WHERE WHAT IT READS IS OF BULK AT MOST 1048576: true; the input reads as it did. -/
def fnEngineReverseUptoRow : OpenClaim := { program := "yteebkimhfaodnaa", sum := "f2f1d74aa9366376c9e0eb9d5edb8803946e937624751e930fc164ed7b323be2", func := "loop.example/blockexecutor/laws.FnEngineReverse", spec := "fnEngineReverse", unfollowed := true, recurses := true, apart := false, narrowed := true }
def FnEngineReverseUptoSaid : Prop := fnEngineReverseUptoRow.holds Try.pinned (OpenSpec.upto fnEngineReverseSpec)

/-- 'laws.FnTriesOf', WHERE WHAT IT READS IS OF BULK AT MOST 1048576: true; the input reads as it did. -/
def fnTriesOfUptoRow : OpenClaim := { program := "yteebkimhfaodnaa", sum := "f2f1d74aa9366376c9e0eb9d5edb8803946e937624751e930fc164ed7b323be2", func := "loop.example/blockexecutor/laws.FnTriesOf", spec := "fnTriesOf", unfollowed := true, recurses := true, apart := false, narrowed := true }
def FnTriesOfUptoSaid : Prop := fnTriesOfUptoRow.holds Try.pinned (OpenSpec.upto fnTriesOfSpec)

/-- 'laws.FnEngineRun', WHERE WHAT IT READS IS OF BULK AT MOST 1048576: true; the input reads as it did. -/
def fnEngineRunUptoRow : OpenClaim := { program := "yteebkimhfaodnaa", sum := "f2f1d74aa9366376c9e0eb9d5edb8803946e937624751e930fc164ed7b323be2", func := "loop.example/blockexecutor/laws.FnEngineRun", spec := "fnEngineRun", unfollowed := true, recurses := true, apart := false, narrowed := true }
def FnEngineRunUptoSaid : Prop := fnEngineRunUptoRow.holds Try.pinned (OpenSpec.upto fnEngineRunSpec)

end Rows
end Go.Proofs.Yteebkimhfaodnaa
