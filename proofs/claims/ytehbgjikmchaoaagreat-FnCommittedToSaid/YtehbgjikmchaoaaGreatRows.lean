/-
  No cell of these rows narrows 'for every input' (looked for: loops, veiled, ifaces, maps, wideKeys, modest, calm, conditions, laid).
  DERIVED. THE GIVEN ROWS OF THIS SEAT. 3 by the template 'for every input the law returns true; each argument reads behind the call as it read before'; 0 by the template 'total and deterministic' (their statements: YtehbgjikmchaoaaGreatTotals.lean).
  GIVEN WITH THE SEED: the statements are not yours to turn. If you find one false, say at which input.
  Laid BY PROGRAM, IN A SANDBOX (cutbox-rows.mjs): the forced cells as the released guide's own fill.sh prints them over the translation d03d9c9449c14b35… (all of the seat's roots in one cut). By AI agents, Wed Nov 11 2026. No macro, syntax, notation, axiom, sorry.
-/
import Derived.Test.YtehbgjikmchaoaaGreatChecked
import GoSem.Claim
import GoSem.ClaimJoined
import GoSem.ClaimMapViews
import Derived.JoinedTies
import Derived.KernelRfl
namespace Go.Proofs.YtehbgjikmchaoaaGreat
/- THE CELL 'sum', in the pinned program and in every row, IS THE sha256 OF THE DUMP (.gsa) THAT YtehbgjikmchaoaaGreatProg.lean LOADS. Nothing in Lean hashes anything: it is a label: what it is worth is what the hold of that sum in a sandbox is worth. -/
noncomputable def Tryz.pinned : Pinned := { name := "ytehbgjikmchaoaagreat", sum := "d03d9c9449c14b353ef1088b8e0a6e8fed68f6bc69c835b4417e3c651f9aa2d3", checked := Tryz.checked }
namespace Rows
def none {H : Type} : Left H := { results := [], args := [] }

/-- 'laws.FnCommittedTo': WHATEVER THE INPUT: true; the input reads as it did. -/
def fnCommittedToSpec : ChangeSpec := { name := "fnCommittedTo", fn := fun _ => fun
  | [d] => { results := [.lit (.bool true)], args := [d] }
  | _ => none }
def fnCommittedToRow : OpenClaim := { program := "ytehbgjikmchaoaagreat", sum := "d03d9c9449c14b353ef1088b8e0a6e8fed68f6bc69c835b4417e3c651f9aa2d3", func := "loop.example/blockexecutor/laws.FnCommittedTo", spec := "fnCommittedTo", unfollowed := true, recurses := true, apart := false }
def FnCommittedToSaid : Prop := fnCommittedToRow.holds Tryz.pinned (OpenSpec.ofChange fnCommittedToSpec)

/-- ITS FALSE NEIGHBOUR: 'it returns false'. Refute it at one input. -/
def fnCommittedToWrong : ChangeSpec := { name := "fnCommittedTo", fn := fun _ => fun
  | [d] => { results := [.lit (.bool false)], args := [d] }
  | _ => none }
def FnCommittedToWrongFalsely : Prop := fnCommittedToRow.holds Tryz.pinned (OpenSpec.ofChange fnCommittedToWrong)

/-- 'laws.FnCommitsAgree': WHATEVER THE INPUT: true; the input reads as it did. -/
def fnCommitsAgreeSpec : ChangeSpec := { name := "fnCommitsAgree", fn := fun _ => fun
  | [d] => { results := [.lit (.bool true)], args := [d] }
  | _ => none }
def fnCommitsAgreeRow : OpenClaim := { program := "ytehbgjikmchaoaagreat", sum := "d03d9c9449c14b353ef1088b8e0a6e8fed68f6bc69c835b4417e3c651f9aa2d3", func := "loop.example/blockexecutor/laws.FnCommitsAgree", spec := "fnCommitsAgree", unfollowed := true, recurses := true, apart := false }
def FnCommitsAgreeSaid : Prop := fnCommitsAgreeRow.holds Tryz.pinned (OpenSpec.ofChange fnCommitsAgreeSpec)

/-- ITS FALSE NEIGHBOUR: 'it returns false'. Refute it at one input. -/
def fnCommitsAgreeWrong : ChangeSpec := { name := "fnCommitsAgree", fn := fun _ => fun
  | [d] => { results := [.lit (.bool false)], args := [d] }
  | _ => none }
def FnCommitsAgreeWrongFalsely : Prop := fnCommitsAgreeRow.holds Tryz.pinned (OpenSpec.ofChange fnCommitsAgreeWrong)

/-- 'laws.FnWorldHead': WHATEVER THE INPUT: true; the input reads as it did. -/
def fnWorldHeadSpec : ChangeSpec := { name := "fnWorldHead", fn := fun _ => fun
  | [d] => { results := [.lit (.bool true)], args := [d] }
  | _ => none }
def fnWorldHeadRow : OpenClaim := { program := "ytehbgjikmchaoaagreat", sum := "d03d9c9449c14b353ef1088b8e0a6e8fed68f6bc69c835b4417e3c651f9aa2d3", func := "loop.example/blockexecutor/laws.FnWorldHead", spec := "fnWorldHead", unfollowed := true, recurses := true, apart := false }
def FnWorldHeadSaid : Prop := fnWorldHeadRow.holds Tryz.pinned (OpenSpec.ofChange fnWorldHeadSpec)

/-- ITS FALSE NEIGHBOUR: 'it returns false'. Refute it at one input. -/
def fnWorldHeadWrong : ChangeSpec := { name := "fnWorldHead", fn := fun _ => fun
  | [d] => { results := [.lit (.bool false)], args := [d] }
  | _ => none }
def FnWorldHeadWrongFalsely : Prop := fnWorldHeadRow.holds Tryz.pinned (OpenSpec.ofChange fnWorldHeadWrong)

/- THE SECOND FORM. 'bulk': how many values and letters a reading holds, each counted each time it is reached (what is shared counts as often as it is met; a slice's spare places count too). A statement '..UptoSaid' is the law's where the arguments, and the package variables that the reading takes, are together of bulk at most 1048576: NARROWER than '..Said'. Prove '..Said' where nothing that the law and all that it calls make is longer than what came in: it says more and counts as full. Else prove '..UptoSaid'. A law counts once. -/
mutual
def uptoBulk {H : Type} : DataW H → Nat
  | .lit (.string bytes) => bytes.length + 1
  | .lit _ => 1
  | .nil => 1
  | .ptr d => uptoBulk d + 1
  | .slice elems spare => uptoBulkAll elems + uptoBulkAll spare + 1
  | .agg parts => uptoBulkAll parts + 1
  | .iface _ d => uptoBulk d + 1
  | .map entries => uptoBulkEntries entries + 1
  | .held _ => 1
def uptoBulkAll {H : Type} : List (DataW H) → Nat
  | [] => 0
  | d :: r => uptoBulk d + uptoBulkAll r
def uptoBulkEntries {H : Type} : List (Lit × DataW H) → Nat
  | [] => 0
  | x :: r => uptoBulkEntry x + uptoBulkEntries r
def uptoBulkEntry {H : Type} : Lit × DataW H → Nat
  | (.string bytes, d) => bytes.length + uptoBulk d + 1
  | (_, d) => uptoBulk d + 1
 end
def uptoSmall : (H : Type) → List (DataW H) → Bool := fun _ ds => decide (uptoBulkAll ds ≤ 1048576)
def OpenSpec.upto (s : _root_.Go.ChangeSpec) : _root_.Go.OpenSpec := { _root_.Go.OpenSpec.ofChange s with cond := some uptoSmall }

/-- 'laws.FnCommittedTo', WHERE WHAT IT READS IS OF BULK AT MOST 1048576: true; the input reads as it did. -/
def fnCommittedToUptoRow : OpenClaim := { program := "ytehbgjikmchaoaagreat", sum := "d03d9c9449c14b353ef1088b8e0a6e8fed68f6bc69c835b4417e3c651f9aa2d3", func := "loop.example/blockexecutor/laws.FnCommittedTo", spec := "fnCommittedTo", unfollowed := true, recurses := true, apart := false, narrowed := true }
def FnCommittedToUptoSaid : Prop := fnCommittedToUptoRow.holds Tryz.pinned (OpenSpec.upto fnCommittedToSpec)

/-- 'laws.FnCommitsAgree', WHERE WHAT IT READS IS OF BULK AT MOST 1048576: true; the input reads as it did. -/
def fnCommitsAgreeUptoRow : OpenClaim := { program := "ytehbgjikmchaoaagreat", sum := "d03d9c9449c14b353ef1088b8e0a6e8fed68f6bc69c835b4417e3c651f9aa2d3", func := "loop.example/blockexecutor/laws.FnCommitsAgree", spec := "fnCommitsAgree", unfollowed := true, recurses := true, apart := false, narrowed := true }
def FnCommitsAgreeUptoSaid : Prop := fnCommitsAgreeUptoRow.holds Tryz.pinned (OpenSpec.upto fnCommitsAgreeSpec)

/-- 'laws.FnWorldHead', WHERE WHAT IT READS IS OF BULK AT MOST 1048576: true; the input reads as it did. -/
def fnWorldHeadUptoRow : OpenClaim := { program := "ytehbgjikmchaoaagreat", sum := "d03d9c9449c14b353ef1088b8e0a6e8fed68f6bc69c835b4417e3c651f9aa2d3", func := "loop.example/blockexecutor/laws.FnWorldHead", spec := "fnWorldHead", unfollowed := true, recurses := true, apart := false, narrowed := true }
def FnWorldHeadUptoSaid : Prop := fnWorldHeadUptoRow.holds Tryz.pinned (OpenSpec.upto fnWorldHeadSpec)

end Rows
end Go.Proofs.YtehbgjikmchaoaaGreat
