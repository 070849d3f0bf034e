/-
  No cell of these rows narrows 'for every input' (looked for: loops, veiled, ifaces, maps, wideKeys, modest, calm, conditions, laid).
  DERIVED. THE GIVEN ROWS OF THIS SEAT. 11 by the template 'for every input the law returns true; each argument reads behind the call as it read before'; 0 by the template 'total and deterministic' (their statements: YthcfafpjkbbaoaaGreatTotals.lean).
  GIVEN WITH THE SEED: the statements are not yours to turn. If you find one false, say at which input.
  Laid BY PROGRAM, IN A SANDBOX (cutbox-rows.mjs): the forced cells as the released guide's own fill.sh prints them over the translation 852c074f030ed8df… (all of the seat's roots in one cut). By AI agents, Wed Nov 11 2026. No macro, syntax, notation, axiom, sorry.
-/
import Derived.Test.YthcfafpjkbbaoaaGreatChecked
import GoSem.Claim
import GoSem.ClaimJoined
import GoSem.ClaimMapViews
import Derived.JoinedTies
import Derived.KernelRfl
namespace Go.Proofs.YthcfafpjkbbaoaaGreat
/- THE CELL 'sum', in the pinned program and in every row, IS THE sha256 OF THE DUMP (.gsa) THAT YthcfafpjkbbaoaaGreatProg.lean LOADS. Nothing in Lean hashes anything: it is a label: what it is worth is what the hold of that sum in a sandbox is worth. -/
noncomputable def Tryz.pinned : Pinned := { name := "ythcfafpjkbbaoaagreat", sum := "852c074f030ed8dfce3fa55ce82970b9e039b00f586ca9413e690719823e2b7b", checked := Tryz.checked }
namespace Rows
def none {H : Type} : Left H := { results := [], args := [] }

/-- 'laws.FnCommitHeads': WHATEVER THE INPUT: true; the input reads as it did. -/
def fnCommitHeadsSpec : ChangeSpec := { name := "fnCommitHeads", fn := fun _ => fun
  | [d] => { results := [.lit (.bool true)], args := [d] }
  | _ => none }
def fnCommitHeadsRow : OpenClaim := { program := "ythcfafpjkbbaoaagreat", sum := "852c074f030ed8dfce3fa55ce82970b9e039b00f586ca9413e690719823e2b7b", func := "loop.example/blockexecutor/laws.FnCommitHeads", spec := "fnCommitHeads", unfollowed := true, recurses := true, apart := false }
def FnCommitHeadsSaid : Prop := fnCommitHeadsRow.holds Tryz.pinned (OpenSpec.ofChange fnCommitHeadsSpec)

/-- ITS FALSE NEIGHBOUR: 'it returns false'. Refute it at one input. -/
def fnCommitHeadsWrong : ChangeSpec := { name := "fnCommitHeads", fn := fun _ => fun
  | [d] => { results := [.lit (.bool false)], args := [d] }
  | _ => none }
def FnCommitHeadsWrongFalsely : Prop := fnCommitHeadsRow.holds Tryz.pinned (OpenSpec.ofChange fnCommitHeadsWrong)

/-- 'laws.FnWorldOf': WHATEVER THE INPUT: true; the input reads as it did. -/
def fnWorldOfSpec : ChangeSpec := { name := "fnWorldOf", fn := fun _ => fun
  | [d] => { results := [.lit (.bool true)], args := [d] }
  | _ => none }
def fnWorldOfRow : OpenClaim := { program := "ythcfafpjkbbaoaagreat", sum := "852c074f030ed8dfce3fa55ce82970b9e039b00f586ca9413e690719823e2b7b", func := "loop.example/blockexecutor/laws.FnWorldOf", spec := "fnWorldOf", unfollowed := true, recurses := true, apart := false }
def FnWorldOfSaid : Prop := fnWorldOfRow.holds Tryz.pinned (OpenSpec.ofChange fnWorldOfSpec)

/-- ITS FALSE NEIGHBOUR: 'it returns false'. Refute it at one input. -/
def fnWorldOfWrong : ChangeSpec := { name := "fnWorldOf", fn := fun _ => fun
  | [d] => { results := [.lit (.bool false)], args := [d] }
  | _ => none }
def FnWorldOfWrongFalsely : Prop := fnWorldOfRow.holds Tryz.pinned (OpenSpec.ofChange fnWorldOfWrong)

/-- 'laws.FnGrowTree': WHATEVER THE INPUT: true; the input reads as it did. -/
def fnGrowTreeSpec : ChangeSpec := { name := "fnGrowTree", fn := fun _ => fun
  | [d] => { results := [.lit (.bool true)], args := [d] }
  | _ => none }
def fnGrowTreeRow : OpenClaim := { program := "ythcfafpjkbbaoaagreat", sum := "852c074f030ed8dfce3fa55ce82970b9e039b00f586ca9413e690719823e2b7b", func := "loop.example/blockexecutor/laws.FnGrowTree", spec := "fnGrowTree", unfollowed := true, recurses := true, apart := false }
def FnGrowTreeSaid : Prop := fnGrowTreeRow.holds Tryz.pinned (OpenSpec.ofChange fnGrowTreeSpec)

/-- ITS FALSE NEIGHBOUR: 'it returns false'. Refute it at one input. -/
def fnGrowTreeWrong : ChangeSpec := { name := "fnGrowTree", fn := fun _ => fun
  | [d] => { results := [.lit (.bool false)], args := [d] }
  | _ => none }
def FnGrowTreeWrongFalsely : Prop := fnGrowTreeRow.holds Tryz.pinned (OpenSpec.ofChange fnGrowTreeWrong)

/-- 'laws.FnWorldVote': WHATEVER THE INPUT: true; the input reads as it did. -/
def fnWorldVoteSpec : ChangeSpec := { name := "fnWorldVote", fn := fun _ => fun
  | [d] => { results := [.lit (.bool true)], args := [d] }
  | _ => none }
def fnWorldVoteRow : OpenClaim := { program := "ythcfafpjkbbaoaagreat", sum := "852c074f030ed8dfce3fa55ce82970b9e039b00f586ca9413e690719823e2b7b", func := "loop.example/blockexecutor/laws.FnWorldVote", spec := "fnWorldVote", unfollowed := true, recurses := true, apart := false }
def FnWorldVoteSaid : Prop := fnWorldVoteRow.holds Tryz.pinned (OpenSpec.ofChange fnWorldVoteSpec)

/-- ITS FALSE NEIGHBOUR: 'it returns false'. Refute it at one input. -/
def fnWorldVoteWrong : ChangeSpec := { name := "fnWorldVote", fn := fun _ => fun
  | [d] => { results := [.lit (.bool false)], args := [d] }
  | _ => none }
def FnWorldVoteWrongFalsely : Prop := fnWorldVoteRow.holds Tryz.pinned (OpenSpec.ofChange fnWorldVoteWrong)

/-- 'laws.FnVoteOnce': WHATEVER THE INPUT: true; the input reads as it did. -/
def fnVoteOnceSpec : ChangeSpec := { name := "fnVoteOnce", fn := fun _ => fun
  | [d] => { results := [.lit (.bool true)], args := [d] }
  | _ => none }
def fnVoteOnceRow : OpenClaim := { program := "ythcfafpjkbbaoaagreat", sum := "852c074f030ed8dfce3fa55ce82970b9e039b00f586ca9413e690719823e2b7b", func := "loop.example/blockexecutor/laws.FnVoteOnce", spec := "fnVoteOnce", unfollowed := true, recurses := true, apart := false }
def FnVoteOnceSaid : Prop := fnVoteOnceRow.holds Tryz.pinned (OpenSpec.ofChange fnVoteOnceSpec)

/-- ITS FALSE NEIGHBOUR: 'it returns false'. Refute it at one input. -/
def fnVoteOnceWrong : ChangeSpec := { name := "fnVoteOnce", fn := fun _ => fun
  | [d] => { results := [.lit (.bool false)], args := [d] }
  | _ => none }
def FnVoteOnceWrongFalsely : Prop := fnVoteOnceRow.holds Tryz.pinned (OpenSpec.ofChange fnVoteOnceWrong)

/-- 'laws.FnViewOnce': WHATEVER THE INPUT: true; the input reads as it did. -/
def fnViewOnceSpec : ChangeSpec := { name := "fnViewOnce", fn := fun _ => fun
  | [d] => { results := [.lit (.bool true)], args := [d] }
  | _ => none }
def fnViewOnceRow : OpenClaim := { program := "ythcfafpjkbbaoaagreat", sum := "852c074f030ed8dfce3fa55ce82970b9e039b00f586ca9413e690719823e2b7b", func := "loop.example/blockexecutor/laws.FnViewOnce", spec := "fnViewOnce", unfollowed := true, recurses := true, apart := false }
def FnViewOnceSaid : Prop := fnViewOnceRow.holds Tryz.pinned (OpenSpec.ofChange fnViewOnceSpec)

/-- ITS FALSE NEIGHBOUR: 'it returns false'. Refute it at one input. -/
def fnViewOnceWrong : ChangeSpec := { name := "fnViewOnce", fn := fun _ => fun
  | [d] => { results := [.lit (.bool false)], args := [d] }
  | _ => none }
def FnViewOnceWrongFalsely : Prop := fnViewOnceRow.holds Tryz.pinned (OpenSpec.ofChange fnViewOnceWrong)

/-- 'laws.FnWorldActions': WHATEVER THE INPUT: true; the input reads as it did. -/
def fnWorldActionsSpec : ChangeSpec := { name := "fnWorldActions", fn := fun _ => fun
  | [d] => { results := [.lit (.bool true)], args := [d] }
  | _ => none }
def fnWorldActionsRow : OpenClaim := { program := "ythcfafpjkbbaoaagreat", sum := "852c074f030ed8dfce3fa55ce82970b9e039b00f586ca9413e690719823e2b7b", func := "loop.example/blockexecutor/laws.FnWorldActions", spec := "fnWorldActions", unfollowed := true, recurses := true, apart := false }
def FnWorldActionsSaid : Prop := fnWorldActionsRow.holds Tryz.pinned (OpenSpec.ofChange fnWorldActionsSpec)

/-- ITS FALSE NEIGHBOUR: 'it returns false'. Refute it at one input. -/
def fnWorldActionsWrong : ChangeSpec := { name := "fnWorldActions", fn := fun _ => fun
  | [d] => { results := [.lit (.bool false)], args := [d] }
  | _ => none }
def FnWorldActionsWrongFalsely : Prop := fnWorldActionsRow.holds Tryz.pinned (OpenSpec.ofChange fnWorldActionsWrong)

/-- 'laws.FnWorldRun': WHATEVER THE INPUT: true; the input reads as it did. -/
def fnWorldRunSpec : ChangeSpec := { name := "fnWorldRun", fn := fun _ => fun
  | [d] => { results := [.lit (.bool true)], args := [d] }
  | _ => none }
def fnWorldRunRow : OpenClaim := { program := "ythcfafpjkbbaoaagreat", sum := "852c074f030ed8dfce3fa55ce82970b9e039b00f586ca9413e690719823e2b7b", func := "loop.example/blockexecutor/laws.FnWorldRun", spec := "fnWorldRun", unfollowed := true, recurses := true, apart := false }
def FnWorldRunSaid : Prop := fnWorldRunRow.holds Tryz.pinned (OpenSpec.ofChange fnWorldRunSpec)

/-- ITS FALSE NEIGHBOUR: 'it returns false'. Refute it at one input. -/
def fnWorldRunWrong : ChangeSpec := { name := "fnWorldRun", fn := fun _ => fun
  | [d] => { results := [.lit (.bool false)], args := [d] }
  | _ => none }
def FnWorldRunWrongFalsely : Prop := fnWorldRunRow.holds Tryz.pinned (OpenSpec.ofChange fnWorldRunWrong)

/-- 'laws.FnWorldStore': WHATEVER THE INPUT: true; the input reads as it did. -/
def fnWorldStoreSpec : ChangeSpec := { name := "fnWorldStore", fn := fun _ => fun
  | [d] => { results := [.lit (.bool true)], args := [d] }
  | _ => none }
def fnWorldStoreRow : OpenClaim := { program := "ythcfafpjkbbaoaagreat", sum := "852c074f030ed8dfce3fa55ce82970b9e039b00f586ca9413e690719823e2b7b", func := "loop.example/blockexecutor/laws.FnWorldStore", spec := "fnWorldStore", unfollowed := true, recurses := true, apart := false }
def FnWorldStoreSaid : Prop := fnWorldStoreRow.holds Tryz.pinned (OpenSpec.ofChange fnWorldStoreSpec)

/-- ITS FALSE NEIGHBOUR: 'it returns false'. Refute it at one input. -/
def fnWorldStoreWrong : ChangeSpec := { name := "fnWorldStore", fn := fun _ => fun
  | [d] => { results := [.lit (.bool false)], args := [d] }
  | _ => none }
def FnWorldStoreWrongFalsely : Prop := fnWorldStoreRow.holds Tryz.pinned (OpenSpec.ofChange fnWorldStoreWrong)

/-- 'laws.FnCommittedRoot': WHATEVER THE INPUT: true; the input reads as it did. -/
def fnCommittedRootSpec : ChangeSpec := { name := "fnCommittedRoot", fn := fun _ => fun
  | [d] => { results := [.lit (.bool true)], args := [d] }
  | _ => none }
def fnCommittedRootRow : OpenClaim := { program := "ythcfafpjkbbaoaagreat", sum := "852c074f030ed8dfce3fa55ce82970b9e039b00f586ca9413e690719823e2b7b", func := "loop.example/blockexecutor/laws.FnCommittedRoot", spec := "fnCommittedRoot", unfollowed := true, recurses := true, apart := false }
def FnCommittedRootSaid : Prop := fnCommittedRootRow.holds Tryz.pinned (OpenSpec.ofChange fnCommittedRootSpec)

/-- ITS FALSE NEIGHBOUR: 'it returns false'. Refute it at one input. -/
def fnCommittedRootWrong : ChangeSpec := { name := "fnCommittedRoot", fn := fun _ => fun
  | [d] => { results := [.lit (.bool false)], args := [d] }
  | _ => none }
def FnCommittedRootWrongFalsely : Prop := fnCommittedRootRow.holds Tryz.pinned (OpenSpec.ofChange fnCommittedRootWrong)

/-- 'laws.FnWorldGrow': WHATEVER THE INPUT: true; the input reads as it did. -/
def fnWorldGrowSpec : ChangeSpec := { name := "fnWorldGrow", fn := fun _ => fun
  | [d] => { results := [.lit (.bool true)], args := [d] }
  | _ => none }
def fnWorldGrowRow : OpenClaim := { program := "ythcfafpjkbbaoaagreat", sum := "852c074f030ed8dfce3fa55ce82970b9e039b00f586ca9413e690719823e2b7b", func := "loop.example/blockexecutor/laws.FnWorldGrow", spec := "fnWorldGrow", unfollowed := true, recurses := true, apart := false }
def FnWorldGrowSaid : Prop := fnWorldGrowRow.holds Tryz.pinned (OpenSpec.ofChange fnWorldGrowSpec)

/-- ITS FALSE NEIGHBOUR: 'it returns false'. Refute it at one input. -/
def fnWorldGrowWrong : ChangeSpec := { name := "fnWorldGrow", fn := fun _ => fun
  | [d] => { results := [.lit (.bool false)], args := [d] }
  | _ => none }
def FnWorldGrowWrongFalsely : Prop := fnWorldGrowRow.holds Tryz.pinned (OpenSpec.ofChange fnWorldGrowWrong)

/- THE SECOND FORM. 'bulk': how many values and letters a reading holds, each counted each time it is reached (what is shared counts as often as it is met; a slice's spare places count too). A statement '..UptoSaid' is the law's where the arguments, and the package variables that the reading takes, are together of bulk at most 1048576: NARROWER than '..Said'. Prove '..Said' where nothing that the law and all that it calls make is longer than what came in: it says more and counts as full. Else prove '..UptoSaid'. A law counts once. -/
mutual
def uptoBulk {H : Type} : DataW H → Nat
  | .lit (.string bytes) => bytes.length + 1
  | .lit _ => 1
  | .nil => 1
  | .ptr d => uptoBulk d + 1
  | .slice elems spare => uptoBulkAll elems + uptoBulkAll spare + 1
  | .agg parts => uptoBulkAll parts + 1
  | .iface _ d => uptoBulk d + 1
  | .map entries => uptoBulkEntries entries + 1
  | .held _ => 1
def uptoBulkAll {H : Type} : List (DataW H) → Nat
  | [] => 0
  | d :: r => uptoBulk d + uptoBulkAll r
def uptoBulkEntries {H : Type} : List (Lit × DataW H) → Nat
  | [] => 0
  | x :: r => uptoBulkEntry x + uptoBulkEntries r
def uptoBulkEntry {H : Type} : Lit × DataW H → Nat
  | (.string bytes, d) => bytes.length + uptoBulk d + 1
  | (_, d) => uptoBulk d + 1
 end
def uptoSmall : (H : Type) → List (DataW H) → Bool := fun _ ds => decide (uptoBulkAll ds ≤ 1048576)
def OpenSpec.upto (s : _root_.Go.ChangeSpec) : _root_.Go.OpenSpec := { _root_.Go.OpenSpec.ofChange s with cond := some uptoSmall }

/-- 'laws.FnCommitHeads', WHERE WHAT IT READS IS OF BULK AT MOST 1048576: true; the input reads as it did. -/
def fnCommitHeadsUptoRow : OpenClaim := { program := "ythcfafpjkbbaoaagreat", sum := "852c074f030ed8dfce3fa55ce82970b9e039b00f586ca9413e690719823e2b7b", func := "loop.example/blockexecutor/laws.FnCommitHeads", spec := "fnCommitHeads", unfollowed := true, recurses := true, apart := false, narrowed := true }
def FnCommitHeadsUptoSaid : Prop := fnCommitHeadsUptoRow.holds Tryz.pinned (OpenSpec.upto fnCommitHeadsSpec)

/-- 'laws.FnWorldOf', WHERE WHAT IT READS IS OF BULK AT MOST 1048576: true; the input reads as it did. -/
def fnWorldOfUptoRow : OpenClaim := { program := "ythcfafpjkbbaoaagreat", sum := "852c074f030ed8dfce3fa55ce82970b9e039b00f586ca9413e690719823e2b7b", func := "loop.example/blockexecutor/laws.FnWorldOf", spec := "fnWorldOf", unfollowed := true, recurses := true, apart := false, narrowed := true }
def FnWorldOfUptoSaid : Prop := fnWorldOfUptoRow.holds Tryz.pinned (OpenSpec.upto fnWorldOfSpec)

/-- 'laws.FnGrowTree', WHERE WHAT IT READS IS OF BULK AT MOST 1048576: true; the input reads as it did. -/
def fnGrowTreeUptoRow : OpenClaim := { program := "ythcfafpjkbbaoaagreat", sum := "852c074f030ed8dfce3fa55ce82970b9e039b00f586ca9413e690719823e2b7b", func := "loop.example/blockexecutor/laws.FnGrowTree", spec := "fnGrowTree", unfollowed := true, recurses := true, apart := false, narrowed := true }
def FnGrowTreeUptoSaid : Prop := fnGrowTreeUptoRow.holds Tryz.pinned (OpenSpec.upto fnGrowTreeSpec)

/-- 'laws.FnWorldVote', WHERE WHAT IT READS IS OF BULK AT MOST 1048576: true; the input reads as it did. -/
def fnWorldVoteUptoRow : OpenClaim := { program := "ythcfafpjkbbaoaagreat", sum := "852c074f030ed8dfce3fa55ce82970b9e039b00f586ca9413e690719823e2b7b", func := "loop.example/blockexecutor/laws.FnWorldVote", spec := "fnWorldVote", unfollowed := true, recurses := true, apart := false, narrowed := true }
def FnWorldVoteUptoSaid : Prop := fnWorldVoteUptoRow.holds Tryz.pinned (OpenSpec.upto fnWorldVoteSpec)

/-- 'laws.FnVoteOnce', WHERE WHAT IT READS IS OF BULK AT MOST 1048576: true; the input reads as it did. -/
def fnVoteOnceUptoRow : OpenClaim := { program := "ythcfafpjkbbaoaagreat", sum := "852c074f030ed8dfce3fa55ce82970b9e039b00f586ca9413e690719823e2b7b", func := "loop.example/blockexecutor/laws.FnVoteOnce", spec := "fnVoteOnce", unfollowed := true, recurses := true, apart := false, narrowed := true }
def FnVoteOnceUptoSaid : Prop := fnVoteOnceUptoRow.holds Tryz.pinned (OpenSpec.upto fnVoteOnceSpec)

/-- 'laws.FnViewOnce', WHERE WHAT IT READS IS OF BULK AT MOST 1048576: true; the input reads as it did. -/
def fnViewOnceUptoRow : OpenClaim := { program := "ythcfafpjkbbaoaagreat", sum := "852c074f030ed8dfce3fa55ce82970b9e039b00f586ca9413e690719823e2b7b", func := "loop.example/blockexecutor/laws.FnViewOnce", spec := "fnViewOnce", unfollowed := true, recurses := true, apart := false, narrowed := true }
def FnViewOnceUptoSaid : Prop := fnViewOnceUptoRow.holds Tryz.pinned (OpenSpec.upto fnViewOnceSpec)

/-- 'laws.FnWorldActions', WHERE WHAT IT READS IS OF BULK AT MOST 1048576: true; the input reads as it did. -/
def fnWorldActionsUptoRow : OpenClaim := { program := "ythcfafpjkbbaoaagreat", sum := "852c074f030ed8dfce3fa55ce82970b9e039b00f586ca9413e690719823e2b7b", func := "loop.example/blockexecutor/laws.FnWorldActions", spec := "fnWorldActions", unfollowed := true, recurses := true, apart := false, narrowed := true }
def FnWorldActionsUptoSaid : Prop := fnWorldActionsUptoRow.holds Tryz.pinned (OpenSpec.upto fnWorldActionsSpec)

/-- 'laws.FnWorldRun', WHERE WHAT IT READS IS OF BULK AT MOST 1048576: true; the input reads as it did. -/
def fnWorldRunUptoRow : OpenClaim := { program := "ythcfafpjkbbaoaagreat", sum := "852c074f030ed8dfce3fa55ce82970b9e039b00f586ca9413e690719823e2b7b", func := "loop.example/blockexecutor/laws.FnWorldRun", spec := "fnWorldRun", unfollowed := true, recurses := true, apart := false, narrowed := true }
def FnWorldRunUptoSaid : Prop := fnWorldRunUptoRow.holds Tryz.pinned (OpenSpec.upto fnWorldRunSpec)

/-- 'laws.FnWorldStore', WHERE WHAT IT READS IS OF BULK AT MOST 1048576: true; the input reads as it did. -/
def fnWorldStoreUptoRow : OpenClaim := { program := "ythcfafpjkbbaoaagreat", sum := "852c074f030ed8dfce3fa55ce82970b9e039b00f586ca9413e690719823e2b7b", func := "loop.example/blockexecutor/laws.FnWorldStore", spec := "fnWorldStore", unfollowed := true, recurses := true, apart := false, narrowed := true }
def FnWorldStoreUptoSaid : Prop := fnWorldStoreUptoRow.holds Tryz.pinned (OpenSpec.upto fnWorldStoreSpec)

/-- 'laws.FnCommittedRoot', WHERE WHAT IT READS IS OF BULK AT MOST 1048576: true; the input reads as it did. -/
def fnCommittedRootUptoRow : OpenClaim := { program := "ythcfafpjkbbaoaagreat", sum := "852c074f030ed8dfce3fa55ce82970b9e039b00f586ca9413e690719823e2b7b", func := "loop.example/blockexecutor/laws.FnCommittedRoot", spec := "fnCommittedRoot", unfollowed := true, recurses := true, apart := false, narrowed := true }
def FnCommittedRootUptoSaid : Prop := fnCommittedRootUptoRow.holds Tryz.pinned (OpenSpec.upto fnCommittedRootSpec)

/-- 'laws.FnWorldGrow', WHERE WHAT IT READS IS OF BULK AT MOST 1048576: true; the input reads as it did. -/
def fnWorldGrowUptoRow : OpenClaim := { program := "ythcfafpjkbbaoaagreat", sum := "852c074f030ed8dfce3fa55ce82970b9e039b00f586ca9413e690719823e2b7b", func := "loop.example/blockexecutor/laws.FnWorldGrow", spec := "fnWorldGrow", unfollowed := true, recurses := true, apart := false, narrowed := true }
def FnWorldGrowUptoSaid : Prop := fnWorldGrowUptoRow.holds Tryz.pinned (OpenSpec.upto fnWorldGrowSpec)

end Rows
end Go.Proofs.YthcfafpjkbbaoaaGreat
