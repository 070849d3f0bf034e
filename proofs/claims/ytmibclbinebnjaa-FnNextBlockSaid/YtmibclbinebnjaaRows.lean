/-
  No cell of these rows narrows 'for every input' (looked for: loops, veiled, ifaces, maps, wideKeys, modest, calm, conditions, laid).
  DERIVED. THE GIVEN ROWS OF THIS SEAT. 7 by the template 'for every input the law returns true; each argument reads behind the call as it read before'; 0 by the template 'total and deterministic' (their statements: YtmibclbinebnjaaTotals.lean).
  GIVEN WITH THE SEED: the statements are not yours to turn. If you find one false, say at which input.
  Laid BY PROGRAM, IN A SANDBOX (cutbox-rows.mjs): the forced cells as the released guide's own fill.sh prints them over the translation b7fc57af466114b0… (all of the seat's roots in one cut). By AI agents, Wed Nov 11 2026. No macro, syntax, notation, axiom, sorry.
-/
import Derived.Test.YtmibclbinebnjaaChecked
import GoSem.Claim
import GoSem.ClaimJoined
import GoSem.ClaimMapViews
import Derived.JoinedTies
import Derived.KernelRfl
namespace Go.Proofs.Ytmibclbinebnjaa
/- THE CELL 'sum', in the pinned program and in every row, IS THE sha256 OF THE DUMP (.gsa) THAT YtmibclbinebnjaaProg.lean LOADS. Nothing in Lean hashes anything: it is a label: what it is worth is what the hold of that sum in a sandbox is worth. -/
noncomputable def Try.pinned : Pinned := { name := "ytmibclbinebnjaa", sum := "b7fc57af466114b015d883fd8c13869419328f3d70b23330b44613ac78ce2db9", checked := Try.checked }
namespace Rows
def none {H : Type} : Left H := { results := [], args := [] }

/-- 'laws.FnBlockChain': WHATEVER THE INPUT: true; the input reads as it did. -/
def fnBlockChainSpec : ChangeSpec := { name := "fnBlockChain", fn := fun _ => fun
  | [d] => { results := [.lit (.bool true)], args := [d] }
  | _ => none }
def fnBlockChainRow : OpenClaim := { program := "ytmibclbinebnjaa", sum := "b7fc57af466114b015d883fd8c13869419328f3d70b23330b44613ac78ce2db9", func := "loop.example/blockexecutor/laws.FnBlockChain", spec := "fnBlockChain", unfollowed := true, recurses := true, apart := false }
def FnBlockChainSaid : Prop := fnBlockChainRow.holds Try.pinned (OpenSpec.ofChange fnBlockChainSpec)

/-- ITS FALSE NEIGHBOUR: 'it returns false'. Refute it at one input. -/
def fnBlockChainWrong : ChangeSpec := { name := "fnBlockChain", fn := fun _ => fun
  | [d] => { results := [.lit (.bool false)], args := [d] }
  | _ => none }
def FnBlockChainWrongFalsely : Prop := fnBlockChainRow.holds Try.pinned (OpenSpec.ofChange fnBlockChainWrong)

/-- 'laws.FnMayVote': WHATEVER THE INPUT: true; the input reads as it did. -/
def fnMayVoteSpec : ChangeSpec := { name := "fnMayVote", fn := fun _ => fun
  | [d] => { results := [.lit (.bool true)], args := [d] }
  | _ => none }
def fnMayVoteRow : OpenClaim := { program := "ytmibclbinebnjaa", sum := "b7fc57af466114b015d883fd8c13869419328f3d70b23330b44613ac78ce2db9", func := "loop.example/blockexecutor/laws.FnMayVote", spec := "fnMayVote", unfollowed := true, recurses := true, apart := false }
def FnMayVoteSaid : Prop := fnMayVoteRow.holds Try.pinned (OpenSpec.ofChange fnMayVoteSpec)

/-- ITS FALSE NEIGHBOUR: 'it returns false'. Refute it at one input. -/
def fnMayVoteWrong : ChangeSpec := { name := "fnMayVote", fn := fun _ => fun
  | [d] => { results := [.lit (.bool false)], args := [d] }
  | _ => none }
def FnMayVoteWrongFalsely : Prop := fnMayVoteRow.holds Try.pinned (OpenSpec.ofChange fnMayVoteWrong)

/-- 'laws.FnVoteFor': WHATEVER THE INPUT: true; the input reads as it did. -/
def fnVoteForSpec : ChangeSpec := { name := "fnVoteFor", fn := fun _ => fun
  | [d] => { results := [.lit (.bool true)], args := [d] }
  | _ => none }
def fnVoteForRow : OpenClaim := { program := "ytmibclbinebnjaa", sum := "b7fc57af466114b015d883fd8c13869419328f3d70b23330b44613ac78ce2db9", func := "loop.example/blockexecutor/laws.FnVoteFor", spec := "fnVoteFor", unfollowed := true, recurses := true, apart := false }
def FnVoteForSaid : Prop := fnVoteForRow.holds Try.pinned (OpenSpec.ofChange fnVoteForSpec)

/-- ITS FALSE NEIGHBOUR: 'it returns false'. Refute it at one input. -/
def fnVoteForWrong : ChangeSpec := { name := "fnVoteFor", fn := fun _ => fun
  | [d] => { results := [.lit (.bool false)], args := [d] }
  | _ => none }
def FnVoteForWrongFalsely : Prop := fnVoteForRow.holds Try.pinned (OpenSpec.ofChange fnVoteForWrong)

/-- 'laws.FnNextBlock': WHATEVER THE INPUT: true; the input reads as it did. -/
def fnNextBlockSpec : ChangeSpec := { name := "fnNextBlock", fn := fun _ => fun
  | [d] => { results := [.lit (.bool true)], args := [d] }
  | _ => none }
def fnNextBlockRow : OpenClaim := { program := "ytmibclbinebnjaa", sum := "b7fc57af466114b015d883fd8c13869419328f3d70b23330b44613ac78ce2db9", func := "loop.example/blockexecutor/laws.FnNextBlock", spec := "fnNextBlock", unfollowed := true, recurses := true, apart := false }
def FnNextBlockSaid : Prop := fnNextBlockRow.holds Try.pinned (OpenSpec.ofChange fnNextBlockSpec)

/-- ITS FALSE NEIGHBOUR: 'it returns false'. Refute it at one input. -/
def fnNextBlockWrong : ChangeSpec := { name := "fnNextBlock", fn := fun _ => fun
  | [d] => { results := [.lit (.bool false)], args := [d] }
  | _ => none }
def FnNextBlockWrongFalsely : Prop := fnNextBlockRow.holds Try.pinned (OpenSpec.ofChange fnNextBlockWrong)

/-- 'laws.FnPutBlock': WHATEVER THE INPUT: true; the input reads as it did. -/
def fnPutBlockSpec : ChangeSpec := { name := "fnPutBlock", fn := fun _ => fun
  | [d] => { results := [.lit (.bool true)], args := [d] }
  | _ => none }
def fnPutBlockRow : OpenClaim := { program := "ytmibclbinebnjaa", sum := "b7fc57af466114b015d883fd8c13869419328f3d70b23330b44613ac78ce2db9", func := "loop.example/blockexecutor/laws.FnPutBlock", spec := "fnPutBlock", unfollowed := true, recurses := true, apart := false }
def FnPutBlockSaid : Prop := fnPutBlockRow.holds Try.pinned (OpenSpec.ofChange fnPutBlockSpec)

/-- ITS FALSE NEIGHBOUR: 'it returns false'. Refute it at one input. -/
def fnPutBlockWrong : ChangeSpec := { name := "fnPutBlock", fn := fun _ => fun
  | [d] => { results := [.lit (.bool false)], args := [d] }
  | _ => none }
def FnPutBlockWrongFalsely : Prop := fnPutBlockRow.holds Try.pinned (OpenSpec.ofChange fnPutBlockWrong)

/-- 'laws.FnExactPutBlock': WHATEVER THE INPUT: true; the input reads as it did. -/
def fnExactPutBlockSpec : ChangeSpec := { name := "fnExactPutBlock", fn := fun _ => fun
  | [d1, d2] => { results := [.lit (.bool true)], args := [d1, d2] }
  | _ => none }
def fnExactPutBlockRow : OpenClaim := { program := "ytmibclbinebnjaa", sum := "b7fc57af466114b015d883fd8c13869419328f3d70b23330b44613ac78ce2db9", func := "loop.example/blockexecutor/laws.FnExactPutBlock", spec := "fnExactPutBlock", unfollowed := true, recurses := true, apart := false }
def FnExactPutBlockSaid : Prop := fnExactPutBlockRow.holds Try.pinned (OpenSpec.ofChange fnExactPutBlockSpec)

/-- ITS FALSE NEIGHBOUR: 'it returns false'. Refute it at one input. -/
def fnExactPutBlockWrong : ChangeSpec := { name := "fnExactPutBlock", fn := fun _ => fun
  | [d1, d2] => { results := [.lit (.bool false)], args := [d1, d2] }
  | _ => none }
def FnExactPutBlockWrongFalsely : Prop := fnExactPutBlockRow.holds Try.pinned (OpenSpec.ofChange fnExactPutBlockWrong)

/-- 'laws.FnEngineOf': WHATEVER THE INPUT: true; the input reads as it did. -/
def fnEngineOfSpec : ChangeSpec := { name := "fnEngineOf", fn := fun _ => fun
  | [d] => { results := [.lit (.bool true)], args := [d] }
  | _ => none }
def fnEngineOfRow : OpenClaim := { program := "ytmibclbinebnjaa", sum := "b7fc57af466114b015d883fd8c13869419328f3d70b23330b44613ac78ce2db9", func := "loop.example/blockexecutor/laws.FnEngineOf", spec := "fnEngineOf", unfollowed := true, recurses := true, apart := false }
def FnEngineOfSaid : Prop := fnEngineOfRow.holds Try.pinned (OpenSpec.ofChange fnEngineOfSpec)

/-- ITS FALSE NEIGHBOUR: 'it returns false'. Refute it at one input. -/
def fnEngineOfWrong : ChangeSpec := { name := "fnEngineOf", fn := fun _ => fun
  | [d] => { results := [.lit (.bool false)], args := [d] }
  | _ => none }
def FnEngineOfWrongFalsely : Prop := fnEngineOfRow.holds Try.pinned (OpenSpec.ofChange fnEngineOfWrong)

/- THE SECOND FORM. 'bulk': how many values and letters a reading holds, each counted each time it is reached (what is shared counts as often as it is met; a slice's spare places count too). A statement '..UptoSaid' is the law's where the arguments, and the package variables that the reading takes, are together of bulk at most 1048576: NARROWER than '..Said'. Prove '..Said' where nothing that the law and all that it calls make is longer than what came in: it says more and counts as full. Else prove '..UptoSaid'. A law counts once. -/
mutual
def uptoBulk {H : Type} : DataW H → Nat
  | .lit (.string bytes) => bytes.length + 1
  | .lit _ => 1
  | .nil => 1
  | .ptr d => uptoBulk d + 1
  | .slice elems spare => uptoBulkAll elems + uptoBulkAll spare + 1
  | .agg parts => uptoBulkAll parts + 1
  | .iface _ d => uptoBulk d + 1
  | .map entries => uptoBulkEntries entries + 1
  | .held _ => 1
def uptoBulkAll {H : Type} : List (DataW H) → Nat
  | [] => 0
  | d :: r => uptoBulk d + uptoBulkAll r
def uptoBulkEntries {H : Type} : List (Lit × DataW H) → Nat
  | [] => 0
  | x :: r => uptoBulkEntry x + uptoBulkEntries r
def uptoBulkEntry {H : Type} : Lit × DataW H → Nat
  | (.string bytes, d) => bytes.length + uptoBulk d + 1
  | (_, d) => uptoBulk d + 1
 end
def uptoSmall : (H : Type) → List (DataW H) → Bool := fun _ ds => decide (uptoBulkAll ds ≤ 1048576)
def OpenSpec.upto (s : _root_.Go.ChangeSpec) : _root_.Go.OpenSpec := { _root_.Go.OpenSpec.ofChange s with cond := some uptoSmall }

/-- 'laws.FnBlockChain', WHERE WHAT IT READS IS OF BULK AT MOST 1048576: true; the input reads as it did. -/
def fnBlockChainUptoRow : OpenClaim := { program := "ytmibclbinebnjaa", sum := "b7fc57af466114b015d883fd8c13869419328f3d70b23330b44613ac78ce2db9", func := "loop.example/blockexecutor/laws.FnBlockChain", spec := "fnBlockChain", unfollowed := true, recurses := true, apart := false, narrowed := true }
def FnBlockChainUptoSaid : Prop := fnBlockChainUptoRow.holds Try.pinned (OpenSpec.upto fnBlockChainSpec)

/-- 'laws.FnMayVote', WHERE WHAT IT READS IS OF BULK AT MOST 1048576: true; the input reads as it did. -/
def fnMayVoteUptoRow : OpenClaim := { program := "ytmibclbinebnjaa", sum := "b7fc57af466114b015d883fd8c13869419328f3d70b23330b44613ac78ce2db9", func := "loop.example/blockexecutor/laws.FnMayVote", spec := "fnMayVote", unfollowed := true, recurses := true, apart := false, narrowed := true }
def FnMayVoteUptoSaid : Prop := fnMayVoteUptoRow.holds Try.pinned (OpenSpec.upto fnMayVoteSpec)

/-- 'laws.FnVoteFor', WHERE WHAT IT READS IS OF BULK AT MOST 1048576: true; the input reads as it did. -/
def fnVoteForUptoRow : OpenClaim := { program := "ytmibclbinebnjaa", sum := "b7fc57af466114b015d883fd8c13869419328f3d70b23330b44613ac78ce2db9", func := "loop.example/blockexecutor/laws.FnVoteFor", spec := "fnVoteFor", unfollowed := true, recurses := true, apart := false, narrowed := true }
def FnVoteForUptoSaid : Prop := fnVoteForUptoRow.holds Try.pinned (OpenSpec.upto fnVoteForSpec)

/-- 'laws.FnNextBlock', WHERE WHAT IT READS IS OF BULK AT MOST 1048576: true; the input reads as it did. -/
def fnNextBlockUptoRow : OpenClaim := { program := "ytmibclbinebnjaa", sum := "b7fc57af466114b015d883fd8c13869419328f3d70b23330b44613ac78ce2db9", func := "loop.example/blockexecutor/laws.FnNextBlock", spec := "fnNextBlock", unfollowed := true, recurses := true, apart := false, narrowed := true }
def FnNextBlockUptoSaid : Prop := fnNextBlockUptoRow.holds Try.pinned (OpenSpec.upto fnNextBlockSpec)

/-- 'laws.FnPutBlock', WHERE WHAT IT READS IS OF BULK AT MOST 1048576: true; the input reads as it did. -/
def fnPutBlockUptoRow : OpenClaim := { program := "ytmibclbinebnjaa", sum := "b7fc57af466114b015d883fd8c13869419328f3d70b23330b44613ac78ce2db9", func := "loop.example/blockexecutor/laws.FnPutBlock", spec := "fnPutBlock", unfollowed := true, recurses := true, apart := false, narrowed := true }
def FnPutBlockUptoSaid : Prop := fnPutBlockUptoRow.holds Try.pinned (OpenSpec.upto fnPutBlockSpec)

/-- 'laws.FnExactPutBlock', WHERE WHAT IT READS IS OF BULK AT MOST 1048576: true; the input reads as it did. -/
def fnExactPutBlockUptoRow : OpenClaim := { program := "ytmibclbinebnjaa", sum := "b7fc57af466114b015d883fd8c13869419328f3d70b23330b44613ac78ce2db9", func := "loop.example/blockexecutor/laws.FnExactPutBlock", spec := "fnExactPutBlock", unfollowed := true, recurses := true, apart := false, narrowed := true }
def FnExactPutBlockUptoSaid : Prop := fnExactPutBlockUptoRow.holds Try.pinned (OpenSpec.upto fnExactPutBlockSpec)

/-- 'laws.FnEngineOf', WHERE WHAT IT READS IS OF BULK AT MOST 1048576: true; the input reads as it did. -/
def fnEngineOfUptoRow : OpenClaim := { program := "ytmibclbinebnjaa", sum := "b7fc57af466114b015d883fd8c13869419328f3d70b23330b44613ac78ce2db9", func := "loop.example/blockexecutor/laws.FnEngineOf", spec := "fnEngineOf", unfollowed := true, recurses := true, apart := false, narrowed := true }
def FnEngineOfUptoSaid : Prop := fnEngineOfUptoRow.holds Try.pinned (OpenSpec.upto fnEngineOfSpec)

end Rows
end Go.Proofs.Ytmibclbinebnjaa
