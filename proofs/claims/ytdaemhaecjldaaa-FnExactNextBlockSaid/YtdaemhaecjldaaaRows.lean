/-
  No cell of these rows narrows 'for every input' (looked for: loops, veiled, ifaces, maps, wideKeys, modest, calm, conditions, laid).
  DERIVED. THE GIVEN ROWS OF THIS SEAT. 11 by the template 'for every input the law returns true; each argument reads behind the call as it read before'; 0 by the template 'total and deterministic' (their statements: YtdaemhaecjldaaaTotals.lean).
  GIVEN WITH THE SEED: the statements are not yours to turn. If you find one false, say at which input.
  Laid BY PROGRAM, IN A SANDBOX (cutbox-rows.mjs): the forced cells as the released guide's own fill.sh prints them over the translation b3ebc61c40dc6aec… (all of the seat's roots in one cut). By AI agents, Wed Nov 11 2026. No macro, syntax, notation, axiom, sorry.
-/
import Derived.Test.YtdaemhaecjldaaaChecked
import GoSem.Claim
import GoSem.ClaimJoined
import GoSem.ClaimMapViews
import Derived.JoinedTies
import Derived.KernelRfl
namespace Go.Proofs.Ytdaemhaecjldaaa
/- THE CELL 'sum', in the pinned program and in every row, IS THE sha256 OF THE DUMP (.gsa) THAT YtdaemhaecjldaaaProg.lean LOADS. Nothing in Lean hashes anything: it is a label: what it is worth is what the hold of that sum in a sandbox is worth. -/
noncomputable def Try.pinned : Pinned := { name := "ytdaemhaecjldaaa", sum := "b3ebc61c40dc6aec04477561493c5e795b935db4ce5300c28ea931c4759dad80", checked := Try.checked }
namespace Rows
def none {H : Type} : Left H := { results := [], args := [] }

/-- 'laws.FnExactVoterValid': WHATEVER THE INPUT: true; the input reads as it did. -/
def fnExactVoterValidSpec : ChangeSpec := { name := "fnExactVoterValid", fn := fun _ => fun
  | [d] => { results := [.lit (.bool true)], args := [d] }
  | _ => none }
def fnExactVoterValidRow : OpenClaim := { program := "ytdaemhaecjldaaa", sum := "b3ebc61c40dc6aec04477561493c5e795b935db4ce5300c28ea931c4759dad80", func := "loop.example/blockexecutor/laws.FnExactVoterValid", spec := "fnExactVoterValid", apart := false }
def FnExactVoterValidSaid : Prop := fnExactVoterValidRow.holds Try.pinned (OpenSpec.ofChange fnExactVoterValidSpec)

/-- ITS FALSE NEIGHBOUR: 'it returns false'. Refute it at one input. -/
def fnExactVoterValidWrong : ChangeSpec := { name := "fnExactVoterValid", fn := fun _ => fun
  | [d] => { results := [.lit (.bool false)], args := [d] }
  | _ => none }
def FnExactVoterValidWrongFalsely : Prop := fnExactVoterValidRow.holds Try.pinned (OpenSpec.ofChange fnExactVoterValidWrong)

/-- 'laws.FnVoterValid': WHATEVER THE INPUT: true; the input reads as it did. -/
def fnVoterValidSpec : ChangeSpec := { name := "fnVoterValid", fn := fun _ => fun
  | [d] => { results := [.lit (.bool true)], args := [d] }
  | _ => none }
def fnVoterValidRow : OpenClaim := { program := "ytdaemhaecjldaaa", sum := "b3ebc61c40dc6aec04477561493c5e795b935db4ce5300c28ea931c4759dad80", func := "loop.example/blockexecutor/laws.FnVoterValid", spec := "fnVoterValid", unfollowed := true, recurses := true, apart := false }
def FnVoterValidSaid : Prop := fnVoterValidRow.holds Try.pinned (OpenSpec.ofChange fnVoterValidSpec)

/-- ITS FALSE NEIGHBOUR: 'it returns false'. Refute it at one input. -/
def fnVoterValidWrong : ChangeSpec := { name := "fnVoterValid", fn := fun _ => fun
  | [d] => { results := [.lit (.bool false)], args := [d] }
  | _ => none }
def FnVoterValidWrongFalsely : Prop := fnVoterValidRow.holds Try.pinned (OpenSpec.ofChange fnVoterValidWrong)

/-- 'laws.FnExactEngineOf': WHATEVER THE INPUT: true; the input reads as it did. -/
def fnExactEngineOfSpec : ChangeSpec := { name := "fnExactEngineOf", fn := fun _ => fun
  | [d1, d2] => { results := [.lit (.bool true)], args := [d1, d2] }
  | _ => none }
def fnExactEngineOfRow : OpenClaim := { program := "ytdaemhaecjldaaa", sum := "b3ebc61c40dc6aec04477561493c5e795b935db4ce5300c28ea931c4759dad80", func := "loop.example/blockexecutor/laws.FnExactEngineOf", spec := "fnExactEngineOf", unfollowed := true, recurses := true, apart := false }
def FnExactEngineOfSaid : Prop := fnExactEngineOfRow.holds Try.pinned (OpenSpec.ofChange fnExactEngineOfSpec)

/-- ITS FALSE NEIGHBOUR: 'it returns false'. Refute it at one input. -/
def fnExactEngineOfWrong : ChangeSpec := { name := "fnExactEngineOf", fn := fun _ => fun
  | [d1, d2] => { results := [.lit (.bool false)], args := [d1, d2] }
  | _ => none }
def FnExactEngineOfWrongFalsely : Prop := fnExactEngineOfRow.holds Try.pinned (OpenSpec.ofChange fnExactEngineOfWrong)

/-- 'laws.FnExactMayVote': WHATEVER THE INPUT: true; the input reads as it did. -/
def fnExactMayVoteSpec : ChangeSpec := { name := "fnExactMayVote", fn := fun _ => fun
  | [d1, d2, d3, d4] => { results := [.lit (.bool true)], args := [d1, d2, d3, d4] }
  | _ => none }
def fnExactMayVoteRow : OpenClaim := { program := "ytdaemhaecjldaaa", sum := "b3ebc61c40dc6aec04477561493c5e795b935db4ce5300c28ea931c4759dad80", func := "loop.example/blockexecutor/laws.FnExactMayVote", spec := "fnExactMayVote", unfollowed := true, recurses := true, apart := false }
def FnExactMayVoteSaid : Prop := fnExactMayVoteRow.holds Try.pinned (OpenSpec.ofChange fnExactMayVoteSpec)

/-- ITS FALSE NEIGHBOUR: 'it returns false'. Refute it at one input. -/
def fnExactMayVoteWrong : ChangeSpec := { name := "fnExactMayVote", fn := fun _ => fun
  | [d1, d2, d3, d4] => { results := [.lit (.bool false)], args := [d1, d2, d3, d4] }
  | _ => none }
def FnExactMayVoteWrongFalsely : Prop := fnExactMayVoteRow.holds Try.pinned (OpenSpec.ofChange fnExactMayVoteWrong)

/-- 'laws.FnBlockChain': WHATEVER THE INPUT: true; the input reads as it did. -/
def fnBlockChainSpec : ChangeSpec := { name := "fnBlockChain", fn := fun _ => fun
  | [d] => { results := [.lit (.bool true)], args := [d] }
  | _ => none }
def fnBlockChainRow : OpenClaim := { program := "ytdaemhaecjldaaa", sum := "b3ebc61c40dc6aec04477561493c5e795b935db4ce5300c28ea931c4759dad80", func := "loop.example/blockexecutor/laws.FnBlockChain", spec := "fnBlockChain", unfollowed := true, recurses := true, apart := false }
def FnBlockChainSaid : Prop := fnBlockChainRow.holds Try.pinned (OpenSpec.ofChange fnBlockChainSpec)

/-- ITS FALSE NEIGHBOUR: 'it returns false'. Refute it at one input. -/
def fnBlockChainWrong : ChangeSpec := { name := "fnBlockChain", fn := fun _ => fun
  | [d] => { results := [.lit (.bool false)], args := [d] }
  | _ => none }
def FnBlockChainWrongFalsely : Prop := fnBlockChainRow.holds Try.pinned (OpenSpec.ofChange fnBlockChainWrong)

/-- 'laws.FnExactVoteFor': WHATEVER THE INPUT: true; the input reads as it did. -/
def fnExactVoteForSpec : ChangeSpec := { name := "fnExactVoteFor", fn := fun _ => fun
  | [d1, d2, d3, d4] => { results := [.lit (.bool true)], args := [d1, d2, d3, d4] }
  | _ => none }
def fnExactVoteForRow : OpenClaim := { program := "ytdaemhaecjldaaa", sum := "b3ebc61c40dc6aec04477561493c5e795b935db4ce5300c28ea931c4759dad80", func := "loop.example/blockexecutor/laws.FnExactVoteFor", spec := "fnExactVoteFor", unfollowed := true, recurses := true, apart := false }
def FnExactVoteForSaid : Prop := fnExactVoteForRow.holds Try.pinned (OpenSpec.ofChange fnExactVoteForSpec)

/-- ITS FALSE NEIGHBOUR: 'it returns false'. Refute it at one input. -/
def fnExactVoteForWrong : ChangeSpec := { name := "fnExactVoteFor", fn := fun _ => fun
  | [d1, d2, d3, d4] => { results := [.lit (.bool false)], args := [d1, d2, d3, d4] }
  | _ => none }
def FnExactVoteForWrongFalsely : Prop := fnExactVoteForRow.holds Try.pinned (OpenSpec.ofChange fnExactVoteForWrong)

/-- 'laws.FnExactNextBlock': WHATEVER THE INPUT: true; the input reads as it did. -/
def fnExactNextBlockSpec : ChangeSpec := { name := "fnExactNextBlock", fn := fun _ => fun
  | [d1, d2, d3, d4] => { results := [.lit (.bool true)], args := [d1, d2, d3, d4] }
  | _ => none }
def fnExactNextBlockRow : OpenClaim := { program := "ytdaemhaecjldaaa", sum := "b3ebc61c40dc6aec04477561493c5e795b935db4ce5300c28ea931c4759dad80", func := "loop.example/blockexecutor/laws.FnExactNextBlock", spec := "fnExactNextBlock", unfollowed := true, recurses := true, apart := false }
def FnExactNextBlockSaid : Prop := fnExactNextBlockRow.holds Try.pinned (OpenSpec.ofChange fnExactNextBlockSpec)

/-- ITS FALSE NEIGHBOUR: 'it returns false'. Refute it at one input. -/
def fnExactNextBlockWrong : ChangeSpec := { name := "fnExactNextBlock", fn := fun _ => fun
  | [d1, d2, d3, d4] => { results := [.lit (.bool false)], args := [d1, d2, d3, d4] }
  | _ => none }
def FnExactNextBlockWrongFalsely : Prop := fnExactNextBlockRow.holds Try.pinned (OpenSpec.ofChange fnExactNextBlockWrong)

/-- 'laws.FnExactLeavesOf': WHATEVER THE INPUT: true; the input reads as it did. -/
def fnExactLeavesOfSpec : ChangeSpec := { name := "fnExactLeavesOf", fn := fun _ => fun
  | [d] => { results := [.lit (.bool true)], args := [d] }
  | _ => none }
def fnExactLeavesOfRow : OpenClaim := { program := "ytdaemhaecjldaaa", sum := "b3ebc61c40dc6aec04477561493c5e795b935db4ce5300c28ea931c4759dad80", func := "loop.example/blockexecutor/laws.FnExactLeavesOf", spec := "fnExactLeavesOf", unfollowed := true, recurses := true, apart := false }
def FnExactLeavesOfSaid : Prop := fnExactLeavesOfRow.holds Try.pinned (OpenSpec.ofChange fnExactLeavesOfSpec)

/-- ITS FALSE NEIGHBOUR: 'it returns false'. Refute it at one input. -/
def fnExactLeavesOfWrong : ChangeSpec := { name := "fnExactLeavesOf", fn := fun _ => fun
  | [d] => { results := [.lit (.bool false)], args := [d] }
  | _ => none }
def FnExactLeavesOfWrongFalsely : Prop := fnExactLeavesOfRow.holds Try.pinned (OpenSpec.ofChange fnExactLeavesOfWrong)

/-- 'laws.FnExactCertBlock': WHATEVER THE INPUT: true; the input reads as it did. -/
def fnExactCertBlockSpec : ChangeSpec := { name := "fnExactCertBlock", fn := fun _ => fun
  | [d1, d2] => { results := [.lit (.bool true)], args := [d1, d2] }
  | _ => none }
def fnExactCertBlockRow : OpenClaim := { program := "ytdaemhaecjldaaa", sum := "b3ebc61c40dc6aec04477561493c5e795b935db4ce5300c28ea931c4759dad80", func := "loop.example/blockexecutor/laws.FnExactCertBlock", spec := "fnExactCertBlock", unfollowed := true, recurses := true, apart := false }
def FnExactCertBlockSaid : Prop := fnExactCertBlockRow.holds Try.pinned (OpenSpec.ofChange fnExactCertBlockSpec)

/-- ITS FALSE NEIGHBOUR: 'it returns false'. Refute it at one input. -/
def fnExactCertBlockWrong : ChangeSpec := { name := "fnExactCertBlock", fn := fun _ => fun
  | [d1, d2] => { results := [.lit (.bool false)], args := [d1, d2] }
  | _ => none }
def FnExactCertBlockWrongFalsely : Prop := fnExactCertBlockRow.holds Try.pinned (OpenSpec.ofChange fnExactCertBlockWrong)

/-- 'laws.FnExactWorldValid': WHATEVER THE INPUT: true; the input reads as it did. -/
def fnExactWorldValidSpec : ChangeSpec := { name := "fnExactWorldValid", fn := fun _ => fun
  | [d] => { results := [.lit (.bool true)], args := [d] }
  | _ => none }
def fnExactWorldValidRow : OpenClaim := { program := "ytdaemhaecjldaaa", sum := "b3ebc61c40dc6aec04477561493c5e795b935db4ce5300c28ea931c4759dad80", func := "loop.example/blockexecutor/laws.FnExactWorldValid", spec := "fnExactWorldValid", unfollowed := true, recurses := true, apart := false }
def FnExactWorldValidSaid : Prop := fnExactWorldValidRow.holds Try.pinned (OpenSpec.ofChange fnExactWorldValidSpec)

/-- ITS FALSE NEIGHBOUR: 'it returns false'. Refute it at one input. -/
def fnExactWorldValidWrong : ChangeSpec := { name := "fnExactWorldValid", fn := fun _ => fun
  | [d] => { results := [.lit (.bool false)], args := [d] }
  | _ => none }
def FnExactWorldValidWrongFalsely : Prop := fnExactWorldValidRow.holds Try.pinned (OpenSpec.ofChange fnExactWorldValidWrong)

/-- 'laws.FnExactKeptBlocks': WHATEVER THE INPUT: true; the input reads as it did. -/
def fnExactKeptBlocksSpec : ChangeSpec := { name := "fnExactKeptBlocks", fn := fun _ => fun
  | [d1, d2] => { results := [.lit (.bool true)], args := [d1, d2] }
  | _ => none }
def fnExactKeptBlocksRow : OpenClaim := { program := "ytdaemhaecjldaaa", sum := "b3ebc61c40dc6aec04477561493c5e795b935db4ce5300c28ea931c4759dad80", func := "loop.example/blockexecutor/laws.FnExactKeptBlocks", spec := "fnExactKeptBlocks", unfollowed := true, recurses := true, apart := false }
def FnExactKeptBlocksSaid : Prop := fnExactKeptBlocksRow.holds Try.pinned (OpenSpec.ofChange fnExactKeptBlocksSpec)

/-- ITS FALSE NEIGHBOUR: 'it returns false'. Refute it at one input. -/
def fnExactKeptBlocksWrong : ChangeSpec := { name := "fnExactKeptBlocks", fn := fun _ => fun
  | [d1, d2] => { results := [.lit (.bool false)], args := [d1, d2] }
  | _ => none }
def FnExactKeptBlocksWrongFalsely : Prop := fnExactKeptBlocksRow.holds Try.pinned (OpenSpec.ofChange fnExactKeptBlocksWrong)

/- THE SECOND FORM. 'bulk': how many values and letters a reading holds, each counted each time it is reached (what is shared counts as often as it is met; a slice's spare places count too). A statement '..UptoSaid' is the law's where the arguments, and the package variables that the reading takes, are together of bulk at most 1048576: NARROWER than '..Said'. Prove '..Said' where nothing that the law and all that it calls make is longer than what came in: it says more and counts as full. Else prove '..UptoSaid'. A law counts once. -/
mutual
def uptoBulk {H : Type} : DataW H → Nat
  | .lit (.string bytes) => bytes.length + 1
  | .lit _ => 1
  | .nil => 1
  | .ptr d => uptoBulk d + 1
  | .slice elems spare => uptoBulkAll elems + uptoBulkAll spare + 1
  | .agg parts => uptoBulkAll parts + 1
  | .iface _ d => uptoBulk d + 1
  | .map entries => uptoBulkEntries entries + 1
  | .held _ => 1
def uptoBulkAll {H : Type} : List (DataW H) → Nat
  | [] => 0
  | d :: r => uptoBulk d + uptoBulkAll r
def uptoBulkEntries {H : Type} : List (Lit × DataW H) → Nat
  | [] => 0
  | x :: r => uptoBulkEntry x + uptoBulkEntries r
def uptoBulkEntry {H : Type} : Lit × DataW H → Nat
  | (.string bytes, d) => bytes.length + uptoBulk d + 1
  | (_, d) => uptoBulk d + 1
 end
def uptoSmall : (H : Type) → List (DataW H) → Bool := fun _ ds => decide (uptoBulkAll ds ≤ 1048576)
def OpenSpec.upto (s : _root_.Go.ChangeSpec) : _root_.Go.OpenSpec := { _root_.Go.OpenSpec.ofChange s with cond := some uptoSmall }

/-- 'laws.FnExactVoterValid', WHERE WHAT IT READS IS OF BULK AT MOST 1048576: true; the input reads as it did. -/
def fnExactVoterValidUptoRow : OpenClaim := { program := "ytdaemhaecjldaaa", sum := "b3ebc61c40dc6aec04477561493c5e795b935db4ce5300c28ea931c4759dad80", func := "loop.example/blockexecutor/laws.FnExactVoterValid", spec := "fnExactVoterValid", apart := false, narrowed := true }
def FnExactVoterValidUptoSaid : Prop := fnExactVoterValidUptoRow.holds Try.pinned (OpenSpec.upto fnExactVoterValidSpec)

/-- 'laws.FnVoterValid', WHERE WHAT IT READS IS OF BULK AT MOST 1048576: true; the input reads as it did. -/
def fnVoterValidUptoRow : OpenClaim := { program := "ytdaemhaecjldaaa", sum := "b3ebc61c40dc6aec04477561493c5e795b935db4ce5300c28ea931c4759dad80", func := "loop.example/blockexecutor/laws.FnVoterValid", spec := "fnVoterValid", unfollowed := true, recurses := true, apart := false, narrowed := true }
def FnVoterValidUptoSaid : Prop := fnVoterValidUptoRow.holds Try.pinned (OpenSpec.upto fnVoterValidSpec)

/-- 'laws.FnExactEngineOf', WHERE WHAT IT READS IS OF BULK AT MOST 1048576: true; the input reads as it did. -/
def fnExactEngineOfUptoRow : OpenClaim := { program := "ytdaemhaecjldaaa", sum := "b3ebc61c40dc6aec04477561493c5e795b935db4ce5300c28ea931c4759dad80", func := "loop.example/blockexecutor/laws.FnExactEngineOf", spec := "fnExactEngineOf", unfollowed := true, recurses := true, apart := false, narrowed := true }
def FnExactEngineOfUptoSaid : Prop := fnExactEngineOfUptoRow.holds Try.pinned (OpenSpec.upto fnExactEngineOfSpec)

/-- 'laws.FnExactMayVote', WHERE WHAT IT READS IS OF BULK AT MOST 1048576: true; the input reads as it did. -/
def fnExactMayVoteUptoRow : OpenClaim := { program := "ytdaemhaecjldaaa", sum := "b3ebc61c40dc6aec04477561493c5e795b935db4ce5300c28ea931c4759dad80", func := "loop.example/blockexecutor/laws.FnExactMayVote", spec := "fnExactMayVote", unfollowed := true, recurses := true, apart := false, narrowed := true }
def FnExactMayVoteUptoSaid : Prop := fnExactMayVoteUptoRow.holds Try.pinned (OpenSpec.upto fnExactMayVoteSpec)

/-- 'laws.FnBlockChain', WHERE WHAT IT READS IS OF BULK AT MOST 1048576: true; the input reads as it did. -/
def fnBlockChainUptoRow : OpenClaim := { program := "ytdaemhaecjldaaa", sum := "b3ebc61c40dc6aec04477561493c5e795b935db4ce5300c28ea931c4759dad80", func := "loop.example/blockexecutor/laws.FnBlockChain", spec := "fnBlockChain", unfollowed := true, recurses := true, apart := false, narrowed := true }
def FnBlockChainUptoSaid : Prop := fnBlockChainUptoRow.holds Try.pinned (OpenSpec.upto fnBlockChainSpec)

/-- 'laws.FnExactVoteFor', WHERE WHAT IT READS IS OF BULK AT MOST 1048576: true; the input reads as it did. -/
def fnExactVoteForUptoRow : OpenClaim := { program := "ytdaemhaecjldaaa", sum := "b3ebc61c40dc6aec04477561493c5e795b935db4ce5300c28ea931c4759dad80", func := "loop.example/blockexecutor/laws.FnExactVoteFor", spec := "fnExactVoteFor", unfollowed := true, recurses := true, apart := false, narrowed := true }
def FnExactVoteForUptoSaid : Prop := fnExactVoteForUptoRow.holds Try.pinned (OpenSpec.upto fnExactVoteForSpec)

/-- 'laws.FnExactNextBlock', WHERE WHAT IT READS IS OF BULK AT MOST 1048576: true; the input reads as it did. -/
def fnExactNextBlockUptoRow : OpenClaim := { program := "ytdaemhaecjldaaa", sum := "b3ebc61c40dc6aec04477561493c5e795b935db4ce5300c28ea931c4759dad80", func := "loop.example/blockexecutor/laws.FnExactNextBlock", spec := "fnExactNextBlock", unfollowed := true, recurses := true, apart := false, narrowed := true }
def FnExactNextBlockUptoSaid : Prop := fnExactNextBlockUptoRow.holds Try.pinned (OpenSpec.upto fnExactNextBlockSpec)

/-- 'laws.FnExactLeavesOf', WHERE WHAT IT READS IS OF BULK AT MOST 1048576: true; the input reads as it did. -/
def fnExactLeavesOfUptoRow : OpenClaim := { program := "ytdaemhaecjldaaa", sum := "b3ebc61c40dc6aec04477561493c5e795b935db4ce5300c28ea931c4759dad80", func := "loop.example/blockexecutor/laws.FnExactLeavesOf", spec := "fnExactLeavesOf", unfollowed := true, recurses := true, apart := false, narrowed := true }
def FnExactLeavesOfUptoSaid : Prop := fnExactLeavesOfUptoRow.holds Try.pinned (OpenSpec.upto fnExactLeavesOfSpec)

/-- 'laws.FnExactCertBlock', WHERE WHAT IT READS IS OF BULK AT MOST 1048576: true; the input reads as it did. -/
def fnExactCertBlockUptoRow : OpenClaim := { program := "ytdaemhaecjldaaa", sum := "b3ebc61c40dc6aec04477561493c5e795b935db4ce5300c28ea931c4759dad80", func := "loop.example/blockexecutor/laws.FnExactCertBlock", spec := "fnExactCertBlock", unfollowed := true, recurses := true, apart := false, narrowed := true }
def FnExactCertBlockUptoSaid : Prop := fnExactCertBlockUptoRow.holds Try.pinned (OpenSpec.upto fnExactCertBlockSpec)

/-- 'laws.FnExactWorldValid', WHERE WHAT IT READS IS OF BULK AT MOST 1048576: true; the input reads as it did. -/
def fnExactWorldValidUptoRow : OpenClaim := { program := "ytdaemhaecjldaaa", sum := "b3ebc61c40dc6aec04477561493c5e795b935db4ce5300c28ea931c4759dad80", func := "loop.example/blockexecutor/laws.FnExactWorldValid", spec := "fnExactWorldValid", unfollowed := true, recurses := true, apart := false, narrowed := true }
def FnExactWorldValidUptoSaid : Prop := fnExactWorldValidUptoRow.holds Try.pinned (OpenSpec.upto fnExactWorldValidSpec)

/-- 'laws.FnExactKeptBlocks', WHERE WHAT IT READS IS OF BULK AT MOST 1048576: true; the input reads as it did. -/
def fnExactKeptBlocksUptoRow : OpenClaim := { program := "ytdaemhaecjldaaa", sum := "b3ebc61c40dc6aec04477561493c5e795b935db4ce5300c28ea931c4759dad80", func := "loop.example/blockexecutor/laws.FnExactKeptBlocks", spec := "fnExactKeptBlocks", unfollowed := true, recurses := true, apart := false, narrowed := true }
def FnExactKeptBlocksUptoSaid : Prop := fnExactKeptBlocksUptoRow.holds Try.pinned (OpenSpec.upto fnExactKeptBlocksSpec)

end Rows
end Go.Proofs.Ytdaemhaecjldaaa
