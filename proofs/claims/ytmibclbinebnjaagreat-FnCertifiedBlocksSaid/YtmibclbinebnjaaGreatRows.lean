/-
  No cell of these rows narrows 'for every input' (looked for: loops, veiled, ifaces, maps, wideKeys, modest, calm, conditions, laid).
  DERIVED. THE GIVEN ROWS OF THIS SEAT. 17 by the template 'for every input the law returns true; each argument reads behind the call as it read before'; 0 by the template 'total and deterministic' (their statements: YtmibclbinebnjaaGreatTotals.lean).
  GIVEN WITH THE SEED: the statements are not yours to turn. If you find one false, say at which input.
  Laid BY PROGRAM, IN A SANDBOX (cutbox-rows.mjs): the forced cells as the released guide's own fill.sh prints them over the translation 0a7ae8a1be89bf3d… (all of the seat's roots in one cut). By AI agents, Wed Nov 11 2026. No macro, syntax, notation, axiom, sorry.
-/
import Derived.Test.YtmibclbinebnjaaGreatChecked
import GoSem.Claim
import GoSem.ClaimJoined
import GoSem.ClaimMapViews
import Derived.JoinedTies
import Derived.KernelRfl
namespace Go.Proofs.YtmibclbinebnjaaGreat
/- THE CELL 'sum', in the pinned program and in every row, IS THE sha256 OF THE DUMP (.gsa) THAT YtmibclbinebnjaaGreatProg.lean LOADS. Nothing in Lean hashes anything: it is a label: what it is worth is what the hold of that sum in a sandbox is worth. -/
noncomputable def Tryz.pinned : Pinned := { name := "ytmibclbinebnjaagreat", sum := "0a7ae8a1be89bf3de9710f618c497e06a0d803b24d15ea505e0217b80bec36f5", checked := Tryz.checked }
namespace Rows
def none {H : Type} : Left H := { results := [], args := [] }

/-- 'laws.FnWorldValid': WHATEVER THE INPUT: true; the input reads as it did. -/
def fnWorldValidSpec : ChangeSpec := { name := "fnWorldValid", fn := fun _ => fun
  | [d] => { results := [.lit (.bool true)], args := [d] }
  | _ => none }
def fnWorldValidRow : OpenClaim := { program := "ytmibclbinebnjaagreat", sum := "0a7ae8a1be89bf3de9710f618c497e06a0d803b24d15ea505e0217b80bec36f5", func := "loop.example/blockexecutor/laws.FnWorldValid", spec := "fnWorldValid", unfollowed := true, recurses := true, apart := false }
def FnWorldValidSaid : Prop := fnWorldValidRow.holds Tryz.pinned (OpenSpec.ofChange fnWorldValidSpec)

/-- ITS FALSE NEIGHBOUR: 'it returns false'. Refute it at one input. -/
def fnWorldValidWrong : ChangeSpec := { name := "fnWorldValid", fn := fun _ => fun
  | [d] => { results := [.lit (.bool false)], args := [d] }
  | _ => none }
def FnWorldValidWrongFalsely : Prop := fnWorldValidRow.holds Tryz.pinned (OpenSpec.ofChange fnWorldValidWrong)

/-- 'laws.FnCertBlock': WHATEVER THE INPUT: true; the input reads as it did. -/
def fnCertBlockSpec : ChangeSpec := { name := "fnCertBlock", fn := fun _ => fun
  | [d] => { results := [.lit (.bool true)], args := [d] }
  | _ => none }
def fnCertBlockRow : OpenClaim := { program := "ytmibclbinebnjaagreat", sum := "0a7ae8a1be89bf3de9710f618c497e06a0d803b24d15ea505e0217b80bec36f5", func := "loop.example/blockexecutor/laws.FnCertBlock", spec := "fnCertBlock", unfollowed := true, recurses := true, apart := false }
def FnCertBlockSaid : Prop := fnCertBlockRow.holds Tryz.pinned (OpenSpec.ofChange fnCertBlockSpec)

/-- ITS FALSE NEIGHBOUR: 'it returns false'. Refute it at one input. -/
def fnCertBlockWrong : ChangeSpec := { name := "fnCertBlock", fn := fun _ => fun
  | [d] => { results := [.lit (.bool false)], args := [d] }
  | _ => none }
def FnCertBlockWrongFalsely : Prop := fnCertBlockRow.holds Tryz.pinned (OpenSpec.ofChange fnCertBlockWrong)

/-- 'laws.FnCertifiedBlocks': WHATEVER THE INPUT: true; the input reads as it did. -/
def fnCertifiedBlocksSpec : ChangeSpec := { name := "fnCertifiedBlocks", fn := fun _ => fun
  | [d] => { results := [.lit (.bool true)], args := [d] }
  | _ => none }
def fnCertifiedBlocksRow : OpenClaim := { program := "ytmibclbinebnjaagreat", sum := "0a7ae8a1be89bf3de9710f618c497e06a0d803b24d15ea505e0217b80bec36f5", func := "loop.example/blockexecutor/laws.FnCertifiedBlocks", spec := "fnCertifiedBlocks", unfollowed := true, recurses := true, apart := false }
def FnCertifiedBlocksSaid : Prop := fnCertifiedBlocksRow.holds Tryz.pinned (OpenSpec.ofChange fnCertifiedBlocksSpec)

/-- ITS FALSE NEIGHBOUR: 'it returns false'. Refute it at one input. -/
def fnCertifiedBlocksWrong : ChangeSpec := { name := "fnCertifiedBlocks", fn := fun _ => fun
  | [d] => { results := [.lit (.bool false)], args := [d] }
  | _ => none }
def FnCertifiedBlocksWrongFalsely : Prop := fnCertifiedBlocksRow.holds Tryz.pinned (OpenSpec.ofChange fnCertifiedBlocksWrong)

/-- 'laws.FnExactCommittedTo': WHATEVER THE INPUT: true; the input reads as it did. -/
def fnExactCommittedToSpec : ChangeSpec := { name := "fnExactCommittedTo", fn := fun _ => fun
  | [d1, d2] => { results := [.lit (.bool true)], args := [d1, d2] }
  | _ => none }
def fnExactCommittedToRow : OpenClaim := { program := "ytmibclbinebnjaagreat", sum := "0a7ae8a1be89bf3de9710f618c497e06a0d803b24d15ea505e0217b80bec36f5", func := "loop.example/blockexecutor/laws.FnExactCommittedTo", spec := "fnExactCommittedTo", unfollowed := true, recurses := true, apart := false }
def FnExactCommittedToSaid : Prop := fnExactCommittedToRow.holds Tryz.pinned (OpenSpec.ofChange fnExactCommittedToSpec)

/-- ITS FALSE NEIGHBOUR: 'it returns false'. Refute it at one input. -/
def fnExactCommittedToWrong : ChangeSpec := { name := "fnExactCommittedTo", fn := fun _ => fun
  | [d1, d2] => { results := [.lit (.bool false)], args := [d1, d2] }
  | _ => none }
def FnExactCommittedToWrongFalsely : Prop := fnExactCommittedToRow.holds Tryz.pinned (OpenSpec.ofChange fnExactCommittedToWrong)

/-- 'laws.FnWorldCerts': WHATEVER THE INPUT: true; the input reads as it did. -/
def fnWorldCertsSpec : ChangeSpec := { name := "fnWorldCerts", fn := fun _ => fun
  | [d] => { results := [.lit (.bool true)], args := [d] }
  | _ => none }
def fnWorldCertsRow : OpenClaim := { program := "ytmibclbinebnjaagreat", sum := "0a7ae8a1be89bf3de9710f618c497e06a0d803b24d15ea505e0217b80bec36f5", func := "loop.example/blockexecutor/laws.FnWorldCerts", spec := "fnWorldCerts", unfollowed := true, recurses := true, apart := false }
def FnWorldCertsSaid : Prop := fnWorldCertsRow.holds Tryz.pinned (OpenSpec.ofChange fnWorldCertsSpec)

/-- ITS FALSE NEIGHBOUR: 'it returns false'. Refute it at one input. -/
def fnWorldCertsWrong : ChangeSpec := { name := "fnWorldCerts", fn := fun _ => fun
  | [d] => { results := [.lit (.bool false)], args := [d] }
  | _ => none }
def FnWorldCertsWrongFalsely : Prop := fnWorldCertsRow.holds Tryz.pinned (OpenSpec.ofChange fnWorldCertsWrong)

/-- 'laws.FnExactWorldCerts': WHATEVER THE INPUT: true; the input reads as it did. -/
def fnExactWorldCertsSpec : ChangeSpec := { name := "fnExactWorldCerts", fn := fun _ => fun
  | [d] => { results := [.lit (.bool true)], args := [d] }
  | _ => none }
def fnExactWorldCertsRow : OpenClaim := { program := "ytmibclbinebnjaagreat", sum := "0a7ae8a1be89bf3de9710f618c497e06a0d803b24d15ea505e0217b80bec36f5", func := "loop.example/blockexecutor/laws.FnExactWorldCerts", spec := "fnExactWorldCerts", unfollowed := true, recurses := true, apart := false }
def FnExactWorldCertsSaid : Prop := fnExactWorldCertsRow.holds Tryz.pinned (OpenSpec.ofChange fnExactWorldCertsSpec)

/-- ITS FALSE NEIGHBOUR: 'it returns false'. Refute it at one input. -/
def fnExactWorldCertsWrong : ChangeSpec := { name := "fnExactWorldCerts", fn := fun _ => fun
  | [d] => { results := [.lit (.bool false)], args := [d] }
  | _ => none }
def FnExactWorldCertsWrongFalsely : Prop := fnExactWorldCertsRow.holds Tryz.pinned (OpenSpec.ofChange fnExactWorldCertsWrong)

/-- 'laws.FnExactCertifiedBlocks': WHATEVER THE INPUT: true; the input reads as it did. -/
def fnExactCertifiedBlocksSpec : ChangeSpec := { name := "fnExactCertifiedBlocks", fn := fun _ => fun
  | [d1, d2] => { results := [.lit (.bool true)], args := [d1, d2] }
  | _ => none }
def fnExactCertifiedBlocksRow : OpenClaim := { program := "ytmibclbinebnjaagreat", sum := "0a7ae8a1be89bf3de9710f618c497e06a0d803b24d15ea505e0217b80bec36f5", func := "loop.example/blockexecutor/laws.FnExactCertifiedBlocks", spec := "fnExactCertifiedBlocks", unfollowed := true, recurses := true, apart := false }
def FnExactCertifiedBlocksSaid : Prop := fnExactCertifiedBlocksRow.holds Tryz.pinned (OpenSpec.ofChange fnExactCertifiedBlocksSpec)

/-- ITS FALSE NEIGHBOUR: 'it returns false'. Refute it at one input. -/
def fnExactCertifiedBlocksWrong : ChangeSpec := { name := "fnExactCertifiedBlocks", fn := fun _ => fun
  | [d1, d2] => { results := [.lit (.bool false)], args := [d1, d2] }
  | _ => none }
def FnExactCertifiedBlocksWrongFalsely : Prop := fnExactCertifiedBlocksRow.holds Tryz.pinned (OpenSpec.ofChange fnExactCertifiedBlocksWrong)

/-- 'laws.FnExactWorldOf': WHATEVER THE INPUT: true; the input reads as it did. -/
def fnExactWorldOfSpec : ChangeSpec := { name := "fnExactWorldOf", fn := fun _ => fun
  | [d] => { results := [.lit (.bool true)], args := [d] }
  | _ => none }
def fnExactWorldOfRow : OpenClaim := { program := "ytmibclbinebnjaagreat", sum := "0a7ae8a1be89bf3de9710f618c497e06a0d803b24d15ea505e0217b80bec36f5", func := "loop.example/blockexecutor/laws.FnExactWorldOf", spec := "fnExactWorldOf", unfollowed := true, recurses := true, apart := false }
def FnExactWorldOfSaid : Prop := fnExactWorldOfRow.holds Tryz.pinned (OpenSpec.ofChange fnExactWorldOfSpec)

/-- ITS FALSE NEIGHBOUR: 'it returns false'. Refute it at one input. -/
def fnExactWorldOfWrong : ChangeSpec := { name := "fnExactWorldOf", fn := fun _ => fun
  | [d] => { results := [.lit (.bool false)], args := [d] }
  | _ => none }
def FnExactWorldOfWrongFalsely : Prop := fnExactWorldOfRow.holds Tryz.pinned (OpenSpec.ofChange fnExactWorldOfWrong)

/-- 'laws.FnExactCommitsAgree': WHATEVER THE INPUT: true; the input reads as it did. -/
def fnExactCommitsAgreeSpec : ChangeSpec := { name := "fnExactCommitsAgree", fn := fun _ => fun
  | [d1, d2] => { results := [.lit (.bool true)], args := [d1, d2] }
  | _ => none }
def fnExactCommitsAgreeRow : OpenClaim := { program := "ytmibclbinebnjaagreat", sum := "0a7ae8a1be89bf3de9710f618c497e06a0d803b24d15ea505e0217b80bec36f5", func := "loop.example/blockexecutor/laws.FnExactCommitsAgree", spec := "fnExactCommitsAgree", unfollowed := true, recurses := true, apart := false }
def FnExactCommitsAgreeSaid : Prop := fnExactCommitsAgreeRow.holds Tryz.pinned (OpenSpec.ofChange fnExactCommitsAgreeSpec)

/-- ITS FALSE NEIGHBOUR: 'it returns false'. Refute it at one input. -/
def fnExactCommitsAgreeWrong : ChangeSpec := { name := "fnExactCommitsAgree", fn := fun _ => fun
  | [d1, d2] => { results := [.lit (.bool false)], args := [d1, d2] }
  | _ => none }
def FnExactCommitsAgreeWrongFalsely : Prop := fnExactCommitsAgreeRow.holds Tryz.pinned (OpenSpec.ofChange fnExactCommitsAgreeWrong)

/-- 'laws.FnExactCommitHeads': WHATEVER THE INPUT: true; the input reads as it did. -/
def fnExactCommitHeadsSpec : ChangeSpec := { name := "fnExactCommitHeads", fn := fun _ => fun
  | [d1, d2] => { results := [.lit (.bool true)], args := [d1, d2] }
  | _ => none }
def fnExactCommitHeadsRow : OpenClaim := { program := "ytmibclbinebnjaagreat", sum := "0a7ae8a1be89bf3de9710f618c497e06a0d803b24d15ea505e0217b80bec36f5", func := "loop.example/blockexecutor/laws.FnExactCommitHeads", spec := "fnExactCommitHeads", unfollowed := true, recurses := true, apart := false }
def FnExactCommitHeadsSaid : Prop := fnExactCommitHeadsRow.holds Tryz.pinned (OpenSpec.ofChange fnExactCommitHeadsSpec)

/-- ITS FALSE NEIGHBOUR: 'it returns false'. Refute it at one input. -/
def fnExactCommitHeadsWrong : ChangeSpec := { name := "fnExactCommitHeads", fn := fun _ => fun
  | [d1, d2] => { results := [.lit (.bool false)], args := [d1, d2] }
  | _ => none }
def FnExactCommitHeadsWrongFalsely : Prop := fnExactCommitHeadsRow.holds Tryz.pinned (OpenSpec.ofChange fnExactCommitHeadsWrong)

/-- 'laws.FnExactWorldHead': WHATEVER THE INPUT: true; the input reads as it did. -/
def fnExactWorldHeadSpec : ChangeSpec := { name := "fnExactWorldHead", fn := fun _ => fun
  | [d] => { results := [.lit (.bool true)], args := [d] }
  | _ => none }
def fnExactWorldHeadRow : OpenClaim := { program := "ytmibclbinebnjaagreat", sum := "0a7ae8a1be89bf3de9710f618c497e06a0d803b24d15ea505e0217b80bec36f5", func := "loop.example/blockexecutor/laws.FnExactWorldHead", spec := "fnExactWorldHead", unfollowed := true, recurses := true, apart := false }
def FnExactWorldHeadSaid : Prop := fnExactWorldHeadRow.holds Tryz.pinned (OpenSpec.ofChange fnExactWorldHeadSpec)

/-- ITS FALSE NEIGHBOUR: 'it returns false'. Refute it at one input. -/
def fnExactWorldHeadWrong : ChangeSpec := { name := "fnExactWorldHead", fn := fun _ => fun
  | [d] => { results := [.lit (.bool false)], args := [d] }
  | _ => none }
def FnExactWorldHeadWrongFalsely : Prop := fnExactWorldHeadRow.holds Tryz.pinned (OpenSpec.ofChange fnExactWorldHeadWrong)

/-- 'laws.FnExactWorldActions': WHATEVER THE INPUT: true; the input reads as it did. -/
def fnExactWorldActionsSpec : ChangeSpec := { name := "fnExactWorldActions", fn := fun _ => fun
  | [d] => { results := [.lit (.bool true)], args := [d] }
  | _ => none }
def fnExactWorldActionsRow : OpenClaim := { program := "ytmibclbinebnjaagreat", sum := "0a7ae8a1be89bf3de9710f618c497e06a0d803b24d15ea505e0217b80bec36f5", func := "loop.example/blockexecutor/laws.FnExactWorldActions", spec := "fnExactWorldActions", unfollowed := true, recurses := true, apart := false }
def FnExactWorldActionsSaid : Prop := fnExactWorldActionsRow.holds Tryz.pinned (OpenSpec.ofChange fnExactWorldActionsSpec)

/-- ITS FALSE NEIGHBOUR: 'it returns false'. Refute it at one input. -/
def fnExactWorldActionsWrong : ChangeSpec := { name := "fnExactWorldActions", fn := fun _ => fun
  | [d] => { results := [.lit (.bool false)], args := [d] }
  | _ => none }
def FnExactWorldActionsWrongFalsely : Prop := fnExactWorldActionsRow.holds Tryz.pinned (OpenSpec.ofChange fnExactWorldActionsWrong)

/-- 'laws.FnExactWorldVote': WHATEVER THE INPUT: true; the input reads as it did. -/
def fnExactWorldVoteSpec : ChangeSpec := { name := "fnExactWorldVote", fn := fun _ => fun
  | [d1, d2, d3] => { results := [.lit (.bool true)], args := [d1, d2, d3] }
  | _ => none }
def fnExactWorldVoteRow : OpenClaim := { program := "ytmibclbinebnjaagreat", sum := "0a7ae8a1be89bf3de9710f618c497e06a0d803b24d15ea505e0217b80bec36f5", func := "loop.example/blockexecutor/laws.FnExactWorldVote", spec := "fnExactWorldVote", unfollowed := true, recurses := true, apart := false }
def FnExactWorldVoteSaid : Prop := fnExactWorldVoteRow.holds Tryz.pinned (OpenSpec.ofChange fnExactWorldVoteSpec)

/-- ITS FALSE NEIGHBOUR: 'it returns false'. Refute it at one input. -/
def fnExactWorldVoteWrong : ChangeSpec := { name := "fnExactWorldVote", fn := fun _ => fun
  | [d1, d2, d3] => { results := [.lit (.bool false)], args := [d1, d2, d3] }
  | _ => none }
def FnExactWorldVoteWrongFalsely : Prop := fnExactWorldVoteRow.holds Tryz.pinned (OpenSpec.ofChange fnExactWorldVoteWrong)

/-- 'laws.FnExactGrowTree': WHATEVER THE INPUT: true; the input reads as it did. -/
def fnExactGrowTreeSpec : ChangeSpec := { name := "fnExactGrowTree", fn := fun _ => fun
  | [d1, d2, d3, d4] => { results := [.lit (.bool true)], args := [d1, d2, d3, d4] }
  | _ => none }
def fnExactGrowTreeRow : OpenClaim := { program := "ytmibclbinebnjaagreat", sum := "0a7ae8a1be89bf3de9710f618c497e06a0d803b24d15ea505e0217b80bec36f5", func := "loop.example/blockexecutor/laws.FnExactGrowTree", spec := "fnExactGrowTree", unfollowed := true, recurses := true, apart := false }
def FnExactGrowTreeSaid : Prop := fnExactGrowTreeRow.holds Tryz.pinned (OpenSpec.ofChange fnExactGrowTreeSpec)

/-- ITS FALSE NEIGHBOUR: 'it returns false'. Refute it at one input. -/
def fnExactGrowTreeWrong : ChangeSpec := { name := "fnExactGrowTree", fn := fun _ => fun
  | [d1, d2, d3, d4] => { results := [.lit (.bool false)], args := [d1, d2, d3, d4] }
  | _ => none }
def FnExactGrowTreeWrongFalsely : Prop := fnExactGrowTreeRow.holds Tryz.pinned (OpenSpec.ofChange fnExactGrowTreeWrong)

/-- 'laws.FnExactWorldRun': WHATEVER THE INPUT: true; the input reads as it did. -/
def fnExactWorldRunSpec : ChangeSpec := { name := "fnExactWorldRun", fn := fun _ => fun
  | [d1, d2] => { results := [.lit (.bool true)], args := [d1, d2] }
  | _ => none }
def fnExactWorldRunRow : OpenClaim := { program := "ytmibclbinebnjaagreat", sum := "0a7ae8a1be89bf3de9710f618c497e06a0d803b24d15ea505e0217b80bec36f5", func := "loop.example/blockexecutor/laws.FnExactWorldRun", spec := "fnExactWorldRun", unfollowed := true, recurses := true, apart := false }
def FnExactWorldRunSaid : Prop := fnExactWorldRunRow.holds Tryz.pinned (OpenSpec.ofChange fnExactWorldRunSpec)

/-- ITS FALSE NEIGHBOUR: 'it returns false'. Refute it at one input. -/
def fnExactWorldRunWrong : ChangeSpec := { name := "fnExactWorldRun", fn := fun _ => fun
  | [d1, d2] => { results := [.lit (.bool false)], args := [d1, d2] }
  | _ => none }
def FnExactWorldRunWrongFalsely : Prop := fnExactWorldRunRow.holds Tryz.pinned (OpenSpec.ofChange fnExactWorldRunWrong)

/-- 'laws.FnExactWorldStore': WHATEVER THE INPUT: true; the input reads as it did. -/
def fnExactWorldStoreSpec : ChangeSpec := { name := "fnExactWorldStore", fn := fun _ => fun
  | [d] => { results := [.lit (.bool true)], args := [d] }
  | _ => none }
def fnExactWorldStoreRow : OpenClaim := { program := "ytmibclbinebnjaagreat", sum := "0a7ae8a1be89bf3de9710f618c497e06a0d803b24d15ea505e0217b80bec36f5", func := "loop.example/blockexecutor/laws.FnExactWorldStore", spec := "fnExactWorldStore", unfollowed := true, recurses := true, apart := false }
def FnExactWorldStoreSaid : Prop := fnExactWorldStoreRow.holds Tryz.pinned (OpenSpec.ofChange fnExactWorldStoreSpec)

/-- ITS FALSE NEIGHBOUR: 'it returns false'. Refute it at one input. -/
def fnExactWorldStoreWrong : ChangeSpec := { name := "fnExactWorldStore", fn := fun _ => fun
  | [d] => { results := [.lit (.bool false)], args := [d] }
  | _ => none }
def FnExactWorldStoreWrongFalsely : Prop := fnExactWorldStoreRow.holds Tryz.pinned (OpenSpec.ofChange fnExactWorldStoreWrong)

/-- 'laws.FnExactWorldGrow': WHATEVER THE INPUT: true; the input reads as it did. -/
def fnExactWorldGrowSpec : ChangeSpec := { name := "fnExactWorldGrow", fn := fun _ => fun
  | [d1, d2, d3, d4] => { results := [.lit (.bool true)], args := [d1, d2, d3, d4] }
  | _ => none }
def fnExactWorldGrowRow : OpenClaim := { program := "ytmibclbinebnjaagreat", sum := "0a7ae8a1be89bf3de9710f618c497e06a0d803b24d15ea505e0217b80bec36f5", func := "loop.example/blockexecutor/laws.FnExactWorldGrow", spec := "fnExactWorldGrow", unfollowed := true, recurses := true, apart := false }
def FnExactWorldGrowSaid : Prop := fnExactWorldGrowRow.holds Tryz.pinned (OpenSpec.ofChange fnExactWorldGrowSpec)

/-- ITS FALSE NEIGHBOUR: 'it returns false'. Refute it at one input. -/
def fnExactWorldGrowWrong : ChangeSpec := { name := "fnExactWorldGrow", fn := fun _ => fun
  | [d1, d2, d3, d4] => { results := [.lit (.bool false)], args := [d1, d2, d3, d4] }
  | _ => none }
def FnExactWorldGrowWrongFalsely : Prop := fnExactWorldGrowRow.holds Tryz.pinned (OpenSpec.ofChange fnExactWorldGrowWrong)

/- THE SECOND FORM. 'bulk': how many values and letters a reading holds, each counted each time it is reached (what is shared counts as often as it is met; a slice's spare places count too). A statement '..UptoSaid' is the law's where the arguments, and the package variables that the reading takes, are together of bulk at most 1048576: NARROWER than '..Said'. Prove '..Said' where nothing that the law and all that it calls make is longer than what came in: it says more and counts as full. Else prove '..UptoSaid'. A law counts once. -/
mutual
def uptoBulk {H : Type} : DataW H → Nat
  | .lit (.string bytes) => bytes.length + 1
  | .lit _ => 1
  | .nil => 1
  | .ptr d => uptoBulk d + 1
  | .slice elems spare => uptoBulkAll elems + uptoBulkAll spare + 1
  | .agg parts => uptoBulkAll parts + 1
  | .iface _ d => uptoBulk d + 1
  | .map entries => uptoBulkEntries entries + 1
  | .held _ => 1
def uptoBulkAll {H : Type} : List (DataW H) → Nat
  | [] => 0
  | d :: r => uptoBulk d + uptoBulkAll r
def uptoBulkEntries {H : Type} : List (Lit × DataW H) → Nat
  | [] => 0
  | x :: r => uptoBulkEntry x + uptoBulkEntries r
def uptoBulkEntry {H : Type} : Lit × DataW H → Nat
  | (.string bytes, d) => bytes.length + uptoBulk d + 1
  | (_, d) => uptoBulk d + 1
 end
def uptoSmall : (H : Type) → List (DataW H) → Bool := fun _ ds => decide (uptoBulkAll ds ≤ 1048576)
def OpenSpec.upto (s : _root_.Go.ChangeSpec) : _root_.Go.OpenSpec := { _root_.Go.OpenSpec.ofChange s with cond := some uptoSmall }

/-- 'laws.FnWorldValid', WHERE WHAT IT READS IS OF BULK AT MOST 1048576: true; the input reads as it did. -/
def fnWorldValidUptoRow : OpenClaim := { program := "ytmibclbinebnjaagreat", sum := "0a7ae8a1be89bf3de9710f618c497e06a0d803b24d15ea505e0217b80bec36f5", func := "loop.example/blockexecutor/laws.FnWorldValid", spec := "fnWorldValid", unfollowed := true, recurses := true, apart := false, narrowed := true }
def FnWorldValidUptoSaid : Prop := fnWorldValidUptoRow.holds Tryz.pinned (OpenSpec.upto fnWorldValidSpec)

/-- 'laws.FnCertBlock', WHERE WHAT IT READS IS OF BULK AT MOST 1048576: true; the input reads as it did. -/
def fnCertBlockUptoRow : OpenClaim := { program := "ytmibclbinebnjaagreat", sum := "0a7ae8a1be89bf3de9710f618c497e06a0d803b24d15ea505e0217b80bec36f5", func := "loop.example/blockexecutor/laws.FnCertBlock", spec := "fnCertBlock", unfollowed := true, recurses := true, apart := false, narrowed := true }
def FnCertBlockUptoSaid : Prop := fnCertBlockUptoRow.holds Tryz.pinned (OpenSpec.upto fnCertBlockSpec)

/-- 'laws.FnCertifiedBlocks', WHERE WHAT IT READS IS OF BULK AT MOST 1048576: true; the input reads as it did. -/
def fnCertifiedBlocksUptoRow : OpenClaim := { program := "ytmibclbinebnjaagreat", sum := "0a7ae8a1be89bf3de9710f618c497e06a0d803b24d15ea505e0217b80bec36f5", func := "loop.example/blockexecutor/laws.FnCertifiedBlocks", spec := "fnCertifiedBlocks", unfollowed := true, recurses := true, apart := false, narrowed := true }
def FnCertifiedBlocksUptoSaid : Prop := fnCertifiedBlocksUptoRow.holds Tryz.pinned (OpenSpec.upto fnCertifiedBlocksSpec)

/-- 'laws.FnExactCommittedTo', WHERE WHAT IT READS IS OF BULK AT MOST 1048576: true; the input reads as it did. -/
def fnExactCommittedToUptoRow : OpenClaim := { program := "ytmibclbinebnjaagreat", sum := "0a7ae8a1be89bf3de9710f618c497e06a0d803b24d15ea505e0217b80bec36f5", func := "loop.example/blockexecutor/laws.FnExactCommittedTo", spec := "fnExactCommittedTo", unfollowed := true, recurses := true, apart := false, narrowed := true }
def FnExactCommittedToUptoSaid : Prop := fnExactCommittedToUptoRow.holds Tryz.pinned (OpenSpec.upto fnExactCommittedToSpec)

/-- 'laws.FnWorldCerts', WHERE WHAT IT READS IS OF BULK AT MOST 1048576: true; the input reads as it did. -/
def fnWorldCertsUptoRow : OpenClaim := { program := "ytmibclbinebnjaagreat", sum := "0a7ae8a1be89bf3de9710f618c497e06a0d803b24d15ea505e0217b80bec36f5", func := "loop.example/blockexecutor/laws.FnWorldCerts", spec := "fnWorldCerts", unfollowed := true, recurses := true, apart := false, narrowed := true }
def FnWorldCertsUptoSaid : Prop := fnWorldCertsUptoRow.holds Tryz.pinned (OpenSpec.upto fnWorldCertsSpec)

/-- 'laws.FnExactWorldCerts', WHERE WHAT IT READS IS OF BULK AT MOST 1048576: true; the input reads as it did. -/
def fnExactWorldCertsUptoRow : OpenClaim := { program := "ytmibclbinebnjaagreat", sum := "0a7ae8a1be89bf3de9710f618c497e06a0d803b24d15ea505e0217b80bec36f5", func := "loop.example/blockexecutor/laws.FnExactWorldCerts", spec := "fnExactWorldCerts", unfollowed := true, recurses := true, apart := false, narrowed := true }
def FnExactWorldCertsUptoSaid : Prop := fnExactWorldCertsUptoRow.holds Tryz.pinned (OpenSpec.upto fnExactWorldCertsSpec)

/-- 'laws.FnExactCertifiedBlocks', WHERE WHAT IT READS IS OF BULK AT MOST 1048576: true; the input reads as it did. -/
def fnExactCertifiedBlocksUptoRow : OpenClaim := { program := "ytmibclbinebnjaagreat", sum := "0a7ae8a1be89bf3de9710f618c497e06a0d803b24d15ea505e0217b80bec36f5", func := "loop.example/blockexecutor/laws.FnExactCertifiedBlocks", spec := "fnExactCertifiedBlocks", unfollowed := true, recurses := true, apart := false, narrowed := true }
def FnExactCertifiedBlocksUptoSaid : Prop := fnExactCertifiedBlocksUptoRow.holds Tryz.pinned (OpenSpec.upto fnExactCertifiedBlocksSpec)

/-- 'laws.FnExactWorldOf', WHERE WHAT IT READS IS OF BULK AT MOST 1048576: true; the input reads as it did. -/
def fnExactWorldOfUptoRow : OpenClaim := { program := "ytmibclbinebnjaagreat", sum := "0a7ae8a1be89bf3de9710f618c497e06a0d803b24d15ea505e0217b80bec36f5", func := "loop.example/blockexecutor/laws.FnExactWorldOf", spec := "fnExactWorldOf", unfollowed := true, recurses := true, apart := false, narrowed := true }
def FnExactWorldOfUptoSaid : Prop := fnExactWorldOfUptoRow.holds Tryz.pinned (OpenSpec.upto fnExactWorldOfSpec)

/-- 'laws.FnExactCommitsAgree', WHERE WHAT IT READS IS OF BULK AT MOST 1048576: true; the input reads as it did. -/
def fnExactCommitsAgreeUptoRow : OpenClaim := { program := "ytmibclbinebnjaagreat", sum := "0a7ae8a1be89bf3de9710f618c497e06a0d803b24d15ea505e0217b80bec36f5", func := "loop.example/blockexecutor/laws.FnExactCommitsAgree", spec := "fnExactCommitsAgree", unfollowed := true, recurses := true, apart := false, narrowed := true }
def FnExactCommitsAgreeUptoSaid : Prop := fnExactCommitsAgreeUptoRow.holds Tryz.pinned (OpenSpec.upto fnExactCommitsAgreeSpec)

/-- 'laws.FnExactCommitHeads', WHERE WHAT IT READS IS OF BULK AT MOST 1048576: true; the input reads as it did. -/
def fnExactCommitHeadsUptoRow : OpenClaim := { program := "ytmibclbinebnjaagreat", sum := "0a7ae8a1be89bf3de9710f618c497e06a0d803b24d15ea505e0217b80bec36f5", func := "loop.example/blockexecutor/laws.FnExactCommitHeads", spec := "fnExactCommitHeads", unfollowed := true, recurses := true, apart := false, narrowed := true }
def FnExactCommitHeadsUptoSaid : Prop := fnExactCommitHeadsUptoRow.holds Tryz.pinned (OpenSpec.upto fnExactCommitHeadsSpec)

/-- 'laws.FnExactWorldHead', WHERE WHAT IT READS IS OF BULK AT MOST 1048576: true; the input reads as it did. -/
def fnExactWorldHeadUptoRow : OpenClaim := { program := "ytmibclbinebnjaagreat", sum := "0a7ae8a1be89bf3de9710f618c497e06a0d803b24d15ea505e0217b80bec36f5", func := "loop.example/blockexecutor/laws.FnExactWorldHead", spec := "fnExactWorldHead", unfollowed := true, recurses := true, apart := false, narrowed := true }
def FnExactWorldHeadUptoSaid : Prop := fnExactWorldHeadUptoRow.holds Tryz.pinned (OpenSpec.upto fnExactWorldHeadSpec)

/-- 'laws.FnExactWorldActions', WHERE WHAT IT READS IS OF BULK AT MOST 1048576: true; the input reads as it did. -/
def fnExactWorldActionsUptoRow : OpenClaim := { program := "ytmibclbinebnjaagreat", sum := "0a7ae8a1be89bf3de9710f618c497e06a0d803b24d15ea505e0217b80bec36f5", func := "loop.example/blockexecutor/laws.FnExactWorldActions", spec := "fnExactWorldActions", unfollowed := true, recurses := true, apart := false, narrowed := true }
def FnExactWorldActionsUptoSaid : Prop := fnExactWorldActionsUptoRow.holds Tryz.pinned (OpenSpec.upto fnExactWorldActionsSpec)

/-- 'laws.FnExactWorldVote', WHERE WHAT IT READS IS OF BULK AT MOST 1048576: true; the input reads as it did. -/
def fnExactWorldVoteUptoRow : OpenClaim := { program := "ytmibclbinebnjaagreat", sum := "0a7ae8a1be89bf3de9710f618c497e06a0d803b24d15ea505e0217b80bec36f5", func := "loop.example/blockexecutor/laws.FnExactWorldVote", spec := "fnExactWorldVote", unfollowed := true, recurses := true, apart := false, narrowed := true }
def FnExactWorldVoteUptoSaid : Prop := fnExactWorldVoteUptoRow.holds Tryz.pinned (OpenSpec.upto fnExactWorldVoteSpec)

/-- 'laws.FnExactGrowTree', WHERE WHAT IT READS IS OF BULK AT MOST 1048576: true; the input reads as it did. -/
def fnExactGrowTreeUptoRow : OpenClaim := { program := "ytmibclbinebnjaagreat", sum := "0a7ae8a1be89bf3de9710f618c497e06a0d803b24d15ea505e0217b80bec36f5", func := "loop.example/blockexecutor/laws.FnExactGrowTree", spec := "fnExactGrowTree", unfollowed := true, recurses := true, apart := false, narrowed := true }
def FnExactGrowTreeUptoSaid : Prop := fnExactGrowTreeUptoRow.holds Tryz.pinned (OpenSpec.upto fnExactGrowTreeSpec)

/-- 'laws.FnExactWorldRun', WHERE WHAT IT READS IS OF BULK AT MOST 1048576: true; the input reads as it did. -/
def fnExactWorldRunUptoRow : OpenClaim := { program := "ytmibclbinebnjaagreat", sum := "0a7ae8a1be89bf3de9710f618c497e06a0d803b24d15ea505e0217b80bec36f5", func := "loop.example/blockexecutor/laws.FnExactWorldRun", spec := "fnExactWorldRun", unfollowed := true, recurses := true, apart := false, narrowed := true }
def FnExactWorldRunUptoSaid : Prop := fnExactWorldRunUptoRow.holds Tryz.pinned (OpenSpec.upto fnExactWorldRunSpec)

/-- 'laws.FnExactWorldStore', WHERE WHAT IT READS IS OF BULK AT MOST 1048576: true; the input reads as it did. -/
def fnExactWorldStoreUptoRow : OpenClaim := { program := "ytmibclbinebnjaagreat", sum := "0a7ae8a1be89bf3de9710f618c497e06a0d803b24d15ea505e0217b80bec36f5", func := "loop.example/blockexecutor/laws.FnExactWorldStore", spec := "fnExactWorldStore", unfollowed := true, recurses := true, apart := false, narrowed := true }
def FnExactWorldStoreUptoSaid : Prop := fnExactWorldStoreUptoRow.holds Tryz.pinned (OpenSpec.upto fnExactWorldStoreSpec)

/-- 'laws.FnExactWorldGrow', WHERE WHAT IT READS IS OF BULK AT MOST 1048576: true; the input reads as it did. -/
def fnExactWorldGrowUptoRow : OpenClaim := { program := "ytmibclbinebnjaagreat", sum := "0a7ae8a1be89bf3de9710f618c497e06a0d803b24d15ea505e0217b80bec36f5", func := "loop.example/blockexecutor/laws.FnExactWorldGrow", spec := "fnExactWorldGrow", unfollowed := true, recurses := true, apart := false, narrowed := true }
def FnExactWorldGrowUptoSaid : Prop := fnExactWorldGrowUptoRow.holds Tryz.pinned (OpenSpec.upto fnExactWorldGrowSpec)

end Rows
end Go.Proofs.YtmibclbinebnjaaGreat
