/-
  No cell of these rows narrows 'for every input' (looked for: loops, veiled, ifaces, maps, wideKeys, modest, calm, conditions, laid).
  DERIVED. THE GIVEN ROWS OF THIS SEAT. 8 by the template 'for every input the law returns true; each argument reads behind the call as it read before'; 0 by the template 'total and deterministic' (their statements: YteebkimhfaodnaaGreatTotals.lean).
  GIVEN WITH THE SEED: the statements are not yours to turn. If you find one false, say at which input.
  Laid BY PROGRAM, IN A SANDBOX (cutbox-rows.mjs): the forced cells as the released guide's own fill.sh prints them over the translation 94869d1a711e098e… (all of the seat's roots in one cut). By AI agents, Wed Nov 11 2026. No macro, syntax, notation, axiom, sorry.
-/
import Derived.Test.YteebkimhfaodnaaGreatChecked
import GoSem.Claim
import GoSem.ClaimJoined
import GoSem.ClaimMapViews
import Derived.JoinedTies
import Derived.KernelRfl
namespace Go.Proofs.YteebkimhfaodnaaGreat
/- THE CELL 'sum', in the pinned program and in every row, IS THE sha256 OF THE DUMP (.gsa) THAT YteebkimhfaodnaaGreatProg.lean LOADS. Nothing in Lean hashes anything: it is a label: what it is worth is what the hold of that sum in a sandbox is worth. -/
noncomputable def Tryz.pinned : Pinned := { name := "yteebkimhfaodnaagreat", sum := "94869d1a711e098e031ea0c9a3e380e02f893e48772bef49598bba0ec4becae1", checked := Tryz.checked }
namespace Rows
def none {H : Type} : Left H := { results := [], args := [] }

/-- 'laws.FnExactEngineStep': WHATEVER THE INPUT: true; the input reads as it did. -/
def fnExactEngineStepSpec : ChangeSpec := { name := "fnExactEngineStep", fn := fun _ => fun
  | [d1, d2] => { results := [.lit (.bool true)], args := [d1, d2] }
  | _ => none }
def fnExactEngineStepRow : OpenClaim := { program := "yteebkimhfaodnaagreat", sum := "94869d1a711e098e031ea0c9a3e380e02f893e48772bef49598bba0ec4becae1", func := "loop.example/blockexecutor/laws.FnExactEngineStep", spec := "fnExactEngineStep", unfollowed := true, recurses := true, apart := false }
def FnExactEngineStepSaid : Prop := fnExactEngineStepRow.holds Tryz.pinned (OpenSpec.ofChange fnExactEngineStepSpec)

/-- ITS FALSE NEIGHBOUR: 'it returns false'. Refute it at one input. -/
def fnExactEngineStepWrong : ChangeSpec := { name := "fnExactEngineStep", fn := fun _ => fun
  | [d1, d2] => { results := [.lit (.bool false)], args := [d1, d2] }
  | _ => none }
def FnExactEngineStepWrongFalsely : Prop := fnExactEngineStepRow.holds Tryz.pinned (OpenSpec.ofChange fnExactEngineStepWrong)

/-- 'laws.FnExactEngineRun': WHATEVER THE INPUT: true; the input reads as it did. -/
def fnExactEngineRunSpec : ChangeSpec := { name := "fnExactEngineRun", fn := fun _ => fun
  | [d1, d2] => { results := [.lit (.bool true)], args := [d1, d2] }
  | _ => none }
def fnExactEngineRunRow : OpenClaim := { program := "yteebkimhfaodnaagreat", sum := "94869d1a711e098e031ea0c9a3e380e02f893e48772bef49598bba0ec4becae1", func := "loop.example/blockexecutor/laws.FnExactEngineRun", spec := "fnExactEngineRun", unfollowed := true, recurses := true, apart := false }
def FnExactEngineRunSaid : Prop := fnExactEngineRunRow.holds Tryz.pinned (OpenSpec.ofChange fnExactEngineRunSpec)

/-- ITS FALSE NEIGHBOUR: 'it returns false'. Refute it at one input. -/
def fnExactEngineRunWrong : ChangeSpec := { name := "fnExactEngineRun", fn := fun _ => fun
  | [d1, d2] => { results := [.lit (.bool false)], args := [d1, d2] }
  | _ => none }
def FnExactEngineRunWrongFalsely : Prop := fnExactEngineRunRow.holds Tryz.pinned (OpenSpec.ofChange fnExactEngineRunWrong)

/-- 'laws.FnExactEngineFinish': WHATEVER THE INPUT: true; the input reads as it did. -/
def fnExactEngineFinishSpec : ChangeSpec := { name := "fnExactEngineFinish", fn := fun _ => fun
  | [d] => { results := [.lit (.bool true)], args := [d] }
  | _ => none }
def fnExactEngineFinishRow : OpenClaim := { program := "yteebkimhfaodnaagreat", sum := "94869d1a711e098e031ea0c9a3e380e02f893e48772bef49598bba0ec4becae1", func := "loop.example/blockexecutor/laws.FnExactEngineFinish", spec := "fnExactEngineFinish", unfollowed := true, recurses := true, apart := false }
def FnExactEngineFinishSaid : Prop := fnExactEngineFinishRow.holds Tryz.pinned (OpenSpec.ofChange fnExactEngineFinishSpec)

/-- ITS FALSE NEIGHBOUR: 'it returns false'. Refute it at one input. -/
def fnExactEngineFinishWrong : ChangeSpec := { name := "fnExactEngineFinish", fn := fun _ => fun
  | [d] => { results := [.lit (.bool false)], args := [d] }
  | _ => none }
def FnExactEngineFinishWrongFalsely : Prop := fnExactEngineFinishRow.holds Tryz.pinned (OpenSpec.ofChange fnExactEngineFinishWrong)

/-- 'laws.FnEngineStep': WHATEVER THE INPUT: true; the input reads as it did. -/
def fnEngineStepSpec : ChangeSpec := { name := "fnEngineStep", fn := fun _ => fun
  | [d] => { results := [.lit (.bool true)], args := [d] }
  | _ => none }
def fnEngineStepRow : OpenClaim := { program := "yteebkimhfaodnaagreat", sum := "94869d1a711e098e031ea0c9a3e380e02f893e48772bef49598bba0ec4becae1", func := "loop.example/blockexecutor/laws.FnEngineStep", spec := "fnEngineStep", unfollowed := true, recurses := true, apart := false }
def FnEngineStepSaid : Prop := fnEngineStepRow.holds Tryz.pinned (OpenSpec.ofChange fnEngineStepSpec)

/-- ITS FALSE NEIGHBOUR: 'it returns false'. Refute it at one input. -/
def fnEngineStepWrong : ChangeSpec := { name := "fnEngineStep", fn := fun _ => fun
  | [d] => { results := [.lit (.bool false)], args := [d] }
  | _ => none }
def FnEngineStepWrongFalsely : Prop := fnEngineStepRow.holds Tryz.pinned (OpenSpec.ofChange fnEngineStepWrong)

/-- 'laws.FnEngineAgain': WHATEVER THE INPUT: true; the input reads as it did. -/
def fnEngineAgainSpec : ChangeSpec := { name := "fnEngineAgain", fn := fun _ => fun
  | [d] => { results := [.lit (.bool true)], args := [d] }
  | _ => none }
def fnEngineAgainRow : OpenClaim := { program := "yteebkimhfaodnaagreat", sum := "94869d1a711e098e031ea0c9a3e380e02f893e48772bef49598bba0ec4becae1", func := "loop.example/blockexecutor/laws.FnEngineAgain", spec := "fnEngineAgain", unfollowed := true, recurses := true, apart := false }
def FnEngineAgainSaid : Prop := fnEngineAgainRow.holds Tryz.pinned (OpenSpec.ofChange fnEngineAgainSpec)

/-- ITS FALSE NEIGHBOUR: 'it returns false'. Refute it at one input. -/
def fnEngineAgainWrong : ChangeSpec := { name := "fnEngineAgain", fn := fun _ => fun
  | [d] => { results := [.lit (.bool false)], args := [d] }
  | _ => none }
def FnEngineAgainWrongFalsely : Prop := fnEngineAgainRow.holds Tryz.pinned (OpenSpec.ofChange fnEngineAgainWrong)

/-- 'laws.FnEngineResult': WHATEVER THE INPUT: true; the input reads as it did. -/
def fnEngineResultSpec : ChangeSpec := { name := "fnEngineResult", fn := fun _ => fun
  | [d] => { results := [.lit (.bool true)], args := [d] }
  | _ => none }
def fnEngineResultRow : OpenClaim := { program := "yteebkimhfaodnaagreat", sum := "94869d1a711e098e031ea0c9a3e380e02f893e48772bef49598bba0ec4becae1", func := "loop.example/blockexecutor/laws.FnEngineResult", spec := "fnEngineResult", unfollowed := true, recurses := true, apart := false }
def FnEngineResultSaid : Prop := fnEngineResultRow.holds Tryz.pinned (OpenSpec.ofChange fnEngineResultSpec)

/-- ITS FALSE NEIGHBOUR: 'it returns false'. Refute it at one input. -/
def fnEngineResultWrong : ChangeSpec := { name := "fnEngineResult", fn := fun _ => fun
  | [d] => { results := [.lit (.bool false)], args := [d] }
  | _ => none }
def FnEngineResultWrongFalsely : Prop := fnEngineResultRow.holds Tryz.pinned (OpenSpec.ofChange fnEngineResultWrong)

/-- 'laws.FnEngineFinish': WHATEVER THE INPUT: true; the input reads as it did. -/
def fnEngineFinishSpec : ChangeSpec := { name := "fnEngineFinish", fn := fun _ => fun
  | [d] => { results := [.lit (.bool true)], args := [d] }
  | _ => none }
def fnEngineFinishRow : OpenClaim := { program := "yteebkimhfaodnaagreat", sum := "94869d1a711e098e031ea0c9a3e380e02f893e48772bef49598bba0ec4becae1", func := "loop.example/blockexecutor/laws.FnEngineFinish", spec := "fnEngineFinish", unfollowed := true, recurses := true, apart := false }
def FnEngineFinishSaid : Prop := fnEngineFinishRow.holds Tryz.pinned (OpenSpec.ofChange fnEngineFinishSpec)

/-- ITS FALSE NEIGHBOUR: 'it returns false'. Refute it at one input. -/
def fnEngineFinishWrong : ChangeSpec := { name := "fnEngineFinish", fn := fun _ => fun
  | [d] => { results := [.lit (.bool false)], args := [d] }
  | _ => none }
def FnEngineFinishWrongFalsely : Prop := fnEngineFinishRow.holds Tryz.pinned (OpenSpec.ofChange fnEngineFinishWrong)

/-- 'laws.FnExactEngineResult': WHATEVER THE INPUT: true; the input reads as it did. -/
def fnExactEngineResultSpec : ChangeSpec := { name := "fnExactEngineResult", fn := fun _ => fun
  | [d] => { results := [.lit (.bool true)], args := [d] }
  | _ => none }
def fnExactEngineResultRow : OpenClaim := { program := "yteebkimhfaodnaagreat", sum := "94869d1a711e098e031ea0c9a3e380e02f893e48772bef49598bba0ec4becae1", func := "loop.example/blockexecutor/laws.FnExactEngineResult", spec := "fnExactEngineResult", unfollowed := true, recurses := true, apart := false }
def FnExactEngineResultSaid : Prop := fnExactEngineResultRow.holds Tryz.pinned (OpenSpec.ofChange fnExactEngineResultSpec)

/-- ITS FALSE NEIGHBOUR: 'it returns false'. Refute it at one input. -/
def fnExactEngineResultWrong : ChangeSpec := { name := "fnExactEngineResult", fn := fun _ => fun
  | [d] => { results := [.lit (.bool false)], args := [d] }
  | _ => none }
def FnExactEngineResultWrongFalsely : Prop := fnExactEngineResultRow.holds Tryz.pinned (OpenSpec.ofChange fnExactEngineResultWrong)

/- THE SECOND FORM. 'bulk': how many values and letters a reading holds, each counted each time it is reached (what is shared counts as often as it is met; a slice's spare places count too). A statement '..UptoSaid' is the law's where the arguments, and the package variables that the reading takes, are together of bulk at most 1048576: NARROWER than '..Said'. Prove '..Said' where nothing that the law and all that it calls make is longer than what came in: it says more and counts as full. Else prove '..UptoSaid'. A law counts once. -/
mutual
def uptoBulk {H : Type} : DataW H → Nat
  | .lit (.string bytes) => bytes.length + 1
  | .lit _ => 1
  | .nil => 1
  | .ptr d => uptoBulk d + 1
  | .slice elems spare => uptoBulkAll elems + uptoBulkAll spare + 1
  | .agg parts => uptoBulkAll parts + 1
  | .iface _ d => uptoBulk d + 1
  | .map entries => uptoBulkEntries entries + 1
  | .held _ => 1
def uptoBulkAll {H : Type} : List (DataW H) → Nat
  | [] => 0
  | d :: r => uptoBulk d + uptoBulkAll r
def uptoBulkEntries {H : Type} : List (Lit × DataW H) → Nat
  | [] => 0
  | x :: r => uptoBulkEntry x + uptoBulkEntries r
def uptoBulkEntry {H : Type} : Lit × DataW H → Nat
  | (.string bytes, d) => bytes.length + uptoBulk d + 1
  | (_, d) => uptoBulk d + 1
 end
def uptoSmall : (H : Type) → List (DataW H) → Bool := fun _ ds => decide (uptoBulkAll ds ≤ 1048576)
def OpenSpec.upto (s : _root_.Go.ChangeSpec) : _root_.Go.OpenSpec := { _root_.Go.OpenSpec.ofChange s with cond := some uptoSmall }

/-- 'laws.FnExactEngineStep', WHERE WHAT IT READS IS OF BULK AT MOST 1048576: true; the input reads as it did. -/
def fnExactEngineStepUptoRow : OpenClaim := { program := "yteebkimhfaodnaagreat", sum := "94869d1a711e098e031ea0c9a3e380e02f893e48772bef49598bba0ec4becae1", func := "loop.example/blockexecutor/laws.FnExactEngineStep", spec := "fnExactEngineStep", unfollowed := true, recurses := true, apart := false, narrowed := true }
def FnExactEngineStepUptoSaid : Prop := fnExactEngineStepUptoRow.holds Tryz.pinned (OpenSpec.upto fnExactEngineStepSpec)

/-- 'laws.FnExactEngineRun', WHERE WHAT IT READS IS OF BULK AT MOST 1048576: true; the input reads as it did. -/
def fnExactEngineRunUptoRow : OpenClaim := { program := "yteebkimhfaodnaagreat", sum := "94869d1a711e098e031ea0c9a3e380e02f893e48772bef49598bba0ec4becae1", func := "loop.example/blockexecutor/laws.FnExactEngineRun", spec := "fnExactEngineRun", unfollowed := true, recurses := true, apart := false, narrowed := true }
def FnExactEngineRunUptoSaid : Prop := fnExactEngineRunUptoRow.holds Tryz.pinned (OpenSpec.upto fnExactEngineRunSpec)

/-- 'laws.FnExactEngineFinish', WHERE WHAT IT READS IS OF BULK AT MOST 1048576: true; the input reads as it did. -/
def fnExactEngineFinishUptoRow : OpenClaim := { program := "yteebkimhfaodnaagreat", sum := "94869d1a711e098e031ea0c9a3e380e02f893e48772bef49598bba0ec4becae1", func := "loop.example/blockexecutor/laws.FnExactEngineFinish", spec := "fnExactEngineFinish", unfollowed := true, recurses := true, apart := false, narrowed := true }
def FnExactEngineFinishUptoSaid : Prop := fnExactEngineFinishUptoRow.holds Tryz.pinned (OpenSpec.upto fnExactEngineFinishSpec)

/-- 'laws.FnEngineStep', WHERE WHAT IT READS IS OF BULK AT MOST 1048576: true; the input reads as it did. -/
def fnEngineStepUptoRow : OpenClaim := { program := "yteebkimhfaodnaagreat", sum := "94869d1a711e098e031ea0c9a3e380e02f893e48772bef49598bba0ec4becae1", func := "loop.example/blockexecutor/laws.FnEngineStep", spec := "fnEngineStep", unfollowed := true, recurses := true, apart := false, narrowed := true }
def FnEngineStepUptoSaid : Prop := fnEngineStepUptoRow.holds Tryz.pinned (OpenSpec.upto fnEngineStepSpec)

/-- 'laws.FnEngineAgain', WHERE WHAT IT READS IS OF BULK AT MOST 1048576: true; the input reads as it did. -/
def fnEngineAgainUptoRow : OpenClaim := { program := "yteebkimhfaodnaagreat", sum := "94869d1a711e098e031ea0c9a3e380e02f893e48772bef49598bba0ec4becae1", func := "loop.example/blockexecutor/laws.FnEngineAgain", spec := "fnEngineAgain", unfollowed := true, recurses := true, apart := false, narrowed := true }
def FnEngineAgainUptoSaid : Prop := fnEngineAgainUptoRow.holds Tryz.pinned (OpenSpec.upto fnEngineAgainSpec)

/-- 'laws.FnEngineResult', WHERE WHAT IT READS IS OF BULK AT MOST 1048576: true; the input reads as it did. -/
def fnEngineResultUptoRow : OpenClaim := { program := "yteebkimhfaodnaagreat", sum := "94869d1a711e098e031ea0c9a3e380e02f893e48772bef49598bba0ec4becae1", func := "loop.example/blockexecutor/laws.FnEngineResult", spec := "fnEngineResult", unfollowed := true, recurses := true, apart := false, narrowed := true }
def FnEngineResultUptoSaid : Prop := fnEngineResultUptoRow.holds Tryz.pinned (OpenSpec.upto fnEngineResultSpec)

/-- 'laws.FnEngineFinish', WHERE WHAT IT READS IS OF BULK AT MOST 1048576: true; the input reads as it did. -/
def fnEngineFinishUptoRow : OpenClaim := { program := "yteebkimhfaodnaagreat", sum := "94869d1a711e098e031ea0c9a3e380e02f893e48772bef49598bba0ec4becae1", func := "loop.example/blockexecutor/laws.FnEngineFinish", spec := "fnEngineFinish", unfollowed := true, recurses := true, apart := false, narrowed := true }
def FnEngineFinishUptoSaid : Prop := fnEngineFinishUptoRow.holds Tryz.pinned (OpenSpec.upto fnEngineFinishSpec)

/-- 'laws.FnExactEngineResult', WHERE WHAT IT READS IS OF BULK AT MOST 1048576: true; the input reads as it did. -/
def fnExactEngineResultUptoRow : OpenClaim := { program := "yteebkimhfaodnaagreat", sum := "94869d1a711e098e031ea0c9a3e380e02f893e48772bef49598bba0ec4becae1", func := "loop.example/blockexecutor/laws.FnExactEngineResult", spec := "fnExactEngineResult", unfollowed := true, recurses := true, apart := false, narrowed := true }
def FnExactEngineResultUptoSaid : Prop := fnExactEngineResultUptoRow.holds Tryz.pinned (OpenSpec.upto fnExactEngineResultSpec)

end Rows
end Go.Proofs.YteebkimhfaodnaaGreat
