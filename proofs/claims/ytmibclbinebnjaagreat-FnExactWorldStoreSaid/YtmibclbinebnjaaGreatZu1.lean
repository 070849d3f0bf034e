/- FnExactWorldStore (part 1): C0, W42, W70, W46, W47, W48, W49, W50, W51, W52, W53, W95, W58, W97, W98, W101, W91, C91 -/
import Derived.Test.YtmibclbinebnjaaGreatRows
import Derived.ProofKit
import Derived.Maps.Views
import Derived.Test.YtmibclbinebnjaaGreatR2

set_option linter.unusedSimpArgs false
set_option linter.unusedVariables false

/- The closed facts that hold of the program alone. -/
namespace Go.Proofs.YtmibclbinebnjaaGreat
open Go Go.ChangeShapes Go.WideShapes Go.ChangeAt Go.RowKit

/-- The letters of the translation's header. -/
def headL : List Char := [.ofNat 104, .ofNat 97, .ofNat 114, .ofNat 110, .ofNat 101, .ofNat 115, .ofNat 115, .ofNat 32, .ofNat 101, .ofNat 53, .ofNat 101, .ofNat 101, .ofNat 53, .ofNat 50, .ofNat 48, .ofNat 48, .ofNat 52, .ofNat 55, .ofNat 102, .ofNat 56, .ofNat 101, .ofNat 50, .ofNat 52, .ofNat 100, .ofNat 51, .ofNat 101, .ofNat 97, .ofNat 53, .ofNat 99, .ofNat 50, .ofNat 98, .ofNat 97, .ofNat 53, .ofNat 48, .ofNat 56, .ofNat 50, .ofNat 53, .ofNat 100, .ofNat 101, .ofNat 97, .ofNat 102, .ofNat 48, .ofNat 53, .ofNat 52, .ofNat 98, .ofNat 97, .ofNat 52, .ofNat 97, .ofNat 53, .ofNat 101, .ofNat 57, .ofNat 55, .ofNat 56, .ofNat 51, .ofNat 48, .ofNat 48, .ofNat 57, .ofNat 50, .ofNat 50, .ofNat 56, .ofNat 56, .ofNat 101, .ofNat 52, .ofNat 54, .ofNat 51, .ofNat 48, .ofNat 102, .ofNat 101, .ofNat 52, .ofNat 52, .ofNat 49, .ofNat 51, .ofNat 32, .ofNat 99, .ofNat 117, .ofNat 116, .ofNat 32, .ofNat 97, .ofNat 116, .ofNat 32, .ofNat 108, .ofNat 111, .ofNat 111, .ofNat 112, .ofNat 46, .ofNat 101, .ofNat 120, .ofNat 97, .ofNat 109, .ofNat 112, .ofNat 108, .ofNat 101, .ofNat 47, .ofNat 98, .ofNat 108, .ofNat 111, .ofNat 99, .ofNat 107, .ofNat 101, .ofNat 120, .ofNat 101, .ofNat 99, .ofNat 117, .ofNat 116, .ofNat 111, .ofNat 114, .ofNat 47, .ofNat 108, .ofNat 97, .ofNat 119, .ofNat 115, .ofNat 46, .ofNat 70, .ofNat 110, .ofNat 87, .ofNat 111, .ofNat 114, .ofNat 108, .ofNat 100, .ofNat 86, .ofNat 97, .ofNat 108, .ofNat 105, .ofNat 100, .ofNat 32, .ofNat 108, .ofNat 111, .ofNat 111, .ofNat 112, .ofNat 46, .ofNat 101, .ofNat 120, .ofNat 97, .ofNat 109, .ofNat 112, .ofNat 108, .ofNat 101, .ofNat 47, .ofNat 98, .ofNat 108, .ofNat 111, .ofNat 99, .ofNat 107, .ofNat 101, .ofNat 120, .ofNat 101, .ofNat 99, .ofNat 117, .ofNat 116, .ofNat 111, .ofNat 114, .ofNat 47, .ofNat 108, .ofNat 97, .ofNat 119, .ofNat 115, .ofNat 46, .ofNat 70, .ofNat 110, .ofNat 67, .ofNat 101, .ofNat 114, .ofNat 116, .ofNat 66, .ofNat 108, .ofNat 111, .ofNat 99, .ofNat 107, .ofNat 32, .ofNat 108, .ofNat 111, .ofNat 111, .ofNat 112, .ofNat 46, .ofNat 101, .ofNat 120, .ofNat 97, .ofNat 109, .ofNat 112, .ofNat 108, .ofNat 101, .ofNat 47, .ofNat 98, .ofNat 108, .ofNat 111, .ofNat 99, .ofNat 107, .ofNat 101, .ofNat 120, .ofNat 101, .ofNat 99, .ofNat 117, .ofNat 116, .ofNat 111, .ofNat 114, .ofNat 47, .ofNat 108, .ofNat 97, .ofNat 119, .ofNat 115, .ofNat 46, .ofNat 70, .ofNat 110, .ofNat 67, .ofNat 101, .ofNat 114, .ofNat 116, .ofNat 105, .ofNat 102, .ofNat 105, .ofNat 101, .ofNat 100, .ofNat 66, .ofNat 108, .ofNat 111, .ofNat 99, .ofNat 107, .ofNat 115, .ofNat 32, .ofNat 108, .ofNat 111, .ofNat 111, .ofNat 112, .ofNat 46, .ofNat 101, .ofNat 120, .ofNat 97, .ofNat 109, .ofNat 112, .ofNat 108, .ofNat 101, .ofNat 47, .ofNat 98, .ofNat 108, .ofNat 111, .ofNat 99, .ofNat 107, .ofNat 101, .ofNat 120, .ofNat 101, .ofNat 99, .ofNat 117, .ofNat 116, .ofNat 111, .ofNat 114, .ofNat 47, .ofNat 108, .ofNat 97, .ofNat 119, .ofNat 115, .ofNat 46, .ofNat 70, .ofNat 110, .ofNat 69, .ofNat 120, .ofNat 97, .ofNat 99, .ofNat 116, .ofNat 67, .ofNat 111, .ofNat 109, .ofNat 109, .ofNat 105, .ofNat 116, .ofNat 116, .ofNat 101, .ofNat 100, .ofNat 84, .ofNat 111, .ofNat 32, .ofNat 108, .ofNat 111, .ofNat 111, .ofNat 112, .ofNat 46, .ofNat 101, .ofNat 120, .ofNat 97, .ofNat 109, .ofNat 112, .ofNat 108, .ofNat 101, .ofNat 47, .ofNat 98, .ofNat 108, .ofNat 111, .ofNat 99, .ofNat 107, .ofNat 101, .ofNat 120, .ofNat 101, .ofNat 99, .ofNat 117, .ofNat 116, .ofNat 111, .ofNat 114, .ofNat 47, .ofNat 108, .ofNat 97, .ofNat 119, .ofNat 115, .ofNat 46, .ofNat 70, .ofNat 110, .ofNat 87, .ofNat 111, .ofNat 114, .ofNat 108, .ofNat 100, .ofNat 67, .ofNat 101, .ofNat 114, .ofNat 116, .ofNat 115, .ofNat 32, .ofNat 108, .ofNat 111, .ofNat 111, .ofNat 112, .ofNat 46, .ofNat 101, .ofNat 120, .ofNat 97, .ofNat 109, .ofNat 112, .ofNat 108, .ofNat 101, .ofNat 47, .ofNat 98, .ofNat 108, .ofNat 111, .ofNat 99, .ofNat 107, .ofNat 101, .ofNat 120, .ofNat 101, .ofNat 99, .ofNat 117, .ofNat 116, .ofNat 111, .ofNat 114, .ofNat 47, .ofNat 108, .ofNat 97, .ofNat 119, .ofNat 115, .ofNat 46, .ofNat 70, .ofNat 110, .ofNat 69, .ofNat 120, .ofNat 97, .ofNat 99, .ofNat 116, .ofNat 87, .ofNat 111, .ofNat 114, .ofNat 108, .ofNat 100, .ofNat 67, .ofNat 101, .ofNat 114, .ofNat 116, .ofNat 115, .ofNat 32, .ofNat 108, .ofNat 111, .ofNat 111, .ofNat 112, .ofNat 46, .ofNat 101, .ofNat 120, .ofNat 97, .ofNat 109, .ofNat 112, .ofNat 108, .ofNat 101, .ofNat 47, .ofNat 98, .ofNat 108, .ofNat 111, .ofNat 99, .ofNat 107, .ofNat 101, .ofNat 120, .ofNat 101, .ofNat 99, .ofNat 117, .ofNat 116, .ofNat 111, .ofNat 114, .ofNat 47, .ofNat 108, .ofNat 97, .ofNat 119, .ofNat 115, .ofNat 46, .ofNat 70, .ofNat 110, .ofNat 69, .ofNat 120, .ofNat 97, .ofNat 99, .ofNat 116, .ofNat 67, .ofNat 101, .ofNat 114, .ofNat 116, .ofNat 105, .ofNat 102, .ofNat 105, .ofNat 101, .ofNat 100, .ofNat 66, .ofNat 108, .ofNat 111, .ofNat 99, .ofNat 107, .ofNat 115, .ofNat 32, .ofNat 108, .ofNat 111, .ofNat 111, .ofNat 112, .ofNat 46, .ofNat 101, .ofNat 120, .ofNat 97, .ofNat 109, .ofNat 112, .ofNat 108, .ofNat 101, .ofNat 47, .ofNat 98, .ofNat 108, .ofNat 111, .ofNat 99, .ofNat 107, .ofNat 101, .ofNat 120, .ofNat 101, .ofNat 99, .ofNat 117, .ofNat 116, .ofNat 111, .ofNat 114, .ofNat 47, .ofNat 108, .ofNat 97, .ofNat 119, .ofNat 115, .ofNat 46, .ofNat 70, .ofNat 110, .ofNat 69, .ofNat 120, .ofNat 97, .ofNat 99, .ofNat 116, .ofNat 87, .ofNat 111, .ofNat 114, .ofNat 108, .ofNat 100, .ofNat 79, .ofNat 102, .ofNat 32, .ofNat 108, .ofNat 111, .ofNat 111, .ofNat 112, .ofNat 46, .ofNat 101, .ofNat 120, .ofNat 97, .ofNat 109, .ofNat 112, .ofNat 108, .ofNat 101, .ofNat 47, .ofNat 98, .ofNat 108, .ofNat 111, .ofNat 99, .ofNat 107, .ofNat 101, .ofNat 120, .ofNat 101, .ofNat 99, .ofNat 117, .ofNat 116, .ofNat 111, .ofNat 114, .ofNat 47, .ofNat 108, .ofNat 97, .ofNat 119, .ofNat 115, .ofNat 46, .ofNat 70, .ofNat 110, .ofNat 69, .ofNat 120, .ofNat 97, .ofNat 99, .ofNat 116, .ofNat 67, .ofNat 111, .ofNat 109, .ofNat 109, .ofNat 105, .ofNat 116, .ofNat 115, .ofNat 65, .ofNat 103, .ofNat 114, .ofNat 101, .ofNat 101, .ofNat 32, .ofNat 108, .ofNat 111, .ofNat 111, .ofNat 112, .ofNat 46, .ofNat 101, .ofNat 120, .ofNat 97, .ofNat 109, .ofNat 112, .ofNat 108, .ofNat 101, .ofNat 47, .ofNat 98, .ofNat 108, .ofNat 111, .ofNat 99, .ofNat 107, .ofNat 101, .ofNat 120, .ofNat 101, .ofNat 99, .ofNat 117, .ofNat 116, .ofNat 111, .ofNat 114, .ofNat 47, .ofNat 108, .ofNat 97, .ofNat 119, .ofNat 115, .ofNat 46, .ofNat 70, .ofNat 110, .ofNat 69, .ofNat 120, .ofNat 97, .ofNat 99, .ofNat 116, .ofNat 67, .ofNat 111, .ofNat 109, .ofNat 109, .ofNat 105, .ofNat 116, .ofNat 72, .ofNat 101, .ofNat 97, .ofNat 100, .ofNat 115, .ofNat 32, .ofNat 108, .ofNat 111, .ofNat 111, .ofNat 112, .ofNat 46, .ofNat 101, .ofNat 120, .ofNat 97, .ofNat 109, .ofNat 112, .ofNat 108, .ofNat 101, .ofNat 47, .ofNat 98, .ofNat 108, .ofNat 111, .ofNat 99, .ofNat 107, .ofNat 101, .ofNat 120, .ofNat 101, .ofNat 99, .ofNat 117, .ofNat 116, .ofNat 111, .ofNat 114, .ofNat 47, .ofNat 108, .ofNat 97, .ofNat 119, .ofNat 115, .ofNat 46, .ofNat 70, .ofNat 110, .ofNat 69, .ofNat 120, .ofNat 97, .ofNat 99, .ofNat 116, .ofNat 87, .ofNat 111, .ofNat 114, .ofNat 108, .ofNat 100, .ofNat 72, .ofNat 101, .ofNat 97, .ofNat 100, .ofNat 32, .ofNat 108, .ofNat 111, .ofNat 111, .ofNat 112, .ofNat 46, .ofNat 101, .ofNat 120, .ofNat 97, .ofNat 109, .ofNat 112, .ofNat 108, .ofNat 101, .ofNat 47, .ofNat 98, .ofNat 108, .ofNat 111, .ofNat 99, .ofNat 107, .ofNat 101, .ofNat 120, .ofNat 101, .ofNat 99, .ofNat 117, .ofNat 116, .ofNat 111, .ofNat 114, .ofNat 47, .ofNat 108, .ofNat 97, .ofNat 119, .ofNat 115, .ofNat 46, .ofNat 70, .ofNat 110, .ofNat 69, .ofNat 120, .ofNat 97, .ofNat 99, .ofNat 116, .ofNat 87, .ofNat 111, .ofNat 114, .ofNat 108, .ofNat 100, .ofNat 65, .ofNat 99, .ofNat 116, .ofNat 105, .ofNat 111, .ofNat 110, .ofNat 115, .ofNat 32, .ofNat 108, .ofNat 111, .ofNat 111, .ofNat 112, .ofNat 46, .ofNat 101, .ofNat 120, .ofNat 97, .ofNat 109, .ofNat 112, .ofNat 108, .ofNat 101, .ofNat 47, .ofNat 98, .ofNat 108, .ofNat 111, .ofNat 99, .ofNat 107, .ofNat 101, .ofNat 120, .ofNat 101, .ofNat 99, .ofNat 117, .ofNat 116, .ofNat 111, .ofNat 114, .ofNat 47, .ofNat 108, .ofNat 97, .ofNat 119, .ofNat 115, .ofNat 46, .ofNat 70, .ofNat 110, .ofNat 69, .ofNat 120, .ofNat 97, .ofNat 99, .ofNat 116, .ofNat 87, .ofNat 111, .ofNat 114, .ofNat 108, .ofNat 100, .ofNat 86, .ofNat 111, .ofNat 116, .ofNat 101, .ofNat 32, .ofNat 108, .ofNat 111, .ofNat 111, .ofNat 112, .ofNat 46, .ofNat 101, .ofNat 120, .ofNat 97, .ofNat 109, .ofNat 112, .ofNat 108, .ofNat 101, .ofNat 47, .ofNat 98, .ofNat 108, .ofNat 111, .ofNat 99, .ofNat 107, .ofNat 101, .ofNat 120, .ofNat 101, .ofNat 99, .ofNat 117, .ofNat 116, .ofNat 111, .ofNat 114, .ofNat 47, .ofNat 108, .ofNat 97, .ofNat 119, .ofNat 115, .ofNat 46, .ofNat 70, .ofNat 110, .ofNat 69, .ofNat 120, .ofNat 97, .ofNat 99, .ofNat 116, .ofNat 71, .ofNat 114, .ofNat 111, .ofNat 119, .ofNat 84, .ofNat 114, .ofNat 101, .ofNat 101, .ofNat 32, .ofNat 108, .ofNat 111, .ofNat 111, .ofNat 112, .ofNat 46, .ofNat 101, .ofNat 120, .ofNat 97, .ofNat 109, .ofNat 112, .ofNat 108, .ofNat 101, .ofNat 47, .ofNat 98, .ofNat 108, .ofNat 111, .ofNat 99, .ofNat 107, .ofNat 101, .ofNat 120, .ofNat 101, .ofNat 99, .ofNat 117, .ofNat 116, .ofNat 111, .ofNat 114, .ofNat 47, .ofNat 108, .ofNat 97, .ofNat 119, .ofNat 115, .ofNat 46, .ofNat 70, .ofNat 110, .ofNat 69, .ofNat 120, .ofNat 97, .ofNat 99, .ofNat 116, .ofNat 87, .ofNat 111, .ofNat 114, .ofNat 108, .ofNat 100, .ofNat 82, .ofNat 117, .ofNat 110, .ofNat 32, .ofNat 108, .ofNat 111, .ofNat 111, .ofNat 112, .ofNat 46, .ofNat 101, .ofNat 120, .ofNat 97, .ofNat 109, .ofNat 112, .ofNat 108, .ofNat 101, .ofNat 47, .ofNat 98, .ofNat 108, .ofNat 111, .ofNat 99, .ofNat 107, .ofNat 101, .ofNat 120, .ofNat 101, .ofNat 99, .ofNat 117, .ofNat 116, .ofNat 111, .ofNat 114, .ofNat 47, .ofNat 108, .ofNat 97, .ofNat 119, .ofNat 115, .ofNat 46, .ofNat 70, .ofNat 110, .ofNat 69, .ofNat 120, .ofNat 97, .ofNat 99, .ofNat 116, .ofNat 87, .ofNat 111, .ofNat 114, .ofNat 108, .ofNat 100, .ofNat 83, .ofNat 116, .ofNat 111, .ofNat 114, .ofNat 101, .ofNat 32, .ofNat 108, .ofNat 111, .ofNat 111, .ofNat 112, .ofNat 46, .ofNat 101, .ofNat 120, .ofNat 97, .ofNat 109, .ofNat 112, .ofNat 108, .ofNat 101, .ofNat 47, .ofNat 98, .ofNat 108, .ofNat 111, .ofNat 99, .ofNat 107, .ofNat 101, .ofNat 120, .ofNat 101, .ofNat 99, .ofNat 117, .ofNat 116, .ofNat 111, .ofNat 114, .ofNat 47, .ofNat 108, .ofNat 97, .ofNat 119, .ofNat 115, .ofNat 46, .ofNat 70, .ofNat 110, .ofNat 69, .ofNat 120, .ofNat 97, .ofNat 99, .ofNat 116, .ofNat 87, .ofNat 111, .ofNat 114, .ofNat 108, .ofNat 100, .ofNat 71, .ofNat 114, .ofNat 111, .ofNat 119]
/-- The header itself. -/
def headS : String := "harness e5ee520047f8e24d3ea5c2ba50825deaf054ba4a5e97830092288e4630fe4413 cut at loop.example/blockexecutor/laws.FnWorldValid loop.example/blockexecutor/laws.FnCertBlock loop.example/blockexecutor/laws.FnCertifiedBlocks loop.example/blockexecutor/laws.FnExactCommittedTo loop.example/blockexecutor/laws.FnWorldCerts loop.example/blockexecutor/laws.FnExactWorldCerts loop.example/blockexecutor/laws.FnExactCertifiedBlocks loop.example/blockexecutor/laws.FnExactWorldOf loop.example/blockexecutor/laws.FnExactCommitsAgree loop.example/blockexecutor/laws.FnExactCommitHeads loop.example/blockexecutor/laws.FnExactWorldHead loop.example/blockexecutor/laws.FnExactWorldActions loop.example/blockexecutor/laws.FnExactWorldVote loop.example/blockexecutor/laws.FnExactGrowTree loop.example/blockexecutor/laws.FnExactWorldRun loop.example/blockexecutor/laws.FnExactWorldStore loop.example/blockexecutor/laws.FnExactWorldGrow"
set_option maxRecDepth 100000 in
theorem head_is : Tryz.pinned.checked.prog.initOrder = headS := by kernel_rfl
set_option maxRecDepth 100000 in
theorem head_bytes : headS.toByteArray = List.utf8Encode headL := by kernel_rfl
set_option maxRecDepth 100000 in
theorem list_bytes : (String.ofList headL).toByteArray = List.utf8Encode headL := by kernel_rfl
theorem head_eq : Tryz.pinned.checked.prog.initOrder = String.ofList headL := head_is.trans (String.toByteArray_inj.1 (head_bytes.trans list_bytes.symm))
theorem head_list : Tryz.pinned.checked.prog.initOrder.toList = headL := by rw [head_eq, String.toList_ofList]
set_option maxRecDepth 100000 in
theorem head_word : behindMainWord (wordsSigns headL) = "cut".toList :: (behindMainWord (wordsSigns headL)).tail := by kernel_rfl
theorem cut_strip (r : List (List Char)) : stripLifts liftWords ("cut".toList :: r) = ([], "cut".toList :: r) := by kernel_rfl
set_option maxRecDepth 100000 in
theorem c_headLifts : Tryz.pinned.checked.prog.headLifts = [] := by
  unfold Program.headLifts
  rw [head_list, head_word, cut_strip]
  kernel_rfl
set_option maxRecDepth 100000 in
theorem c_lays : Tryz.pinned.checked.prog.laysLater = false := by kernel_rfl
set_option maxRecDepth 100000 in
theorem c_bears : Tryz.pinned.checked.prog.bearsReflect = false := by kernel_rfl
set_option maxRecDepth 100000 in
theorem c_door : Tryz.pinned.checked.prog.doorFits [] = true := by kernel_rfl
theorem enter_cut {P : Program} {r : List (List Char)} (h : behindMainWord (wordsSigns P.initOrder.toList) = "cut".toList :: r) (h1 : P.laysLater = false) (h2 : P.bearsReflect = false) (h3 : P.doorFits [] = true) : P.mayEnter = true := by
  unfold Program.mayEnter
  rw [h]
  dsimp only
  rw [cut_strip, h1, h2]
  dsimp only
  rw [h3]
  kernel_rfl
theorem final_cut {P : Program} {r : List (List Char)} (h : behindMainWord (wordsSigns P.initOrder.toList) = "cut".toList :: r) (h1 : P.headLifts = []) : P.liftsFinal = false := by
  unfold Program.liftsFinal
  rw [h, h1]
  kernel_rfl
theorem make_cut {P : Program} {r : List (List Char)} (h : behindMainWord (wordsSigns P.initOrder.toList) = "cut".toList :: r) : P.make = some .cut := by
  unfold Program.make
  rw [h]
  kernel_rfl
theorem head_words : behindMainWord (wordsSigns Tryz.pinned.checked.prog.initOrder.toList) = "cut".toList :: (behindMainWord (wordsSigns headL)).tail := by rw [head_list]; exact head_word
theorem c_enter : Tryz.pinned.checked.prog.mayEnter = true := enter_cut head_words c_lays c_bears c_door
theorem c_final : Tryz.pinned.checked.prog.liftsFinal = false := final_cut head_words c_headLifts
theorem c_make : Tryz.pinned.checked.prog.make = some .cut := make_cut head_words

end Go.Proofs.YtmibclbinebnjaaGreat

/- Contracts: engines, and their copies. -/
set_option linter.unusedSimpArgs false
set_option linter.unusedVariables false
set_option maxRecDepth 20000
set_option maxHeartbeats 4000000
namespace Go.Proofs.YtmibclbinebnjaaGreat
open Go Go.RowKit

theorem semL_nilVA {P : Program} {B : Base} {c : Code} {s : AState} {Kx : Exit → AState → Prop} (vid j id sz : Nat) (own : Bool) {cs : List AV} (h0 : s.blk vid = .var cs) (hj : j < cs.length) (h1 : cs.getD j .top = .sl (some false) []) (h2 : s.blk id = .none) (h3 : nF id) (h4 : 0 < sz)
    (h : @SemL P B c { s with hp := (vid, .var (cs.set j (.row id 0))) :: (id, .row own false sz []) :: s.hp } ⟨Kx⟩) : @SemL P B c s ⟨Kx⟩ := @semL_nilV _ _ _ _ ⟨Kx⟩ vid j id sz own _ h0 hj h1 h2 h3 h4 h

structure Version where
  key : Int
  by_ : Int
  value : Int
deriving DecidableEq, Inhabited
def encR (v : Version) : List AV := [.int .i64 v.key, .int .i64 v.by_, .int .i64 v.value]

structure Effect where
  done : Bool
  reads : List Entry
  writes : List Entry
deriving DecidableEq, Inhabited
def encF (n1 n2 : Option Bool) (e : Effect) : List AV := [.bool e.done, .sl n1 (rows encE e.reads), .sl n2 (rows encE e.writes)]

structure Slot where
  stage : Int
  tries : Int
  fr : List Int
  res : Effect
deriving DecidableEq, Inhabited
def encS (n1 n2 n3 : Option Bool) (s : Slot) : List AV := [.int .i64 s.stage, .int .i64 s.tries, .sl n1 (rows encI s.fr), .bool s.res.done, .sl n2 (rows encE s.res.reads), .sl n3 (rows encE s.res.writes)]
def encS1 (s : Slot) : List AV := encS none none none s

structure Engine where
  base : List Entry
  list : List Action
  versions : List Version
  slots : List Slot
deriving DecidableEq, Inhabited
def encG (n1 n2 n3 n4 : Option Bool) (e : Engine) : List AV := [.sl n1 (rows encE e.base), .sl n2 (rows encA e.list), .sl n3 (rows encR e.versions), .sl n4 (rows encS1 e.slots)]
def encGO (e : Engine) : List AV := [.osl true 2 (rows encE e.base), .osl true 4 (rows encA e.list), .osl true 3 (rows encR e.versions), .osl true 6 (rows encS1 e.slots)]
def encGF (e : Engine) : List AV := [.osl false 2 (rows encE e.base), .osl false 4 (rows encA e.list), .osl false 3 (rows encR e.versions), .osl false 6 (rows encS1 e.slots)]

/-- The sizes of a slot's lists. -/
structure SlotSz (n : Nat) (s : Slot) : Prop where
  fr : s.fr.length < n
  reads : s.res.reads.length < n
  writes : s.res.writes.length < n
structure EngSz (n : Nat) (e : Engine) : Prop where
  base : e.base.length < n
  list : e.list.length < n
  versions : e.versions.length < n
  slots : e.slots.length < n
  each : ∀ s, s ∈ e.slots → SlotSz n s

section
variable {α : Type} (e : α → List AV)
theorem all_rows (p : AV → Bool) (h : ∀ x, (e x).all p = true) (xs : List α) : ((rows e xs).all fun r => r.all p) = true := by
  rw [List.all_eq_true]
  intro r hr
  obtain ⟨x, _, rfl⟩ := List.mem_map.1 hr
  exact h x
theorem sz0_rows (n : Nat) (h : ∀ x, (e x).length = n) (xs : List α) : xs.length = 0 ∨ ((rows e xs).getD 0 []).length = n := by
  cases xs with
  | nil => exact .inl rfl
  | cons x r => exact .inr (h x)
end

theorem c_impl_cloneEntries (n1 : Option Bool) (xs : List Entry) (hx : xs.length < 2 ^ 32) : Det Tryz.prog 190 [.sl n1 (rows encE xs)] (.osl false 2 (rows encE xs)) := by
  refine fspec_det tab_ok Tryz.call190 Tryz.func190 rfl 5 Tryz.ntmps190 (of_decide_eq_true rfl) fun B => codeK_sound tab_ok _ _ _ ?_
  have h1 := all_rows encE AV.flat (fun _ => rfl) xs
  have h2 := all_rows encE AV.one (fun _ => rfl) xs
  have h3 := sz0_rows encE 2 (fun _ => rfl) xs
  simp (config := { maxSteps := 4000000 }) only [go_sem, simprocAttr, ↓dnA, Tryz.f190, rows_length]
  repeat refine And.intro (by first | omega | (simp; done) | (simp; omega) | assumption) ?_
  omega

def slot0 : Slot := ⟨0, 0, [], ⟨false, [], []⟩⟩
/-- The engine in which nothing has been tried. -/
def engineOf (s : List Entry) (l : List Action) : Engine := if storeValid s && actionsValid l then ⟨s, l, [], List.replicate l.length slot0⟩ else ⟨[], [], [], []⟩

theorem slot0_rows (n : Nat) : List.replicate n (encS1 slot0) = rows encS1 (List.replicate n slot0) := rows_replicate _ _ _


end Go.Proofs.YtmibclbinebnjaaGreat

/- Worlds: new ones, their certificates, what is committed in them: plain. -/
set_option linter.unusedSimpArgs false
set_option linter.unusedVariables false
set_option maxRecDepth 20000
set_option maxHeartbeats 4000000
namespace Go.Proofs.YtmibclbinebnjaaGreat
open Go Go.RowKit

def noW : Wld := ⟨⟨[], [], []⟩, [], []⟩
noncomputable def worldOf (t : Tree) : Wld := if treeValid t then ⟨t, List.replicate 4 ⟨0, 0⟩, List.replicate t.blocks.length 0⟩ else noW
def encWF (w : Wld) : List AV :=
  [.osl false 2 (rows encE w.tree.base), .osl false 6 (rows encB1 w.tree.blocks), .osl false 1 (rows encI w.tree.before), .osl false 2 (rows encV w.voters), .osl false 1 (rows encI w.votes)]

theorem worldValid_parts {w : Wld} (h : worldValid w = true) : TreeOk w.tree ∧ w.voters.length = 4 ∧ (∀ v, v ∈ w.voters → voterOk v = true) ∧ w.votes.length = w.tree.blocks.length ∧ ∀ n, n ∈ w.votes → 0 ≤ n ∧ n ≤ 15 := by
  unfold worldValid at h
  simp only [Bool.and_eq_true, decide_eq_true_eq, List.all_eq_true] at h
  exact ⟨treeOk_of h.1.1.1.1, h.1.1.1.2, h.1.1.2, h.1.2, fun n hn => inB_iff.1 (h.2 n hn)⟩

/-! Valid trees and worlds are small. -/
theorem tb_ent {lo : Int} : ∀ {s : List Entry} {last : Int}, -1 ≤ last → entOk lo last s = true → s = [] ∨ (s.length : Int) ≤ 31 - last
  | [], _, _, _ => .inl rfl
  | e :: r, last, hl, h => by
    simp only [entOk, Bool.and_eq_true, inB_iff] at h
    obtain ⟨⟨h1, h2⟩, h3⟩ := h
    rcases tb_ent (by omega) h3 with e1 | e1
    · subst e1; right; simp only [List.length_cons, List.length_nil]; omega
    · right; rw [List.length_cons]; omega
theorem tb_store {s : List Entry} (h : storeValid s = true) : s.length ≤ 32 := by
  rcases tb_ent (by omega) h with e | e
  · subst e; simp
  · omega
theorem tb_list {b : Block} (h : blockValid b = true) : b.list.length ≤ 10 := by
  unfold blockValid at h
  simp only [Bool.and_eq_true] at h
  obtain ⟨⟨⟨⟨⟨_, _⟩, _⟩, _⟩, _⟩, h6⟩ := h
  unfold actionsValid at h6
  rw [Bool.and_eq_true] at h6
  exact of_decide_eq_true h6.1
theorem tb_lsum : ∀ (bs : List Block), (∀ b, b ∈ bs → b.list.length ≤ 10) → lsum bs ≤ 10 * bs.length
  | [], _ => Nat.le_refl _
  | b :: r, h => by
    have h1 := h b (List.mem_cons_self ..)
    have h2 := tb_lsum r fun c hc => h c (List.mem_cons_of_mem _ hc)
    unfold lsum
    rw [List.length_cons]
    omega
theorem treeOk_tsz {t : Tree} (ht : TreeOk t) : tsz t ≤ 200 := by
  have h1 := tb_store ht.store
  have h2 := ht.len
  have h3 := ht.bef
  have h4 := tb_lsum t.blocks fun b hb => by
    obtain ⟨i, hi, rfl⟩ := List.getElem_of_mem hb
    rw [t.blk_get i hi]
    exact tb_list (ht.valid i hi)
  unfold tsz; omega
theorem tb_s32 {t : Tree} (ht : TreeOk t) : TreeS32 t := ⟨by have := treeOk_tsz ht; omega⟩
theorem worldOk_wsz {w : Wld} (h : worldValid w = true) : wsz w ≤ 218 := by
  obtain ⟨ht, h4, _, hl, _⟩ := worldValid_parts h
  have h1 := treeOk_tsz ht
  have h2 := ht.len
  unfold wsz; omega
theorem worldOk_s32 {w : Wld} (h : worldValid w = true) : WldS32 w := ⟨by have := worldOk_wsz h; omega⟩

/-- The certificate of the block k. -/
def certAt (w : Wld) (k : Nat) : Cert := ⟨blockSum (w.tree.blk k), (w.tree.blk k).view, w.votes.getD k 0⟩
/-- The certificates of the first k blocks. -/
def certsTo (w : Wld) : Nat → List Cert
  | 0 => []
  | k + 1 => if 0 < k ∧ 0 < w.votes.getD k 0 then certsTo w k ++ [certAt w k] else certsTo w k
noncomputable def worldCerts (w : Wld) : List Cert := if worldValid w then certsTo w w.votes.length else []

theorem certsTo_len (w : Wld) : ∀ k, (certsTo w k).length ≤ k - 1
  | 0 => by simp [certsTo]
  | k + 1 => by
    have := certsTo_len w k
    unfold certsTo
    split
    · rename_i h
      simp; omega
    · omega

noncomputable def headW (w : Wld) : Int := committedTo w.tree (certsTo w w.votes.length)
noncomputable def worldHead (w : Wld) : Int := if worldValid w then headW w else -1

theorem headW_bd {w : Wld} (h : worldValid w = true) : 0 ≤ headW w ∧ headW w < w.tree.blocks.length := by
  obtain ⟨ht, h4, hv, hl, hs⟩ := worldValid_parts h
  have hlen := ht.len
  have hc := certsTo_len w w.votes.length
  obtain ⟨e1, e2⟩ := certified_ne (treeValid_true ht) (cs := certsTo w w.votes.length) (by omega)
  unfold headW committedTo
  rw [if_neg e2]
  exact bestF_bd w.tree w.tree.blocks.length _ 0 (headsL_bd _ _) (by omega)

/-- The actions of the blocks of a way. -/
def actsOf (t : Tree) (p : List Int) : List Action := p.flatMap fun n => (t.blk n.toNat).list
noncomputable def worldActions (w : Wld) : List Action := if worldValid w then actsOf w.tree (pathL w.tree (headW w)) else []

theorem actsOf_take (t : Tree) (p : List Int) (i : Nat) (h : i < p.length) : actsOf t (p.take (i + 1)) = actsOf t (p.take i) ++ (t.blk p[i].toNat).list := by
  unfold actsOf
  rw [take_snoc _ _ h, List.flatMap_append]
  simp

end Go.Proofs.YtmibclbinebnjaaGreat

/- Contracts: what actions read, write and do. -/
set_option linter.unusedSimpArgs false
set_option linter.unusedVariables false
set_option maxRecDepth 20000
set_option maxHeartbeats 4000000
namespace Go.Proofs.YtmibclbinebnjaaGreat
open Go Go.RowKit

section
variable {P : Program} {T : Tab} {B : Base} {ops : Array Oper}

theorem guardAt_addDep (b a j : Nat) : guardAt (addDep ops b a).toList j = guardAt ops.toList j := by
  unfold guardAt
  rw [Array.getElem?_toList, Array.getElem?_toList, addDep_get]
  by_cases h : j = b
  · rw [if_pos h]; cases ops[j]? <;> rfl
  · rw [if_neg h]

theorem stillStep_addDep (b a : Nat) (o : Oper) (s : AState) (Φ : AState → Prop) : stillStep T (addDep ops b a).toList o s Φ = stillStep T ops.toList o s Φ := by
  unfold stillStep
  simp only [guardAt_addDep]
theorem stepK_addDep (b a : Nat) (o : Oper) (s : AState) (Φ : AState → Prop) : stepK P T (addDep ops b a).toList o s Φ = stepK P T ops.toList o s Φ := by
  unfold stepK
  simp only [guardAt_addDep]

theorem recheck_addDep (b a : Nat) (s : AState) : ∀ re : List Nat, recheck T (addDep ops b a).toList s re = recheck T ops.toList s re
  | [] => rfl
  | x :: r => by
    unfold recheck
    rw [recheck_addDep b a s r, Array.getElem?_toList, Array.getElem?_toList, addDep_get]
    simp only [stillStep_addDep]
    by_cases h : x = b
    · rw [if_pos h]; cases ops[x]? <;> rfl
    · rw [if_neg h]

theorem drawK_addDep (b a : Nat) (Φ : AState → Prop) : ∀ (ord : List (Nat × List Nat)) (s : AState), drawK P T (addDep ops b a).toList Φ ord s = drawK P T ops.toList Φ ord s
  | [], s => rfl
  | (i, re) :: rest, s => by
    unfold drawK
    simp only [recheck_addDep, drawK_addDep b a Φ rest, Array.getElem?_toList, addDep_get, stillStep_addDep, stepK_addDep]
    by_cases h : i = b
    · rw [if_pos h]; cases ops[i]? <;> rfl
    · rw [if_neg h]

/-- As 'semL_two', the region's own operations in sight. -/
theorem semL_two' (hT : TabOk P T) {Kx : Exit → AState → Prop} {s : AState} {id n : Nat} (a b : Nat) {ord1 ord2 : List (Nat × List Nat)} (hm : P.follows .mixedOrders = true) (hn : s.nt = n) (hab : a ≠ b)
    (hk1 : drawOkS (rkS (0, 0)) T (addDep ops b a) n ord1 = true) (hk2 : drawOkS (rkS (a, b)) T (addDep ops a b) n ord2 = true)
    (h : drawK P T ops.toList (Kx .normal) ord1 s ∧ drawK P T ops.toList (Kx .normal) ord2 s) : @SemL P B (.region id ops true) s ⟨Kx⟩ :=
  semL_two hT a b hm hn hab hk1 hk2 (by rw [drawK_addDep]; exact h.1) (by rw [drawK_addDep]; exact h.2)
end

/-- The value of a key. -/
def valK (v : List Int) (k : Int) : Int := v.getD k.toNat 0

theorem cellsI_at (v : List Int) (k : Int) (h0 : 0 ≤ k) (h : k.toNat < v.length) (o n : Nat) (ho : o = k.toNat) (hn : n = 1) : (((cellsI v).drop o).take n).getD 0 .top = .int .i64 (valK v k) := by
  subst ho; subst hn
  have : ((cellsI v).drop k.toNat).take 1 = [(cellsI v).getD k.toNat .top] := by
    rw [List.getD_eq_getElem?_getD, List.getElem?_eq_getElem (by rw [cellsI_length]; exact h), List.drop_eq_getElem_cons (by rw [cellsI_length]; exact h)]
    rfl
  rw [this, cellsI_get _ _ _ h]
  rfl

def readsA (a : Action) : List Int := if a.kind = 1 then [] else if a.kind = 3 ∨ a.kind = 6 ∨ a.fr = a.to then [a.fr] else [a.fr, a.to]
def writesA (a : Action) : List Int := if a.kind = 1 ∨ a.kind = 6 then [a.fr] else if a.kind = 3 ∨ a.kind = 5 ∨ a.fr = a.to then [a.to] else [min a.fr a.to, max a.fr a.to]

theorem c_impl_reads (a : Action) : Det Tryz.prog 241 [.agg (encA a)] (.osl false 1 (rows encI (readsA a))) := by
  refine fspec_det tab_ok Tryz.call241 Tryz.func241 rfl 31 Tryz.ntmps241 (of_decide_eq_true rfl) fun B => codeK_sound tab_ok _ _ _ ?_
  unfold encA readsA
  by_cases h1 : a.kind = 1
  · have e1 : (a.kind == 1) = true := by simp [h1]
    simp (config := { maxSteps := 4000000 }) only [go_sem, simprocAttr, ↓dnA, Tryz.f241, e1, h1, rows_nil]
  · have e1 : (a.kind == 1) = false := by simp [h1]
    by_cases h3 : a.kind = 3
    · have e3 : (a.kind == 3) = true := by simp [h3]
      simp (config := { maxSteps := 4000000 }) only [go_sem, simprocAttr, ↓dnA, Tryz.f241, e1, h1, e3, h3, rows, encI]
    · have e3 : (a.kind == 3) = false := by simp [h3]
      by_cases h6 : a.kind = 6
      · have e6 : (a.kind == 6) = true := by simp [h6]
        simp (config := { maxSteps := 4000000 }) only [go_sem, simprocAttr, ↓dnA, Tryz.f241, e1, h1, e3, h3, e6, h6, rows, encI]
      · have e6 : (a.kind == 6) = false := by simp [h6]
        by_cases hf : a.fr = a.to
        · have ef : (a.fr == a.to) = true := by simp [hf]
          simp (config := { maxSteps := 4000000 }) only [go_sem, simprocAttr, ↓dnA, Tryz.f241, e1, h1, e3, h3, e6, h6, ef, hf, rows, encI]
        · have ef : (a.fr == a.to) = false := by simp [hf]
          simp (config := { maxSteps := 4000000 }) only [go_sem, simprocAttr, ↓dnA, Tryz.f241, e1, h1, e3, h3, e6, h6, ef, hf, rows, encI]

theorem min_if (a b : Int) : (if b < a then b else a) = min a b := by
  rw [Int.min_def]; split <;> split <;> omega
theorem max_if2 (a b : Int) : (if b > a then b else a) = max a b := by
  rw [Int.max_def]; split <;> split <;> omega

theorem c_impl_writes (a : Action) : Det Tryz.prog 243 [.agg (encA a)] (.osl false 1 (rows encI (writesA a))) := by
  refine fspec_det tab_ok Tryz.call243 Tryz.func243 rfl 45 Tryz.ntmps243 (of_decide_eq_true rfl) fun B => codeK_sound tab_ok _ _ _ ?_
  unfold encA writesA
  by_cases h1 : a.kind = 1
  · have e1 : (a.kind == 1) = true := by simp [h1]
    simp (config := { maxSteps := 4000000 }) only [go_sem, simprocAttr, ↓dnA, Tryz.f243, e1, h1, rows, encI]
  · have e1 : (a.kind == 1) = false := by simp [h1]
    by_cases h6 : a.kind = 6
    · have e6 : (a.kind == 6) = true := by simp [h6]
      simp (config := { maxSteps := 4000000 }) only [go_sem, simprocAttr, ↓dnA, Tryz.f243, e1, h1, e6, h6, rows, encI]
    · have e6 : (a.kind == 6) = false := by simp [h6]
      by_cases h3 : a.kind = 3
      · have e3 : (a.kind == 3) = true := by simp [h3]
        simp (config := { maxSteps := 4000000 }) only [go_sem, simprocAttr, ↓dnA, Tryz.f243, e1, h1, e3, h3, e6, h6, rows, encI]
      · have e3 : (a.kind == 3) = false := by simp [h3]
        by_cases h5 : a.kind = 5
        · have e5 : (a.kind == 5) = true := by simp [h5]
          simp (config := { maxSteps := 4000000 }) only [go_sem, simprocAttr, ↓dnA, Tryz.f243, e1, h1, e3, h3, e5, h5, e6, h6, rows, encI]
        · have e5 : (a.kind == 5) = false := by simp [h5]
          by_cases hf : a.fr = a.to
          · have ef : (a.fr == a.to) = true := by simp [hf]
            simp (config := { maxSteps := 4000000 }) only [go_sem, simprocAttr, ↓dnA, Tryz.f243, e1, h1, e3, h3, e5, h5, e6, h6, ef, hf, rows, encI]
          · have ef : (a.fr == a.to) = false := by simp [hf]
            simp (config := { maxSteps := 4000000 }) only [go_sem, simprocAttr, ↓dnA, Tryz.f243, e1, h1, e3, h3, e5, h5, e6, h6, ef, hf, rows, encI, min_if, max_if2]

/-- Is an action done, with these values of From and To. -/
def doneA (a : Action) (f t : Int) : Bool :=
  if a.kind = 5 then decide (f + t ≤ 1000000) else if a.kind = 2 then (if a.fr = a.to then decide (f ≥ a.amount) else decide (f ≥ a.amount) && decide (t + a.amount ≤ 1000000)) else true
/-- The new value of a key that an action writes. -/
def newV (a : Action) (f t k : Int) : Int :=
  if a.kind = 1 then a.amount else if a.kind = 6 then max 0 (f - a.amount) else if a.kind = 3 then f else if a.kind = 5 then f + t else
    if a.kind = 4 then (if k = a.to then f else t) else if a.fr = a.to then f else if k = a.to then t + a.amount else f - a.amount

def ResQ (a : Action) (f t : Int) (r : AV) (b : List AV) : Prop := ∃ n D, r = .tup [.mp Tryz.prog 3 3 n D, .bool (doneA a f t)] ∧ b = [] ∧
  ∀ k, k ∈ writesA a → DataW.atKey D (.int .i64 k) (.lit (.int .i64 0)) = .lit (.int .i64 (newV a f t k))

structure ActOk (a : Action) : Prop where
  fr : 0 ≤ a.fr ∧ a.fr ≤ 31
  to : 0 ≤ a.to ∧ a.to ≤ 31
  amount : 0 ≤ a.amount ∧ a.amount ≤ 1000000
  kind : a.kind = 1 ∨ a.kind = 2 ∨ a.kind = 3 ∨ a.kind = 4 ∨ a.kind = 5 ∨ a.kind = 6
  z : a.kind = 1 ∨ a.kind = 6 → a.to = 0

theorem actOk_of {a : Action} (h : actionValid a = true) : ActOk a := by
  unfold actionValid at h
  simp only [Bool.and_eq_true] at h
  obtain ⟨⟨⟨h1, h2⟩, h3⟩, h4⟩ := h
  refine ⟨inB_iff.1 h1, inB_iff.1 h2, inB_iff.1 h3, ?_, ?_⟩
  · have := kindOk_bd h4; omega
  · intro hk
    unfold kindOk at h4
    rw [if_pos (by rcases hk with h | h <;> simp [h])] at h4
    simpa using h4

def ValsOk (v : List Int) : Prop := v.length = 32 ∧ ∀ k : Nat, 0 ≤ v.getD k 0 ∧ v.getD k 0 ≤ 1000000

theorem ValsOk.at {v : List Int} (h : ValsOk v) (k : Int) : 0 ≤ valK v k ∧ valK v k ≤ 1000000 := h.2 _

open Go.Maps in
theorem put_same (D : DataW Unit) (hD : IsMap D) (k x : Int) : DataW.atKey (D.put (.int .i64 k) (.lit (.int .i64 x))) (.int .i64 k) (.lit (.int .i64 0)) = .lit (.int .i64 x) := atKey_put_same hD (by trivial) _ _
open Go.Maps in
theorem put_other (D : DataW Unit) (k j : Int) (x : DataW Unit) (h : j ≠ k) : DataW.atKey (D.put (.int .i64 k) x) (.int .i64 j) (.lit (.int .i64 0)) = DataW.atKey D (.int .i64 j) (.lit (.int .i64 0)) := atKey_put_other (by intro e; cases e; exact h rfl) _ _

open Go.Maps in
theorem put1 (k x : Int) : DataW.atKey ((DataW.map [] : DataW Unit).put (.int .i64 k) (.lit (.int .i64 x))) (.int .i64 k) (.lit (.int .i64 0)) = .lit (.int .i64 x) := put_same _ isMap_empty _ _
open Go.Maps in
theorem put2 (a b x y k : Int) (hk : k = a ∨ k = b) : DataW.atKey (((DataW.map [] : DataW Unit).put (.int .i64 a) (.lit (.int .i64 x))).put (.int .i64 b) (.lit (.int .i64 y))) (.int .i64 k) (.lit (.int .i64 0)) = .lit (.int .i64 (if k = b then y else x)) := by
  by_cases h : k = b
  · subst h; rw [if_pos rfl]; exact put_same _ (isMap_empty.put _ _) _ _
  · rw [if_neg h, put_other _ _ _ _ h]
    rcases hk with rfl | rfl
    · exact put1 _ _
    · exact absurd rfl h

theorem mem_writes {a : Action} {k : Int} (h : k ∈ writesA a) : k = a.fr ∨ k = a.to := by
  unfold writesA at h
  split at h
  · simp at h; exact .inl h
  · split at h
    · simp at h; exact .inr h
    · simp at h
      rcases h with h | h
      · rw [Int.min_def] at h; split at h <;> simp [h]
      · rw [Int.max_def] at h; split at h <;> simp [h]

theorem c_impl_result (a : Action) (v : List Int) (ha : ActOk a) (hv : ValsOk v) : FSpec Tryz.prog 242 [.agg (encA a), .agg (cellsI v)] false [] (ResQ a (valK v a.fr) (valK v a.to)) := by
  refine fspec_rel tab_ok Tryz.call242 Tryz.func242 rfl 106 Tryz.ntmps242 (of_decide_eq_true rfl) fun B => codeK_sound tab_ok _ _ _ ?_
  have cl : (cellsI v).length = 32 := by rw [cellsI_length, hv.1]
  have hfr := ha.fr
  have hto := ha.to
  have ham := ha.amount
  have hf := hv.at a.fr
  have ht := hv.at a.to
  have g1 := cellsI_at v a.fr hfr.1 (by rw [hv.1]; omega) a.fr.toNat 1 rfl rfl
  have g2 := cellsI_at v a.to hto.1 (by rw [hv.1]; omega) a.to.toNat 1 rfl rfl
  simp (config := { maxSteps := 4000000 }) only [go_sem, simprocAttr, ↓dnA, Tryz.f242, encA]
  refine semL_draw tab_ok mixed_ rfl (ord := [(0, []), (1, []), (2, []), (3, []), (4, []), (5, []), (6, []), (7, []), (8, []), (9, [])]) (by dsimp only; decide +kernel) ?_
  obtain ⟨kd, fr, to, am⟩ := a
  dsimp only at hfr hto ham hf ht g1 g2 ⊢
  have hkd := ha.kind
  have hz := ha.z
  dsimp only at hkd hz
  have w1 : IntKind.i64.wrap (valK v fr - am) = valK v fr - am := wrap_small _ (by omega) (by omega)
  have w2 : IntKind.i64.wrap (valK v fr + valK v to) = valK v fr + valK v to := wrap_small _ (by omega) (by omega)
  have w3 : IntKind.i64.wrap (valK v to + am) = valK v to + am := wrap_small _ (by omega) (by omega)
  rcases hkd with rfl | rfl | rfl | rfl | rfl | rfl
  · simp (config := { maxSteps := 4000000 }) only [go_sem, simprocAttr, ↓dnA, Tryz.f242, cl, g1, g2, Nat.mul_one, w1, w2, w3]
    repeat refine And.intro (by first | omega | (simp; done) | (simp; omega) | assumption) ?_
    refine ExitR.same ⟨_, _, rfl, rfl, fun k hk => ?_⟩
    have hk : k = fr := by simpa [writesA] using hk
    subst hk
    exact put1 _ _
  · by_cases he : fr = to
    · subst he
      have e1 : (fr == fr) = true := by simp
      simp (config := { maxSteps := 4000000 }) only [go_sem, simprocAttr, ↓dnA, Tryz.f242, cl, g1, g2, Nat.mul_one, w1, w2, w3, e1]
      repeat refine And.intro (by first | omega | (simp; done) | (simp; omega) | assumption) ?_
      refine semL_draw tab_ok mixed_ rfl (ord := [(1, []), (2, []), (3, []), (6, []), (7, []), (8, []), (9, []), (0, [1, 2, 3, 6, 7, 8, 9]), (4, [6, 7, 8, 9]), (5, []), (10, []), (11, [])]) (by dsimp only; decide +kernel) ?_
      simp (config := { maxSteps := 4000000 }) only [go_sem, simprocAttr, ↓dnA, Tryz.f242, cl, g1, g2, Nat.mul_one, w1, w2, w3]
      repeat refine And.intro (by first | omega | (simp; done) | (simp; omega) | assumption) ?_
      have hd : decide (valK v fr ≥ am) = doneA ⟨2, fr, fr, am⟩ (valK v fr) (valK v fr) := by simp [doneA]
      rw [hd]
      refine ExitR.same ⟨_, _, rfl, rfl, fun k hk => ?_⟩
      have hk : k = fr := by simpa [writesA] using hk
      subst hk
      rw [put1]
      simp [newV]
    · have e1 : (fr == to) = false := by simp [he]
      have hdn : ∀ c1, decide (valK v fr ≥ am) = c1 → ∀ c2, decide (valK v to + am ≤ 1000000) = c2 → doneA ⟨2, fr, to, am⟩ (valK v fr) (valK v to) = (c1 && c2) := by
        intro c1 h1 c2 h2
        subst h1; subst h2
        simp [doneA, he]
      have hnv : ∀ k, newV ⟨2, fr, to, am⟩ (valK v fr) (valK v to) k = if k = to then valK v to + am else valK v fr - am := by
        intro k; simp [newV, he]
      simp (config := { maxSteps := 4000000 }) only [go_sem, simprocAttr, ↓dnA, Tryz.f242, cl, g1, g2, Nat.mul_one, w1, w2, w3, e1]
      repeat refine And.intro (by first | omega | (simp; done) | (simp; omega) | assumption) ?_
      refine semL_two' tab_ok 7 14 mixed_ rfl (by decide) (ord1 := [(1, []), (2, []), (3, []), (4, []), (5, []), (6, []), (8, []), (9, []), (10, []), (11, []), (12, []), (13, []), (16, []), (17, []), (18, []), (19, []), (20, []), (21, []), (22, []), (23, []), (24, []), (25, []), (26, []), (0, [1, 2, 3, 4, 5, 6, 8, 9, 10, 11, 12, 13, 16, 17, 18, 19, 20, 21, 22, 23, 24, 25, 26]), (7, [8, 9, 10, 11, 12, 13, 16, 17, 18, 19, 20, 21, 22, 23, 24, 25, 26]), (14, [16, 17, 18, 19, 20, 21, 22, 23, 24, 25, 26]), (15, []), (27, []), (28, [])]) (ord2 := [(1, []), (2, []), (3, []), (4, []), (5, []), (6, []), (8, []), (9, []), (10, []), (11, []), (12, []), (13, []), (16, []), (17, []), (18, []), (19, []), (20, []), (21, []), (22, []), (23, []), (24, []), (25, []), (26, []), (0, [1, 2, 3, 4, 5, 6, 8, 9, 10, 11, 12, 13, 16, 17, 18, 19, 20, 21, 22, 23, 24, 25, 26]), (14, [1, 2, 3, 4, 5, 6, 16, 17, 18, 19, 20, 21, 22, 23, 24, 25, 26]), (7, [16, 17, 18, 19, 20, 21, 22, 23, 24, 25, 26]), (15, []), (27, []), (28, [])]) (by dsimp only; decide +kernel) (by dsimp only; decide +kernel) ?_
      cases h1 : decide (valK v fr ≥ am) with
      | false =>
        have hd := hdn _ h1 _ rfl
        simp (config := { maxSteps := 4000000 }) only [go_sem, simprocAttr, ↓dnA, Tryz.f242, cl, g1, g2, Nat.mul_one, w1, w2, w3, h1]
        refine ⟨?_, ?_⟩
        all_goals repeat refine And.intro (by first | omega | (simp; done) | (simp; omega) | assumption) ?_
        all_goals refine ExitR.same ⟨_, _, by rw [hd]; rfl, rfl, fun k hk => ?_⟩
        all_goals (rw [put2 _ _ _ _ _ (by have := mem_writes hk; dsimp only at this; omega), hnv])
        all_goals (rcases mem_writes hk with e | e <;> dsimp only at e <;> subst e <;> simp [he, Ne.symm he])
      | true =>
        have hd := hdn _ h1 _ rfl
        simp (config := { maxSteps := 4000000 }) only [go_sem, simprocAttr, ↓dnA, Tryz.f242, cl, g1, g2, Nat.mul_one, w1, w2, w3, h1]
        refine ⟨?_, ?_⟩
        all_goals repeat refine And.intro (by first | omega | (simp; done) | (simp; omega) | assumption) ?_
        all_goals refine ExitR.same ⟨_, _, by rw [hd]; rfl, rfl, fun k hk => ?_⟩
        all_goals (rw [put2 _ _ _ _ _ (by have := mem_writes hk; dsimp only at this; omega), hnv])
        all_goals (rcases mem_writes hk with e | e <;> dsimp only at e <;> subst e <;> simp [he, Ne.symm he])
  · simp (config := { maxSteps := 4000000 }) only [go_sem, simprocAttr, ↓dnA, Tryz.f242, cl, g1, g2, Nat.mul_one, w1, w2, w3]
    repeat refine And.intro (by first | omega | (simp; done) | (simp; omega) | assumption) ?_
    refine ExitR.same ⟨_, _, rfl, rfl, fun k hk => ?_⟩
    have hk : k = to := by simpa [writesA] using hk
    subst hk
    exact put1 _ _
  · have hnv : ∀ k, newV ⟨4, fr, to, am⟩ (valK v fr) (valK v to) k = if k = to then valK v fr else valK v to := by
      intro k; simp [newV]
    simp (config := { maxSteps := 4000000 }) only [go_sem, simprocAttr, ↓dnA, Tryz.f242, cl, g1, g2, Nat.mul_one, w1, w2, w3]
    repeat refine And.intro (by first | omega | (simp; done) | (simp; omega) | assumption) ?_
    refine semL_two' tab_ok 4 8 mixed_ rfl (by decide) (ord1 := [(1, []), (2, []), (3, []), (5, []), (6, []), (7, []), (0, [1, 2, 3, 5, 6, 7]), (4, [5, 6, 7]), (8, []), (9, []), (10, []), (11, [])]) (ord2 := [(1, []), (2, []), (3, []), (5, []), (6, []), (7, []), (0, [1, 2, 3, 5, 6, 7]), (8, [1, 2, 3]), (4, []), (9, []), (10, []), (11, [])]) (by dsimp only; decide +kernel) (by dsimp only; decide +kernel) ?_
    simp (config := { maxSteps := 4000000 }) only [go_sem, simprocAttr, ↓dnA, Tryz.f242, cl, g1, g2, Nat.mul_one, w1, w2, w3]
    refine ⟨?_, ?_⟩
    all_goals repeat refine And.intro (by first | omega | (simp; done) | (simp; omega) | assumption) ?_
    all_goals refine ExitR.same ⟨_, _, rfl, rfl, fun k hk => ?_⟩
    all_goals (rw [put2 _ _ _ _ _ (by have := mem_writes hk; dsimp only at this; omega), hnv])
    all_goals (rcases mem_writes hk with e | e <;> dsimp only at e <;> subst e <;> simp)
    all_goals (intro h; subst h; rfl)
  · simp (config := { maxSteps := 4000000 }) only [go_sem, simprocAttr, ↓dnA, Tryz.f242, cl, g1, g2, Nat.mul_one, w1, w2, w3]
    repeat refine And.intro (by first | omega | (simp; done) | (simp; omega) | assumption) ?_
    refine ExitR.same ⟨_, _, rfl, rfl, fun k hk => ?_⟩
    have hk : k = to := by simpa [writesA] using hk
    subst hk
    exact put1 _ _
  · simp (config := { maxSteps := 4000000 }) only [go_sem, simprocAttr, ↓dnA, Tryz.f242, cl, g1, g2, Nat.mul_one, w1, w2, w3]
    repeat refine And.intro (by first | omega | (simp; done) | (simp; omega) | assumption) ?_
    refine ExitR.same ⟨_, _, rfl, rfl, fun k hk => ?_⟩
    have hk : k = fr := by simpa [writesA] using hk
    subst hk
    rw [put1]
    simp only [newV, if_neg (show ¬((6:Int) = 1) by omega), if_true]
    congr 2
    rw [Int.max_def]
    split <;> split <;> omega

end Go.Proofs.YtmibclbinebnjaaGreat

/- Contracts: running one action. -/
set_option linter.unusedSimpArgs false
set_option linter.unusedVariables false
set_option maxRecDepth 20000
set_option maxHeartbeats 4000000
namespace Go.Proofs.YtmibclbinebnjaaGreat
open Go Go.RowKit

theorem cellsI_noT (Tb : Nat → Prop) : ∀ v : List Int, noT Tb (cellsI v) = True
  | [] => rfl
  | x :: v => cellsI_noT Tb v
theorem cellsI_argL (s : AState) : ∀ (v : List Int) (K : List AV → Bool → Prop), argL s (cellsI v) K = K (cellsI v) false
  | [], K => rfl
  | x :: v, K => by
    show argC s (.int .i64 x) (fun c' u => argL s (cellsI v) fun cs' us => K (c' :: cs') (u || us)) = _
    rw [show (fun (c' : AV) (u : Bool) => argL s (cellsI v) fun cs' us => K (c' :: cs') (u || us)) = fun c' u => K (c' :: cellsI v) (u || false) from funext fun c' => funext fun u => cellsI_argL s v _]
    rfl

/-- The effect of an action. -/
def runE (a : Action) (v : List Int) : Effect := ⟨doneA a (valK v a.fr) (valK v a.to), (readsA a).map fun k => ⟨k, valK v k⟩, if doneA a (valK v a.fr) (valK v a.to) then (writesA a).map fun k => ⟨k, newV a (valK v a.fr) (valK v a.to) k⟩ else []⟩
def encFO (e : Effect) : List AV := [.bool e.done, .osl false 2 (rows encE e.reads), .osl false 2 (rows encE e.writes)]

theorem readsA_len (a : Action) : (readsA a).length ≤ 2 := by
  unfold readsA; split <;> (try split) <;> simp
theorem writesA_len (a : Action) : (writesA a).length ≤ 2 := by
  unfold writesA; split <;> (try split) <;> simp
theorem mem_reads {a : Action} {k : Int} (h : k ∈ readsA a) : k = a.fr ∨ k = a.to := by
  unfold readsA at h
  split at h
  · simp at h
  · split at h
    · simp at h; exact .inl h
    · simpa using h

theorem c_impl_run (a : Action) (v : List Int) (ha : ActOk a) (hv : ValsOk v) : Det Tryz.prog 236 [.agg (encA a), .agg (cellsI v)] (.agg (encFO (runE a v))) := by
  refine fspec_det tab_ok Tryz.call236 Tryz.func236 rfl 58 Tryz.ntmps236 (of_decide_eq_true rfl) fun B => codeK_sound tab_ok _ _ _ ?_
  have cl : (cellsI v).length = 32 := by rw [cellsI_length, hv.1]
  have hfr := ha.fr
  have hto := ha.to
  have h2 := readsA_len a
  have h3 := writesA_len a
  simp (config := { maxSteps := 4000000 }) only [go_sem, simprocAttr, ↓dnA, Tryz.f236, rows_length, cl, encA]
  refine CallTo.det (c_impl_reads a) fun _ => ?_
  simp (config := { maxSteps := 4000000 }) only [go_sem, simprocAttr, ↓dnA, Tryz.f236, rows_length, cl, encA]
  refine semL_nilVA 5 1 600 2 true (by rfl) (by simp) (by rfl) (by rfl) (by decide) (by decide) ?_
  generalize hrs : readsA a = rs at h2
  have hmr : ∀ k, k ∈ rs → k = a.fr ∨ k = a.to := fun k hk => mem_reads (by rw [hrs]; exact hk)
  refine semL_for tab_ok (fun i : Nat => ⟨58, [(2, .loc 2 0), (3, .loc 3 0), (4, .loc 4 0), (5, .loc 5 0), (13, .row 14000 rs.length), (14, .int .i64 rs.length), (15, .int .i64 i)],
      [(14000, .row true false 1 (rows encI rs)), (5, .var [.bool false, .row 600 i, .sl (some false) []]), (4, .var [.bool false, .sl (some false) [], .sl (some false) []]), (3, .var (cellsI v)), (2, .var (encA a)),
        (600, .row true false 2 (rows encE ((rs.take i).map fun k => ⟨k, valK v k⟩)))]⟩) (fun i => rs.length - i)
    (fun i => i ≤ rs.length) 0 [(2, 2), (3, 3), (4, 4), (5, 5), (14000, 14000), (600, 600)] (Weak.of (by rfl) ?_ ?_ (by rfl)) (by omega) ?_
  · simp (config := { maxSteps := 4000000 }) only [go_sem, simprocAttr, ↓dnA, Tryz.f236, rows_length, encA, cellsI_wk, frW, wk2, wk1, wkL, wkB, hpW, List.mem_cons, Prod.mk.injEq, exists_eq_left, exists_eq_right, exists_eq]
    try rfl
  · simp (config := { maxSteps := 4000000 }) only [go_sem, simprocAttr, ↓dnA, Tryz.f236, rows_length, encA, cellsI_wk, frW, wk2, wk1, wkL, wkB, hpW, List.mem_cons, Prod.mk.injEq, exists_eq_left, exists_eq_right, exists_eq]
  · rintro i hi
    by_cases h : i < rs.length
    · have hk := hmr _ (List.getElem_mem h)
      have hb : 0 ≤ rs[i] ∧ rs[i] < 32 := by rcases hk with e | e <;> rw [e] <;> omega
      have hb1 := hb.1
      have hb2 := hb.2
      have g1 := cellsI_at v rs[i] hb.1 (by rw [hv.1]; omega) rs[i].toNat 1 rfl rfl
      have htk : (rows encE ((rs.take i).map fun k => (⟨k, valK v k⟩ : Entry))).take i = rows encE ((rs.take i).map fun k => ⟨k, valK v k⟩) := by
        rw [List.take_of_length_le]; rw [rows_length, List.length_map, List.length_take]; omega
      have hl : min i rs.length = i := by omega
      have hw : IntKind.i64.wrap ((i : Int) + 1) = ((i + 1 : Nat) : Int) := wsucc h (by omega)
      simp (config := { maxSteps := 4000000 }) only [go_sem, simprocAttr, ↓dnA, Tryz.f236, rows_length, nlt h, rows_get _ _ _ h, encI, nn0]
      refine ⟨h, ?_⟩
      refine semL_draw tab_ok mixed_ rfl (ord := [(0, []), (1, []), (2, []), (3, []), (4, []), (5, []), (6, []), (7, [0, 1]), (8, []), (9, []), (10, [])]) (by dsimp only; decide +kernel) ?_
      simp (config := { maxSteps := 4000000 }) only [go_sem, simprocAttr, ↓dnA, Tryz.f236, rows_length, List.length_take, List.length_map, hl, htk, hw, cl, g1, hb1, hb2, Nat.mul_one]
      repeat refine And.intro (by first | omega | (simp; done) | (simp; omega) | assumption) ?_
      refine ⟨i + 1, [(2, 2), (3, 3), (4, 4), (5, 5), (14000, 14000), (27, 600)], by omega, by dsimp only; omega, Weak.of (by rfl) ?_ ?_ (by rfl)⟩
      · simp (config := { maxSteps := 4000000 }) only [go_sem, simprocAttr, ↓dnA, Tryz.f236, rows_length, encA, cellsI_wk, frW, wk2, wk1, wkL, wkB, hpW, List.mem_cons, Prod.mk.injEq, exists_eq_left, exists_eq_right, exists_eq]
        rw [take_snoc _ _ h, List.map_append, List.map_singleton, ← rows_snoc]
        rfl
      · simp (config := { maxSteps := 4000000 }) only [go_sem, simprocAttr, ↓dnA, Tryz.f236, rows_length, encA, cellsI_wk, frW, wk2, wk1, wkL, wkB, hpW, List.mem_cons, Prod.mk.injEq, exists_eq_left, exists_eq_right, exists_eq]
    · have hi' : i = rs.length := by omega
      subst hi'
      have hct : (cellsI v).take 32 = cellsI v := cellsI_take _ 32 hv.1
      simp (config := { maxSteps := 4000000 }) only [go_sem, simprocAttr, ↓dnA, Tryz.f236, rows_length, nlf h, encA, cl, hct, cellsI_noT, cellsI_argL]
      refine CallTo.of (c_impl_result a v ha hv) ?_
      rintro r ls ⟨n, D, rfl, rfl, hD⟩
      have hrd : (runE a v).reads = rs.map fun k => ⟨k, valK v k⟩ := by rw [← hrs]; rfl
      cases hdn : doneA a (valK v a.fr) (valK v a.to) with
      | false =>
        have hwr : (runE a v).writes = [] := by unfold runE; rw [hdn]; rfl
        have hde : (runE a v).done = false := hdn
        simp (config := { maxSteps := 4000000 }) only [go_sem, simprocAttr, ↓dnA, Tryz.f236, rows_length, nlf h, encA, cl, hdn, encFO, hwr, hrd, hde, List.length_map, rows_nil]
      | true =>
        have hwr : (runE a v).writes = (writesA a).map fun k => ⟨k, newV a (valK v a.fr) (valK v a.to) k⟩ := by unfold runE; rw [hdn]; rfl
        have hde : (runE a v).done = true := hdn
        simp (config := { maxSteps := 4000000 }) only [go_sem, simprocAttr, ↓dnA, Tryz.f236, rows_length, nlf h, encA, cl, hdn]
        refine CallTo.det (c_impl_writes a) fun _ => ?_
        simp (config := { maxSteps := 4000000 }) only [go_sem, simprocAttr, ↓dnA, Tryz.f236, rows_length, nlf h, encA, cl]
        refine semL_nilVA 5 2 601 2 true (by rfl) (by simp) (by rfl) (by rfl) (by decide) (by decide) ?_
        generalize hws : writesA a = ws at h3 hD hwr
        generalize hnw : (fun k => (⟨k, newV a (valK v a.fr) (valK v a.to) k⟩ : Entry)) = nw at hwr
        refine semL_for tab_ok (fun i : Nat => ⟨58, [(4, .loc 4 0), (5, .loc 5 0), (8, .mp Tryz.prog 3 3 n D), (40, .row 41000 ws.length), (41, .int .i64 ws.length), (42, .int .i64 i)],
            [(41000, .row true false 1 (rows encI ws)), (5, .var [.bool true, .row 600 rs.length, .row 601 i]), (4, .var [.bool false, .sl (some false) [], .sl (some false) []]),
              (600, .row true false 2 (rows encE (rs.map fun k => ⟨k, valK v k⟩))), (601, .row true false 2 (rows encE ((ws.take i).map nw)))]⟩) (fun i => ws.length - i)
          (fun i => i ≤ ws.length) 0 [(4, 4), (5, 5), (41000, 41000), (600, 600), (601, 601)] (Weak.of (by rfl) ?_ ?_ (by rfl)) (by omega) ?_
        · simp (config := { maxSteps := 4000000 }) only [go_sem, simprocAttr, ↓dnA, Tryz.f236, rows_length, encA, cellsI_wk, frW, wk2, wk1, wkL, wkB, hpW, List.mem_cons, Prod.mk.injEq, exists_eq_left, exists_eq_right, exists_eq]
          try rfl
        · simp (config := { maxSteps := 4000000 }) only [go_sem, simprocAttr, ↓dnA, Tryz.f236, rows_length, encA, cellsI_wk, frW, wk2, wk1, wkL, wkB, hpW, List.mem_cons, Prod.mk.injEq, exists_eq_left, exists_eq_right, exists_eq]
        · rintro i hi
          by_cases h : i < ws.length
          · have hk := hD _ (List.getElem_mem h)
            have htk : (rows encE ((ws.take i).map nw)).take i = rows encE ((ws.take i).map nw) := by
              rw [List.take_of_length_le]; rw [rows_length, List.length_map, List.length_take]; omega
            have hl : min i ws.length = i := by omega
            have hw : IntKind.i64.wrap ((i : Int) + 1) = ((i + 1 : Nat) : Int) := wsucc h (by omega)
            simp (config := { maxSteps := 4000000 }) only [go_sem, simprocAttr, ↓dnA, Tryz.f236, rows_length, nlt h, h, rows_get _ _ _ h, encI, nn0, List.length_take, List.length_map, hl, htk, hw, hk]
            have hkw := mem_writes (a := a) (by rw [hws]; exact List.getElem_mem h)
            have hb : 0 ≤ ws[i] ∧ ws[i] < 32 := by rcases hkw with e | e <;> rw [e] <;> omega
            refine ⟨by omega, fun c hc => ?_⟩
            cases hc
            repeat refine And.intro (by first | omega | (simp; done) | (simp; omega) | assumption) ?_
            refine ⟨i + 1, [(4, 4), (5, 5), (41000, 41000), (600, 600), (54, 601)], by omega, by dsimp only; omega, Weak.of (by rfl) ?_ ?_ (by rfl)⟩
            · simp (config := { maxSteps := 4000000 }) only [go_sem, simprocAttr, ↓dnA, Tryz.f236, rows_length, encA, cellsI_wk, frW, wk2, wk1, wkL, wkB, hpW, List.mem_cons, Prod.mk.injEq, exists_eq_left, exists_eq_right, exists_eq]
              rw [take_snoc _ _ h, List.map_append, List.map_singleton, ← rows_snoc, ← hnw]
              rfl
            · simp (config := { maxSteps := 4000000 }) only [go_sem, simprocAttr, ↓dnA, Tryz.f236, rows_length, encA, cellsI_wk, frW, wk2, wk1, wkL, wkB, hpW, List.mem_cons, Prod.mk.injEq, exists_eq_left, exists_eq_right, exists_eq]
          · have hi' : i = ws.length := by omega
            subst hi'
            simp (config := { maxSteps := 4000000 }) only [go_sem, simprocAttr, ↓dnA, Tryz.f236, rows_length, nlf h, encFO, hwr, hrd, hde, List.length_map, List.take_length]

end Go.Proofs.YtmibclbinebnjaaGreat

/- Contracts: running many actions. -/
set_option linter.unusedSimpArgs false
set_option linter.unusedVariables false
set_option maxRecDepth 20000
set_option maxHeartbeats 4000000
namespace Go.Proofs.YtmibclbinebnjaaGreat
open Go Go.RowKit

def encF1 (e : Effect) : List AV := encF none none e
/-- Values with entries written. -/
def applyW (v : List Int) (ws : List Entry) : List Int := ws.foldl putV v
/-- One action more. -/
def stepR (p : List Int × List Effect) (a : Action) : List Int × List Effect := (applyW p.1 (runE a p.1).writes, p.2 ++ [runE a p.1])
def runAllE (v : List Int) (l : List Action) : List Int × List Effect := l.foldl stepR (v, [])

def WritesOk (ws : List Entry) : Prop := ∀ w, w ∈ ws → (0 ≤ w.key ∧ w.key ≤ 31) ∧ 0 ≤ w.value ∧ w.value ≤ 1000000

theorem runE_writesOk {a : Action} {v : List Int} (ha : ActOk a) (hv : ValsOk v) : WritesOk (runE a v).writes := by
  intro w hw
  unfold runE at hw
  dsimp only at hw
  split at hw
  · rename_i hd
    obtain ⟨k, hk, rfl⟩ := List.mem_map.1 hw
    have hfr := ha.fr
    have hto := ha.to
    have ham := ha.amount
    have hf := hv.at a.fr
    have ht := hv.at a.to
    have hkd := ha.kind
    refine ⟨by rcases mem_writes hk with e | e <;> dsimp only <;> rw [e] <;> omega, ?_⟩
    unfold newV
    unfold doneA at hd
    dsimp only
    rcases hkd with e | e | e | e | e | e <;> simp [e] at hd ⊢
    · omega
    · by_cases h : a.fr = a.to
      · simp [h] at hd ⊢; rw [h] at hf; omega
      · simp [h] at hd ⊢; split <;> omega
    · omega
    · split <;> omega
    · omega
    · omega
  · cases hw

theorem applyW_ok : ∀ (ws : List Entry) (v : List Int), ValsOk v → WritesOk ws → ValsOk (applyW v ws)
  | [], v, hv, _ => hv
  | w :: ws, v, hv, hw => by
    refine applyW_ok ws (putV v w) ⟨by unfold putV; rw [List.length_set]; exact hv.1, fun k => ?_⟩ fun x hx => hw x (List.mem_cons_of_mem _ hx)
    have h1 := hw w (List.mem_cons_self ..)
    unfold putV
    rw [List.getD_eq_getElem?_getD, List.getElem?_set]
    split
    · split
      · exact h1.2
      · simp
    · rw [← List.getD_eq_getElem?_getD]; exact hv.2 k

theorem applyW_take (v : List Int) (ws : List Entry) (i : Nat) (h : i < ws.length) : applyW v (ws.take (i + 1)) = putV (applyW v (ws.take i)) ws[i] := by
  unfold applyW
  rw [take_snoc _ _ h, List.foldl_append]
  rfl

theorem runAllE_take (v : List Int) (l : List Action) (i : Nat) (h : i < l.length) : runAllE v (l.take (i + 1)) = stepR (runAllE v (l.take i)) l[i] := by
  unfold runAllE
  rw [take_snoc _ _ h, List.foldl_append]
  rfl

theorem runAllE_ok {v : List Int} {l : List Action} (hl : ∀ a, a ∈ l → ActOk a) (hv : ValsOk v) : ∀ i, i ≤ l.length → ValsOk (runAllE v (l.take i)).1 ∧ (runAllE v (l.take i)).2.length = i
  | 0, _ => ⟨by simpa [runAllE] using hv, by simp [runAllE]⟩
  | i + 1, hi => by
    have ih := runAllE_ok hl hv i (by omega)
    rw [runAllE_take _ _ _ (by omega)]
    exact ⟨applyW_ok _ _ ih.1 (runE_writesOk (hl _ (List.getElem_mem _)) ih.1), by simp [stepR, ih.2]⟩

theorem c_impl_runAll (n1 : Option Bool) (v : List Int) (l : List Action) (hl : ∀ a, a ∈ l → ActOk a) (h10 : l.length ≤ 10) (hv : ValsOk v) :
    Det Tryz.prog 223 [.agg (cellsI v), .sl n1 (rows encA l)] (.tup [.agg (cellsI (runAllE v l).1), .osl false 3 (rows encF1 (runAllE v l).2)]) := by
  refine fspec_det tab_ok Tryz.call223 Tryz.func223 rfl 41 Tryz.ntmps223 (of_decide_eq_true rfl) fun B => codeK_sound tab_ok _ _ _ ?_
  have cl : (cellsI v).length = 32 := by rw [cellsI_length, hv.1]
  simp (config := { maxSteps := 4000000 }) only [go_sem, simprocAttr, ↓dnA, Tryz.f223, rows_length, cl, cellsI_impL, cellsI_impLB]
  refine semL_nilA 6 600 3 true (by rfl) (by rfl) (by decide) (by decide) ?_
  refine semL_for tab_ok (fun i : Nat => ⟨41, [(2, .loc 2 0), (4, .loc 4 0), (6, .row 600 i), (12, .sl n1 (rows encA l)), (13, .int .i64 l.length), (14, .int .i64 i)],
      [(2, .var (cellsI (runAllE v (l.take i)).1)), (4, .var (cellsI zeros32)), (600, .row true false 3 (rows encF1 (runAllE v (l.take i)).2))]⟩) (fun i => l.length - i)
    (fun i => i ≤ l.length) 0 [(2, 2), (4, 4), (600, 600)] (Weak.of (by rfl) ?_ ?_ (by rfl)) (by omega) ?_
  · simp (config := { maxSteps := 4000000 }) only [go_sem, simprocAttr, ↓dnA, Tryz.f223, rows_length, frW, wk2, wk1, wkL, wkB, hpW, List.mem_cons, Prod.mk.injEq, exists_eq_left, exists_eq_right, exists_eq]
    exact ⟨of_eq_true (cellsI_wk _ v), of_eq_true (cellsI_wk _ zeros32), rfl⟩
  · simp (config := { maxSteps := 4000000 }) only [go_sem, simprocAttr, ↓dnA, Tryz.f223, rows_length, frW, wk2, wk1, wkL, wkB, hpW, List.mem_cons, Prod.mk.injEq, exists_eq_left, exists_eq_right, exists_eq]
  · rintro i hi
    obtain ⟨hV, hL⟩ := runAllE_ok hl hv i hi
    generalize hp : runAllE v (l.take i) = p at hV hL
    obtain ⟨u, es⟩ := p
    dsimp only at hV hL
    have cu : (cellsI u).length = 32 := by rw [cellsI_length, hV.1]
    by_cases h : i < l.length
    · have ha := hl _ (List.getElem_mem h)
      have hcu : (cellsI u).take 32 = cellsI u := cellsI_take _ 32 hV.1
      simp (config := { maxSteps := 4000000 }) only [go_sem, simprocAttr, ↓dnA, Tryz.f223, rows_length, nlt h, h, hp, rows_get _ _ _ h, encA, nn0, cu, hcu, cellsI_noT, cellsI_argL]
      refine CallTo.det (c_impl_run l[i] u ha hV) fun _ => ?_
      simp (config := { maxSteps := 4000000 }) only [go_sem, simprocAttr, ↓dnA, Tryz.f223, rows_length, encFO, nn0, cu]
      have hW := runE_writesOk ha hV
      have hWl : (runE l[i] u).writes.length ≤ 2 := by
        unfold runE
        dsimp only
        split
        · rw [List.length_map]; exact writesA_len _
        · simp
      have hW0 : applyW u ((runE l[i] u).writes.take 0) = u := rfl
      have hstep : runAllE v (l.take (i + 1)) = (applyW u (runE l[i] u).writes, es ++ [runE l[i] u]) := by rw [runAllE_take _ _ _ h, hp]; rfl
      have hee : encF1 (runE l[i] u) = [.bool (runE l[i] u).done, .sl none (rows encE (runE l[i] u).reads), .sl none (rows encE (runE l[i] u).writes)] := rfl
      generalize hr : runE l[i] u = r at hW hWl hW0 hstep hee
      refine semL_for tab_ok (fun j : Nat => ⟨41, [(2, .loc 2 0), (4, .loc 4 0), (6, .row 600 i), (9, .loc 9 0), (12, .sl n1 (rows encA l)), (13, .int .i64 l.length), (14, .int .i64 i), (22, .row 21002 r.writes.length), (23, .int .i64 r.writes.length), (24, .int .i64 j)],
          [(2, .var (cellsI (applyW u (r.writes.take j)))), (4, .var (cellsI zeros32)), (600, .row true false 3 (rows encF1 es)), (9, .var [.bool r.done, .row 21001 r.reads.length, .row 21002 r.writes.length]),
            (21001, .row true false 2 (rows encE r.reads)), (21002, .row true false 2 (rows encE r.writes))]⟩) (fun j => r.writes.length - j)
        (fun j => j ≤ r.writes.length) 0 [(2, 2), (4, 4), (600, 600), (9, 9), (21001, 21001), (21002, 21002)] (Weak.of (by rfl) ?_ ?_ (by rfl)) (by omega) ?_
      · simp (config := { maxSteps := 4000000 }) only [go_sem, simprocAttr, ↓dnA, Tryz.f223, rows_length, frW, wk2, wk1, wkL, wkB, hpW, List.mem_cons, Prod.mk.injEq, exists_eq_left, exists_eq_right, exists_eq]
        exact ⟨of_eq_true (cellsI_wk _ u), of_eq_true (cellsI_wk _ _)⟩
      · simp (config := { maxSteps := 4000000 }) only [go_sem, simprocAttr, ↓dnA, Tryz.f223, rows_length, cellsI_wk, frW, wk2, wk1, wkL, wkB, hpW, List.mem_cons, Prod.mk.injEq, exists_eq_left, exists_eq_right, exists_eq]
      · rintro j hj
        have hA : ValsOk (applyW u (r.writes.take j)) := applyW_ok _ _ hV fun w hw => hW w (List.mem_of_mem_take hw)
        by_cases h2 : j < r.writes.length
        · have hw1 := hW _ (List.getElem_mem h2)
          have hw0 := applyW_take u _ _ h2
          generalize applyW u (r.writes.take j) = x at hA hw0
          have cx : (cellsI x).length = 32 := by rw [cellsI_length, hA.1]
          have hk0 := hw1.1.1
          have hk1 : r.writes[j].key < 32 := by omega
          have hw : IntKind.i64.wrap ((j : Int) + 1) = ((j + 1 : Nat) : Int) := wsucc h2 (by omega)
          simp (config := { maxSteps := 4000000 }) only [go_sem, simprocAttr, ↓dnA, Tryz.f223, rows_length, nlt h2, h2, rows_get _ _ _ h2, encE, nn0, cx, hw, hk0, hk1, cellsI_set, Nat.mul_one, show ¬ (1 = 32) by decide]
          repeat refine And.intro (by first | omega | (simp; done) | (simp; omega) | assumption) ?_
          refine ⟨j + 1, [(2, 2), (4, 4), (600, 600), (9, 9), (21001, 21001), (21002, 21002)], by omega, by dsimp only; omega, Weak.of (by rfl) ?_ ?_ (by rfl)⟩
          · simp (config := { maxSteps := 4000000 }) only [go_sem, simprocAttr, ↓dnA, Tryz.f223, rows_length, hw0, frW, wk2, wk1, wkL, wkB, hpW, List.mem_cons, Prod.mk.injEq, exists_eq_left, exists_eq_right, exists_eq]
            exact ⟨of_eq_true (cellsI_wk _ (putV x r.writes[j])), of_eq_true (cellsI_wk _ _)⟩
          · simp (config := { maxSteps := 4000000 }) only [go_sem, simprocAttr, ↓dnA, Tryz.f223, rows_length, frW, wk2, wk1, wkL, wkB, hpW, List.mem_cons, Prod.mk.injEq, exists_eq_left, exists_eq_right, exists_eq]
        · have hj' : j = r.writes.length := by omega
          subst hj'
          have hte : (rows encF1 es).take i = rows encF1 es := by rw [List.take_of_length_le]; rw [rows_length, hL]; omega
          have hw : IntKind.i64.wrap ((i : Int) + 1) = ((i + 1 : Nat) : Int) := wsucc h (by omega)
          simp (config := { maxSteps := 4000000 }) only [go_sem, simprocAttr, ↓dnA, Tryz.f223, rows_length, nlf h2, hL, hte, hw]
          repeat refine And.intro (by first | omega | (simp; done) | (simp; omega) | assumption) ?_
          refine ⟨i + 1, [(2, 2), (4, 4), (37, 600)], by omega, by dsimp only; omega, Weak.of (by rfl) ?_ ?_ (by rfl)⟩
          · simp (config := { maxSteps := 4000000 }) only [go_sem, simprocAttr, ↓dnA, Tryz.f223, rows_length, hstep, ← rows_snoc, hee, frW, wk2, wk1, wkL, wkB, hpW, List.mem_cons, Prod.mk.injEq, exists_eq_left, exists_eq_right, exists_eq]
            exact ⟨of_eq_true (cellsI_wk _ _), of_eq_true (cellsI_wk _ _)⟩
          · simp (config := { maxSteps := 4000000 }) only [go_sem, simprocAttr, ↓dnA, Tryz.f223, rows_length, frW, wk2, wk1, wkL, wkB, hpW, List.mem_cons, Prod.mk.injEq, exists_eq_left, exists_eq_right, exists_eq]
    · have hi' : i = l.length := by omega
      subst hi'
      rw [List.take_length] at hp
      have hcu : (cellsI u).take 32 = cellsI u := cellsI_take _ 32 hV.1
      have cz : (cellsI zeros32).length = 32 := rfl
      simp (config := { maxSteps := 4000000 }) only [go_sem, simprocAttr, ↓dnA, Tryz.f223, rows_length, nlf h, hp, List.take_length, cu, hcu, cz, hL, cellsI_exp, cellsI_rw, cellsI_one]

end Go.Proofs.YtmibclbinebnjaaGreat

/- Contracts: stores of values, serial runs (the program's). -/
set_option linter.unusedSimpArgs false
set_option linter.unusedVariables false
set_option maxRecDepth 20000
set_option maxHeartbeats 4000000
namespace Go.Proofs.YtmibclbinebnjaaGreat
open Go Go.RowKit

/-- The entries of the first n values. -/
def storeUp (v : List Int) (n : Nat) : List Entry := (List.range n).filterMap fun k => if v.getD k 0 > 0 then some ⟨(k : Int), v.getD k 0⟩ else none
def storeL (v : List Int) : List Entry := storeUp v 32
theorem storeUp_pos (v : List Int) (n : Nat) (h : v.getD n 0 > 0) : storeUp v (n + 1) = storeUp v n ++ [⟨(n : Int), v.getD n 0⟩] := by
  unfold storeUp
  rw [List.range_succ, List.filterMap_append]
  simp only [List.filterMap_cons, List.filterMap_nil, if_pos h]
theorem storeUp_neg (v : List Int) (n : Nat) (h : ¬ v.getD n 0 > 0) : storeUp v (n + 1) = storeUp v n := by
  unfold storeUp
  rw [List.range_succ, List.filterMap_append]
  simp only [List.filterMap_cons, List.filterMap_nil, if_neg h, List.append_nil]
theorem storeUp_len (v : List Int) (n : Nat) : (storeUp v n).length ≤ n := by
  have := List.length_filterMap_le (fun k : Nat => if v.getD k 0 > 0 then some (⟨(k : Int), v.getD k 0⟩ : Entry) else none) (List.range n)
  rw [List.length_range] at this
  exact this

theorem c_impl_store (v : List Int) (hv : ValsOk v) : Det Tryz.prog 204 [.agg (cellsI v)] (.osl false 2 (rows encE (storeL v))) := by
  refine fspec_det tab_ok Tryz.call204 Tryz.func204 rfl 21 Tryz.ntmps204 (of_decide_eq_true rfl) fun B => codeK_sound tab_ok _ _ _ ?_
  have cl : (cellsI v).length = 32 := by rw [cellsI_length, hv.1]
  have hcv : (cellsI v).take 32 = cellsI v := cellsI_take _ 32 hv.1
  simp (config := { maxSteps := 4000000 }) only [go_sem, simprocAttr, ↓dnA, Tryz.f204, rows_length, cl, hcv, cellsI_impL, cellsI_impLB]
  refine semL_nilA 3 600 2 true (by rfl) (by rfl) (by decide) (by decide) ?_
  refine semL_for tab_ok (fun i : Nat => ⟨21, [(1, .loc 1 0), (3, .row 600 (storeUp v i).length), (6, .agg (cellsI v)), (7, .int .i64 i)],
      [(1, .var (cellsI v)), (600, .row true false 2 (rows encE (storeUp v i)))]⟩) (fun i => 32 - i)
    (fun i => i ≤ 32) 0 [(1, 1), (600, 600)] (Weak.of (by rfl) ?_ ?_ (by rfl)) (by omega) ?_
  · simp (config := { maxSteps := 4000000 }) only [go_sem, simprocAttr, ↓dnA, Tryz.f204, rows_length, cellsI_wk, frW, wk2, wk1, wkL, wkB, hpW, List.mem_cons, Prod.mk.injEq, exists_eq_left, exists_eq_right, exists_eq]
    try rfl
  · simp (config := { maxSteps := 4000000 }) only [go_sem, simprocAttr, ↓dnA, Tryz.f204, rows_length, cellsI_wk, frW, wk2, wk1, wkL, wkB, hpW, List.mem_cons, Prod.mk.injEq, exists_eq_left, exists_eq_right, exists_eq]
    try rfl
  · rintro i hi
    have hl := storeUp_len v i
    by_cases h : i < 32
    · have hg := cellsI_get v i .top (by rw [hv.1]; exact h)
      have hw : IntKind.i64.wrap ((i : Int) + 1) = ((i + 1 : Nat) : Int) := wsucc h (by omega)
      have hn : decide ((i : Int) < 32) = true := by simp; omega
      have htk : (rows encE (storeUp v i)).take (storeUp v i).length = rows encE (storeUp v i) := by
        rw [List.take_of_length_le]; rw [rows_length]; omega
      cases hp : decide (v.getD i 0 > 0) with
      | true =>
        have hsu := storeUp_pos v i (of_decide_eq_true hp)
        simp (config := { maxSteps := 4000000 }) only [go_sem, simprocAttr, ↓dnA, Tryz.f204, rows_length, hn, h, nn0, cl, hg, hp, hw, htk]
        repeat refine And.intro (by first | omega | (simp; done) | (simp; omega) | assumption) ?_
        refine ⟨i + 1, [(1, 1), (18, 600)], by omega, by dsimp only; omega, Weak.of (by rfl) ?_ ?_ (by rfl)⟩
        · simp (config := { maxSteps := 4000000 }) only [go_sem, simprocAttr, ↓dnA, Tryz.f204, rows_length, hsu, ← rows_snoc, List.length_append, frW, wk2, wk1, wkL, wkB, hpW, List.mem_cons, Prod.mk.injEq, exists_eq_left, exists_eq_right, exists_eq]
          exact ⟨of_eq_true (cellsI_wk _ v), rfl⟩
        · simp (config := { maxSteps := 4000000 }) only [go_sem, simprocAttr, ↓dnA, Tryz.f204, rows_length, hsu, ← rows_snoc, List.length_append, frW, wk2, wk1, wkL, wkB, hpW, List.mem_cons, Prod.mk.injEq, exists_eq_left, exists_eq_right, exists_eq]
          try exact of_eq_true (cellsI_wk _ v)
      | false =>
        have hsu := storeUp_neg v i (of_decide_eq_false hp)
        simp (config := { maxSteps := 4000000 }) only [go_sem, simprocAttr, ↓dnA, Tryz.f204, rows_length, hn, h, nn0, cl, hg, hp, hw]
        repeat refine And.intro (by first | omega | (simp; done) | (simp; omega) | assumption) ?_
        refine ⟨i + 1, [(1, 1), (600, 600)], by omega, by dsimp only; omega, Weak.of (by rfl) ?_ ?_ (by rfl)⟩
        · simp (config := { maxSteps := 4000000 }) only [go_sem, simprocAttr, ↓dnA, Tryz.f204, rows_length, hsu, frW, wk2, wk1, wkL, wkB, hpW, List.mem_cons, Prod.mk.injEq, exists_eq_left, exists_eq_right, exists_eq]
          exact of_eq_true (cellsI_wk _ v)
        · simp (config := { maxSteps := 4000000 }) only [go_sem, simprocAttr, ↓dnA, Tryz.f204, rows_length, hsu, frW, wk2, wk1, wkL, wkB, hpW, List.mem_cons, Prod.mk.injEq, exists_eq_left, exists_eq_right, exists_eq]
          exact of_eq_true (cellsI_wk _ v)
    · have hi' : i = 32 := by omega
      subst hi'
      simp (config := { maxSteps := 4000000 }) only [go_sem, simprocAttr, ↓dnA, Tryz.f204, rows_length]
      rfl

/-- A serial run. -/
def runSerial (s : List Entry) (l : List Action) : List Entry × List Effect :=
  if storeValid s && actionsValid l then (storeL (runAllE (valuesL s) l).1, (runAllE (valuesL s) l).2) else ([], [])

theorem valuesL_ok {xs : List Entry} (h : storeValid xs = true) : ValsOk (valuesL xs) := by
  obtain ⟨h1, h2⟩ := entOk_spec 1 xs (-1) h
  refine applyW_ok xs zeros32 ⟨rfl, fun k => ?_⟩ fun w hw => ?_
  · rw [List.getD_eq_getElem?_getD, zeros32, List.getElem?_replicate]
    split <;> simp
  · have := h1 w hw
    omega

theorem actionsValid_ok {l : List Action} (h : actionsValid l = true) : (∀ a, a ∈ l → ActOk a) ∧ l.length ≤ 10 := by
  unfold actionsValid at h
  rw [Bool.and_eq_true] at h
  exact ⟨fun a ha => actOk_of (List.all_eq_true.1 h.2 a ha), of_decide_eq_true h.1⟩

theorem c_impl_RunSerial (n1 n2 : Option Bool) (s : List Entry) (l : List Action) (hs : s.length < 2 ^ 32) (hl : l.length < 2 ^ 32) :
    Det Tryz.prog 200 [.sl n1 (rows encE s), .sl n2 (rows encA l)] (.tup [.osl false 2 (rows encE (runSerial s l).1), .osl false 3 (rows encF1 (runSerial s l).2)]) := by
  refine fspec_det tab_ok Tryz.call200 Tryz.func200 rfl 26 Tryz.ntmps200 (of_decide_eq_true rfl) fun B => codeK_sound tab_ok _ _ _ ?_
  unfold runSerial
  simp (config := { maxSteps := 4000000 }) only [go_sem, simprocAttr, ↓dnA, Tryz.f200, rows_length]
  refine CallTo.det (c_impl_StoreValid n1 s (by omega)) fun _ => ?_
  cases h1 : storeValid s with
  | false => simp (config := { maxSteps := 4000000 }) only [go_sem, simprocAttr, ↓dnA, Tryz.f200, rows_length, h1, rows_nil]
  | true =>
    simp (config := { maxSteps := 4000000 }) only [go_sem, simprocAttr, ↓dnA, Tryz.f200, rows_length, h1]
    refine CallTo.det (c_impl_ActionsValid n2 l (by omega)) fun _ => ?_
    cases h2 : actionsValid l with
    | false => simp (config := { maxSteps := 4000000 }) only [go_sem, simprocAttr, ↓dnA, Tryz.f200, rows_length, h1, h2, rows_nil]
    | true =>
      obtain ⟨ha, h10⟩ := actionsValid_ok h2
      have hV := valuesL_ok h1
      have cl : (cellsI (valuesL s)).length = 32 := by rw [cellsI_length, hV.1]
      have hcv : (cellsI (valuesL s)).take 32 = cellsI (valuesL s) := cellsI_take _ 32 hV.1
      have hO := runAllE_ok ha hV l.length (Nat.le_refl _)
      rw [List.take_length] at hO
      obtain ⟨h3, h4⟩ := entOk_spec 1 s (-1) h1
      simp (config := { maxSteps := 4000000 }) only [go_sem, simprocAttr, ↓dnA, Tryz.f200, rows_length, h1, h2]
      refine CallTo.det (c_impl_valuesOf n1 s (by omega) (fun e he => by have := h3 e he; omega)) fun _ => ?_
      simp (config := { maxSteps := 4000000 }) only [go_sem, simprocAttr, ↓dnA, Tryz.f200, rows_length, h1, h2, cl, hcv, cellsI_impL, cellsI_impLB, cellsI_noT, cellsI_argL]
      refine CallTo.det (c_impl_runAll n2 (valuesL s) l ha h10 hV) fun _ => ?_
      generalize hp : runAllE (valuesL s) l = p at hO
      have cp : (cellsI p.1).length = 32 := by rw [cellsI_length, hO.1.1]
      have hcp : (cellsI p.1).take 32 = cellsI p.1 := cellsI_take _ 32 hO.1.1
      simp (config := { maxSteps := 4000000 }) only [go_sem, simprocAttr, ↓dnA, Tryz.f200, rows_length, h1, h2, cl, hcv, cp, hcp, cellsI_impL, cellsI_impLB, cellsI_noT, cellsI_argL, cellsI_one, cellsI_exp]
      repeat refine And.intro (by first | omega | (simp; done) | (simp; omega) | assumption) ?_
      refine CallTo.det (c_impl_store p.1 hO.1) fun _ => ?_
      simp (config := { maxSteps := 4000000 }) only [go_sem, simprocAttr, ↓dnA, Tryz.f200, rows_length, h1, h2, cl, hcv, cp, hcp, cellsI_impL, cellsI_impLB, cellsI_noT, cellsI_argL, cellsI_one, cellsI_exp]

end Go.Proofs.YtmibclbinebnjaaGreat

/- Contracts: the reference's stores with entries put. -/
set_option linter.unusedSimpArgs false
set_option linter.unusedVariables false
set_option maxRecDepth 20000
set_option maxHeartbeats 4000000
namespace Go.Proofs.YtmibclbinebnjaaGreat
open Go Go.RowKit

/-- One entry more, while k is put. -/
def putS (k x : Int) (p : List Entry × Bool) (e : Entry) : List Entry × Bool :=
  let q := if !p.2 && decide (e.key ≥ k) then (p.1 ++ [⟨k, x⟩], true) else p
  if (e.key != k) = true then (q.1 ++ [e], q.2) else q
def putF (k x : Int) (d : Bool) (s : List Entry) : List Entry × Bool := s.foldl (putS k x) ([], d)
def putD (k x : Int) (d : Bool) (s : List Entry) : List Entry := if (putF k x d s).2 then (putF k x d s).1 else (putF k x d s).1 ++ [⟨k, x⟩]

theorem putF_take (k x : Int) (d : Bool) (s : List Entry) (i : Nat) (h : i < s.length) : putF k x d (s.take (i + 1)) = putS k x (putF k x d (s.take i)) s[i] := by
  unfold putF
  rw [take_snoc _ _ h, List.foldl_append]
  rfl
theorem putF_len (k x : Int) (d : Bool) (s : List Entry) : ∀ i, i ≤ s.length → (putF k x d (s.take i)).1.length ≤ 2 * i
  | 0, _ => by simp [putF]
  | i + 1, hi => by
    have ih := putF_len k x d s i (by omega)
    rw [putF_take _ _ _ _ _ (by omega)]
    unfold putS
    dsimp only
    split <;> split <;> simp <;> omega

theorem c_spec_l4Put (n1 : Option Bool) (s : List Entry) (k x : Int) (hs : s.length < 2 ^ 32) : Det Tryz.prog 240 [.sl n1 (rows encE s), .int .i64 k, .int .i64 x] (.osl true 2 (rows encE (putD k x false s))) := by
  refine fspec_det tab_ok Tryz.call240 Tryz.func240 rfl 57 Tryz.ntmps240 (of_decide_eq_true rfl) fun B => codeK_sound tab_ok _ _ _ ?_
  simp (config := { maxSteps := 4000000 }) only [go_sem, simprocAttr, ↓dnA, Tryz.f240, rows_length]
  refine semL_for tab_ok (fun i : Nat => ⟨57, [(0, .sl n1 (rows encE s)), (1, .int .i64 k), (2, .int .i64 x), (7, .row 600 (putF k x false (s.take i)).1.length), (8, .bool (putF k x false (s.take i)).2), (9, .int .i64 i)],
      [(600, .row true true 2 (rows encE (putF k x false (s.take i)).1))]⟩) (fun i => s.length - i)
    (fun i => i ≤ s.length) 0 [(10, 600)] (Weak.of (by rfl) ?_ ?_ (by rfl)) (by omega) ?_
  · simp (config := { maxSteps := 4000000 }) only [go_sem, simprocAttr, ↓dnA, Tryz.f240, rows_length, frW, wk2, wk1, wkL, wkB, hpW, List.mem_cons, Prod.mk.injEq, exists_eq_left, exists_eq_right, exists_eq]
    rfl
  · simp (config := { maxSteps := 4000000 }) only [go_sem, simprocAttr, ↓dnA, Tryz.f240, rows_length, frW, wk2, wk1, wkL, wkB, hpW, List.mem_cons, Prod.mk.injEq, exists_eq_left, exists_eq_right, exists_eq]
    exact ⟨rfl, rfl⟩
  · rintro i hi
    have hl := putF_len k x false s i hi
    by_cases h : i < s.length
    · have hw : IntKind.i64.wrap ((i : Int) + 1) = ((i + 1 : Nat) : Int) := wsucc h (by omega)
      have hst := putF_take k x false s i h
      generalize hp : putF k x false (s.take i) = p at hl hst
      obtain ⟨acc, dn⟩ := p
      dsimp only at hl
      have htk : (rows encE acc).take acc.length = rows encE acc := by rw [List.take_of_length_le]; rw [rows_length]; omega
      have hlk : List.length (rows encE acc ++ [[AV.int IntKind.i64 k, AV.int IntKind.i64 x]]) = acc.length + 1 := by simp [rows_length]
      have htk2 : (rows encE acc ++ [[AV.int IntKind.i64 k, AV.int IntKind.i64 x]]).take (acc.length + 1) = rows encE acc ++ [[AV.int IntKind.i64 k, AV.int IntKind.i64 x]] := by rw [List.take_of_length_le]; rw [hlk]; omega
      cases dn <;> cases h1 : decide (s[i].key ≥ k) <;> cases h2 : (s[i].key != k)
      all_goals (simp only [putS, h1, h2, Bool.not_true, Bool.not_false, Bool.and_true, Bool.and_false, Bool.false_eq_true, if_true, if_false] at hst)
      all_goals (simp (config := { maxSteps := 4000000 }) only [go_sem, simprocAttr, ↓dnA, Tryz.f240, rows_length, nlt h, h, rows_get _ _ _ h, encE, nn0, hp, h1, h2, htk, hlk, htk2, hw])
      all_goals repeat refine And.intro (by first | omega | (simp; done) | (simp; omega) | assumption) ?_
      all_goals first
        | (refine ⟨i + 1, [(47, 600)], by omega, by dsimp only; omega, Weak.of (by rfl) ?_ ?_ (by rfl)⟩
           · simp (config := { maxSteps := 4000000 }) only [go_sem, simprocAttr, ↓dnA, Tryz.f240, rows_length, hst, List.length_append, frW, wk2, wk1, wkL, wkB, hpW, List.mem_cons, Prod.mk.injEq, exists_eq_left, exists_eq_right, exists_eq]
             simp [rows, encE]
           · simp (config := { maxSteps := 4000000 }) only [go_sem, simprocAttr, ↓dnA, Tryz.f240, rows_length, hst, List.length_append, frW, wk2, wk1, wkL, wkB, hpW, List.mem_cons, Prod.mk.injEq, exists_eq_left, exists_eq_right, exists_eq])
        | (refine ⟨i + 1, [(33, 600)], by omega, by dsimp only; omega, Weak.of (by rfl) ?_ ?_ (by rfl)⟩
           · simp (config := { maxSteps := 4000000 }) only [go_sem, simprocAttr, ↓dnA, Tryz.f240, rows_length, hst, List.length_append, frW, wk2, wk1, wkL, wkB, hpW, List.mem_cons, Prod.mk.injEq, exists_eq_left, exists_eq_right, exists_eq]
             simp [rows, encE]
           · simp (config := { maxSteps := 4000000 }) only [go_sem, simprocAttr, ↓dnA, Tryz.f240, rows_length, hst, List.length_append, frW, wk2, wk1, wkL, wkB, hpW, List.mem_cons, Prod.mk.injEq, exists_eq_left, exists_eq_right, exists_eq])
        | (refine ⟨i + 1, [(600, 600)], by omega, by dsimp only; omega, Weak.of (by rfl) ?_ ?_ (by rfl)⟩
           · simp (config := { maxSteps := 4000000 }) only [go_sem, simprocAttr, ↓dnA, Tryz.f240, rows_length, hst, List.length_append, frW, wk2, wk1, wkL, wkB, hpW, List.mem_cons, Prod.mk.injEq, exists_eq_left, exists_eq_right, exists_eq]
           · simp (config := { maxSteps := 4000000 }) only [go_sem, simprocAttr, ↓dnA, Tryz.f240, rows_length, hst, List.length_append, frW, wk2, wk1, wkL, wkB, hpW, List.mem_cons, Prod.mk.injEq, exists_eq_left, exists_eq_right, exists_eq])
    · have hi' : i = s.length := by omega
      subst hi'
      rw [List.take_length] at hl
      unfold putD
      generalize hp : putF k x false s = p at hl
      obtain ⟨acc, dn⟩ := p
      dsimp only at hl
      have htk : (rows encE acc).take acc.length = rows encE acc := by rw [List.take_of_length_le]; rw [rows_length]; omega
      cases dn with
      | true =>
        simp (config := { maxSteps := 4000000 }) only [go_sem, simprocAttr, ↓dnA, Tryz.f240, rows_length, nlf h, hp, List.take_length, htk]
        try rfl
      | false =>
        simp (config := { maxSteps := 4000000 }) only [go_sem, simprocAttr, ↓dnA, Tryz.f240, rows_length, nlf h, hp, List.take_length, htk]
        repeat refine And.intro (by first | omega | (simp; done) | (simp; omega) | assumption) ?_
        exact ⟨by simp [rows_length], by simp [rows, encE]⟩

theorem c_spec_l2Put (n1 : Option Bool) (s : List Entry) (k x : Int) (hs : s.length < 2 ^ 32) : Det Tryz.prog 227 [.sl n1 (rows encE s), .int .i64 k, .int .i64 x] (.osl true 2 (rows encE (putD k x (x == 0) s))) := by
  refine fspec_det tab_ok Tryz.call227 Tryz.func227 rfl 59 Tryz.ntmps227 (of_decide_eq_true rfl) fun B => codeK_sound tab_ok _ _ _ ?_
  simp (config := { maxSteps := 4000000 }) only [go_sem, simprocAttr, ↓dnA, Tryz.f227, rows_length]
  refine semL_for tab_ok (fun i : Nat => ⟨59, [(0, .sl n1 (rows encE s)), (1, .int .i64 k), (2, .int .i64 x), (7, .row 600 (putF k x (x == 0) (s.take i)).1.length), (8, .bool (putF k x (x == 0) (s.take i)).2), (9, .int .i64 i)],
      [(600, .row true true 2 (rows encE (putF k x (x == 0) (s.take i)).1))]⟩) (fun i => s.length - i)
    (fun i => i ≤ s.length) 0 [(10, 600)] (Weak.of (by rfl) ?_ ?_ (by rfl)) (by omega) ?_
  · simp (config := { maxSteps := 4000000 }) only [go_sem, simprocAttr, ↓dnA, Tryz.f227, rows_length, frW, wk2, wk1, wkL, wkB, hpW, List.mem_cons, Prod.mk.injEq, exists_eq_left, exists_eq_right, exists_eq]
    rfl
  · simp (config := { maxSteps := 4000000 }) only [go_sem, simprocAttr, ↓dnA, Tryz.f227, rows_length, frW, wk2, wk1, wkL, wkB, hpW, List.mem_cons, Prod.mk.injEq, exists_eq_left, exists_eq_right, exists_eq]
    exact ⟨rfl, rfl⟩
  · rintro i hi
    have hl := putF_len k x (x == 0) s i hi
    by_cases h : i < s.length
    · have hw : IntKind.i64.wrap ((i : Int) + 1) = ((i + 1 : Nat) : Int) := wsucc h (by omega)
      have hst := putF_take k x (x == 0) s i h
      generalize hp : putF k x (x == 0) (s.take i) = p at hl hst
      obtain ⟨acc, dn⟩ := p
      dsimp only at hl
      have htk : (rows encE acc).take acc.length = rows encE acc := by rw [List.take_of_length_le]; rw [rows_length]; omega
      have hlk : List.length (rows encE acc ++ [[AV.int IntKind.i64 k, AV.int IntKind.i64 x]]) = acc.length + 1 := by simp [rows_length]
      have htk2 : (rows encE acc ++ [[AV.int IntKind.i64 k, AV.int IntKind.i64 x]]).take (acc.length + 1) = rows encE acc ++ [[AV.int IntKind.i64 k, AV.int IntKind.i64 x]] := by rw [List.take_of_length_le]; rw [hlk]; omega
      cases dn <;> cases h1 : decide (s[i].key ≥ k) <;> cases h2 : (s[i].key != k)
      all_goals (simp only [putS, h1, h2, Bool.not_true, Bool.not_false, Bool.and_true, Bool.and_false, Bool.false_eq_true, if_true, if_false] at hst)
      all_goals (simp (config := { maxSteps := 4000000 }) only [go_sem, simprocAttr, ↓dnA, Tryz.f227, rows_length, nlt h, h, rows_get _ _ _ h, encE, nn0, hp, h1, h2, htk, hlk, htk2, hw])
      all_goals repeat refine And.intro (by first | omega | (simp; done) | (simp; omega) | assumption) ?_
      all_goals first
        | (refine ⟨i + 1, [(49, 600)], by omega, by dsimp only; omega, Weak.of (by rfl) ?_ ?_ (by rfl)⟩
           · simp (config := { maxSteps := 4000000 }) only [go_sem, simprocAttr, ↓dnA, Tryz.f227, rows_length, hst, List.length_append, frW, wk2, wk1, wkL, wkB, hpW, List.mem_cons, Prod.mk.injEq, exists_eq_left, exists_eq_right, exists_eq]
             simp [rows, encE]
           · simp (config := { maxSteps := 4000000 }) only [go_sem, simprocAttr, ↓dnA, Tryz.f227, rows_length, hst, List.length_append, frW, wk2, wk1, wkL, wkB, hpW, List.mem_cons, Prod.mk.injEq, exists_eq_left, exists_eq_right, exists_eq])
        | (refine ⟨i + 1, [(35, 600)], by omega, by dsimp only; omega, Weak.of (by rfl) ?_ ?_ (by rfl)⟩
           · simp (config := { maxSteps := 4000000 }) only [go_sem, simprocAttr, ↓dnA, Tryz.f227, rows_length, hst, List.length_append, frW, wk2, wk1, wkL, wkB, hpW, List.mem_cons, Prod.mk.injEq, exists_eq_left, exists_eq_right, exists_eq]
             simp [rows, encE]
           · simp (config := { maxSteps := 4000000 }) only [go_sem, simprocAttr, ↓dnA, Tryz.f227, rows_length, hst, List.length_append, frW, wk2, wk1, wkL, wkB, hpW, List.mem_cons, Prod.mk.injEq, exists_eq_left, exists_eq_right, exists_eq])
        | (refine ⟨i + 1, [(600, 600)], by omega, by dsimp only; omega, Weak.of (by rfl) ?_ ?_ (by rfl)⟩
           · simp (config := { maxSteps := 4000000 }) only [go_sem, simprocAttr, ↓dnA, Tryz.f227, rows_length, hst, List.length_append, frW, wk2, wk1, wkL, wkB, hpW, List.mem_cons, Prod.mk.injEq, exists_eq_left, exists_eq_right, exists_eq]
           · simp (config := { maxSteps := 4000000 }) only [go_sem, simprocAttr, ↓dnA, Tryz.f227, rows_length, hst, List.length_append, frW, wk2, wk1, wkL, wkB, hpW, List.mem_cons, Prod.mk.injEq, exists_eq_left, exists_eq_right, exists_eq])
    · have hi' : i = s.length := by omega
      subst hi'
      rw [List.take_length] at hl
      unfold putD
      generalize hp : putF k x (x == 0) s = p at hl
      obtain ⟨acc, dn⟩ := p
      dsimp only at hl
      have htk : (rows encE acc).take acc.length = rows encE acc := by rw [List.take_of_length_le]; rw [rows_length]; omega
      cases dn with
      | true =>
        simp (config := { maxSteps := 4000000 }) only [go_sem, simprocAttr, ↓dnA, Tryz.f227, rows_length, nlf h, hp, List.take_length, htk]
        try rfl
      | false =>
        simp (config := { maxSteps := 4000000 }) only [go_sem, simprocAttr, ↓dnA, Tryz.f227, rows_length, nlf h, hp, List.take_length, htk]
        repeat refine And.intro (by first | omega | (simp; done) | (simp; omega) | assumption) ?_
        exact ⟨by simp [rows_length], by simp [rows, encE]⟩

end Go.Proofs.YtmibclbinebnjaaGreat

/- Contracts: the reference's runs of one action. -/
set_option linter.unusedSimpArgs false
set_option linter.unusedVariables false
set_option maxRecDepth 20000
set_option maxHeartbeats 4000000
namespace Go.Proofs.YtmibclbinebnjaaGreat
open Go Go.RowKit

theorem c_spec_l4Writes (n1 : Option Bool) (xs : List Entry) (hx : xs.length < 2 ^ 62) : Det Tryz.prog 233 [.sl n1 (rows encE xs)] (.bool (entOk 0 (-1) xs)) := by
  refine fspec_det tab_ok Tryz.call233 Tryz.func233 rfl 44 Tryz.ntmps233 (of_decide_eq_true rfl) fun B => codeK_sound tab_ok _ _ _ ?_
  simp (config := { maxSteps := 4000000 }) only [go_sem, simprocAttr, ↓dnA, Tryz.f233, rows_length]
  refine semL_for tab_ok (fun i : Nat => ⟨44, [(0, .sl n1 (rows encE xs)), (3, .int .i64 i)], []⟩) (fun i => xs.length - i)
    (fun i => i ≤ xs.length ∧ ∃ last : Int, -1 ≤ last ∧ (i = 0 → last = -1) ∧ (∀ j (h : j < xs.length), i = j + 1 → last = xs[j].key) ∧ entOk 0 last (xs.drop i) = entOk 0 (-1) xs) 0 [] (Weak.of rfl trivial ?_ rfl) ⟨by omega, -1, by omega, fun _ => rfl, fun j h hj => by omega, rfl⟩ ?_
  · simp (config := { maxSteps := 4000000 }) only [go_sem, simprocAttr, ↓dnA, Tryz.f233, frW, wk2, wk1, wkL, wkB, hpW, List.mem_cons, Prod.mk.injEq, exists_eq_left, exists_eq_right, exists_eq]
  · rintro i ⟨hi, last, hl, h0, hs, hp⟩
    by_cases h : i < xs.length
    · rw [drop_cons xs i h] at hp
      simp only [entOk] at hp
      simp (config := { maxSteps := 4000000 }) only [go_sem, simprocAttr, ↓dnA, Tryz.f233, rows_length, rows_get _ _ _ h, encE, nlt h, nn0]
      refine semL_draw tab_ok mixed_ rfl (ord := [(0, []), (1, []), (2, []), (3, []), (4, []), (5, []), (6, []), (7, []), (8, []), (9, []), (10, []), (11, []), (12, []), (13, []), (14, []), (15, []), (16, []), (17, []), (18, []), (19, []), (20, []), (21, []), (22, []), (23, []), (24, []), (25, []), (26, []), (27, []), (28, []), (29, []), (30, []), (31, []), (32, []), (33, [])]) (by dsimp only; decide +kernel) ?_
      simp (config := { maxSteps := 4000000 }) only [go_sem, simprocAttr, ↓dnA, Tryz.f233, rows_length, rows_get _ _ _ h, encE, nlt h, nn0]
      refine CallTo.det (c_l1In _ _ _) fun _ => ?_
      cases h1 : inB xs[i].key 0 31 with
      | false =>
        have h1' : inB xs[i].key (last + 1) 31 = false := by
          cases hc : inB xs[i].key (last + 1) 31 with
          | false => rfl
          | true => rw [inB_iff] at hc; rw [inB_iff.2 ⟨by omega, hc.2⟩] at h1; exact h1
        rw [h1', Bool.false_and, Bool.false_and] at hp
        simp (config := { maxSteps := 4000000 }) only [go_sem, simprocAttr, ↓dnA, Tryz.f233, rows_length, rows_get _ _ _ h, encE, nlt h, nn0, h1]
        exact hp.symm
      | true =>
        simp (config := { maxSteps := 4000000 }) only [go_sem, simprocAttr, ↓dnA, Tryz.f233, rows_length, rows_get _ _ _ h, encE, nlt h, nn0, h1]
        refine CallTo.det (c_l1In _ _ _) fun _ => ?_
        cases h2 : inB xs[i].value 0 1000000 with
        | false =>
          rw [h2, Bool.and_false, Bool.false_and] at hp
          simp (config := { maxSteps := 4000000 }) only [go_sem, simprocAttr, ↓dnA, Tryz.f233, rows_length, rows_get _ _ _ h, encE, nlt h, nn0, h1, h2]
          exact hp.symm
        | true =>
          rcases Nat.eq_zero_or_pos i with rfl | hpos
          · simp (config := { maxSteps := 4000000 }) only [go_sem, simprocAttr, ↓dnA, Tryz.f233, rows_length, rows_get _ _ _ h, encE, nlt h, nn0, h1, h2]
            have hl0 := h0 rfl
            have w1 : IntKind.i64.wrap 1 = 1 := by decide
            subst hl0
            rw [h2] at hp
            have h1' : inB (xs[0]'h).key (-1 + 1) 31 = true := h1
            rw [h1', Bool.true_and, Bool.true_and] at hp
            have hk := inB_iff.1 h1
            refine ⟨1, [], ⟨by omega, (xs[0]'h).key, by omega, fun hc => absurd hc (by omega), fun j hj e => ?_, hp⟩, by dsimp only; omega, Weak.of rfl trivial ?_ rfl⟩
            · obtain rfl : j = 0 := by omega
              rfl
            · simp (config := { maxSteps := 4000000 }) only [go_sem, simprocAttr, ↓dnA, Tryz.f233, w1, frW, wk2, wk1, wkL, wkB, hpW, List.mem_cons, Prod.mk.injEq, exists_eq_left, exists_eq_right, exists_eq]
          · obtain ⟨j, rfl⟩ : ∃ j, i = j + 1 := ⟨i - 1, by omega⟩
            have hw : IntKind.i64.wrap (((j + 1 : Nat) : Int) - 1) = (j : Int) := by rw [wrap_small _ (by omega) (by omega)]; omega
            have hj : j < xs.length := by omega
            have hg : decide (((j + 1 : Nat) : Int) > 0) = true := by simp
            have hls := hs j hj rfl
            simp (config := { maxSteps := 4000000 }) only [go_sem, simprocAttr, ↓dnA, Tryz.f233, rows_length, rows_get _ _ _ h, encE, nlt h, nn0, h1, h2, hw, rows_get _ _ _ hj, nlt hj, hg]
            have hk := inB_iff.1 h1
            cases h3 : decide (xs[j + 1].key ≤ xs[j].key) with
            | true =>
              have h1' : inB xs[j + 1].key (last + 1) 31 = false := by
                cases hc : inB xs[j + 1].key (last + 1) 31 with
                | false => rfl
                | true => rw [inB_iff] at hc; simp at h3; omega
              rw [h1', Bool.false_and, Bool.false_and] at hp
              exact ⟨fun _ => hp.symm, fun hc => by simp at hc⟩
            | false =>
              have h1' : inB xs[j + 1].key (last + 1) 31 = true := by rw [inB_iff]; simp at h3; omega
              rw [h1', h2, Bool.true_and, Bool.true_and] at hp
              simp only [Bool.false_eq_true, false_implies, true_implies, true_and, forall_const]
              refine ⟨j + 1 + 1, [], ⟨by omega, xs[j + 1].key, by omega, fun hc => absurd hc (by omega), fun j' hj' e => ?_, hp⟩, by dsimp only; omega, Weak.of rfl trivial ?_ rfl⟩
              · obtain rfl : j' = j + 1 := by omega
                rfl
              · simp (config := { maxSteps := 4000000 }) only [go_sem, simprocAttr, ↓dnA, Tryz.f233, wsucc h hx, frW, wk2, wk1, wkL, wkB, hpW, List.mem_cons, Prod.mk.injEq, exists_eq_left, exists_eq_right, exists_eq]
    · have : i = xs.length := by omega
      subst this
      simp only [List.drop_length] at hp
      simp (config := { maxSteps := 4000000 }) only [go_sem, simprocAttr, ↓dnA, Tryz.f233, rows_length, nlf h]
      exact hp.symm

theorem c_spec_ActionReads (a : Action) (ha : actionValid a = true) : Det Tryz.prog 239 [.agg (encA a)] (.osl true 1 (rows encI (readsA a))) := by
  refine fspec_det tab_ok Tryz.call239 Tryz.func239 rfl 35 Tryz.ntmps239 (of_decide_eq_true rfl) fun B => codeK_sound tab_ok _ _ _ ?_
  unfold encA readsA
  simp (config := { maxSteps := 4000000 }) only [go_sem, simprocAttr, ↓dnA, Tryz.f239, rows_length]
  refine CallTo.det (c_spec_ActionValid a) fun _ => ?_
  by_cases h1 : a.kind = 1
  · have e1 : (a.kind == 1) = true := by simp [h1]
    simp (config := { maxSteps := 4000000 }) only [go_sem, simprocAttr, ↓dnA, Tryz.f239, rows_length, ha, e1, h1, rows_nil]
  · have e1 : (a.kind == 1) = false := by simp [h1]
    by_cases h3 : a.kind = 3
    · have e3 : (a.kind == 3) = true := by simp [h3]
      simp (config := { maxSteps := 4000000 }) only [go_sem, simprocAttr, ↓dnA, Tryz.f239, rows_length, ha, e1, h1, e3, h3, rows, encI]
    · have e3 : (a.kind == 3) = false := by simp [h3]
      by_cases h6 : a.kind = 6
      · have e6 : (a.kind == 6) = true := by simp [h6]
        simp (config := { maxSteps := 4000000 }) only [go_sem, simprocAttr, ↓dnA, Tryz.f239, rows_length, ha, e1, h1, e3, h3, e6, h6, rows, encI]
      · have e6 : (a.kind == 6) = false := by simp [h6]
        by_cases hf : a.fr = a.to
        · have ef : (a.fr == a.to) = true := by simp [hf]
          simp (config := { maxSteps := 4000000 }) only [go_sem, simprocAttr, ↓dnA, Tryz.f239, rows_length, ha, e1, h1, e3, h3, e6, h6, ef, hf, rows, encI]
        · have ef : (a.fr == a.to) = false := by simp [hf]
          simp (config := { maxSteps := 4000000 }) only [go_sem, simprocAttr, ↓dnA, Tryz.f239, rows_length, ha, e1, h1, e3, h3, e6, h6, ef, hf, rows, encI]

/-- The effect of an action on the values of From and To. -/
def runX (a : Action) (f t : Int) : Effect := ⟨doneA a f t, (readsA a).map fun k => ⟨k, if k = a.fr then f else t⟩, if doneA a f t then (writesA a).map fun k => ⟨k, newV a f t k⟩ else []⟩

theorem runE_eq (a : Action) (v : List Int) : runE a v = runX a (valK v a.fr) (valK v a.to) := by
  unfold runE runX
  congr 1
  apply List.map_congr_left
  intro k hk
  by_cases h : k = a.fr
  · rw [if_pos h, h]
  · rw [if_neg h]
    rcases mem_reads hk with e | e
    · exact absurd e h
    · rw [e]

theorem putD_two (a b x y : Int) : putD b y false [⟨a, x⟩] = if a = b then [⟨b, y⟩] else [⟨min a b, if min a b = b then y else x⟩, ⟨max a b, if max a b = b then y else x⟩] := by
  unfold putD putF putS
  simp only [List.foldl_cons, List.foldl_nil, Bool.not_false, Bool.true_and]
  by_cases h : a = b
  · subst h; simp
  · by_cases h2 : a ≥ b
    · have e1 : min a b = b := by omega
      have e2 : max a b = a := by omega
      simp [h, h2, e1, e2]
    · have e1 : min a b = a := by omega
      have e2 : max a b = b := by omega
      simp [h, h2, e1, e2]

theorem c_spec_l6Run (a : Action) (f t : Int) (ha : actionValid a = true) (hf : 0 ≤ f ∧ f ≤ 1000000) (ht : 0 ≤ t ∧ t ≤ 1000000) :
    Det Tryz.prog 231 [.agg (encA a), .int .i64 f, .int .i64 t] (.agg (encFO (runX a f t))) := by
  refine fspec_det tab_ok Tryz.call231 Tryz.func231 rfl 152 Tryz.ntmps231 (of_decide_eq_true rfl) fun B => codeK_sound tab_ok _ _ _ ?_
  have hA := actOk_of ha
  have hfr := hA.fr
  have hto := hA.to
  have ham := hA.amount
  have h2 := readsA_len a
  simp (config := { maxSteps := 4000000 }) only [go_sem, simprocAttr, ↓dnA, Tryz.f231, rows_length, encA]
  refine CallTo.det (c_spec_ActionReads a ha) fun _ => ?_
  simp (config := { maxSteps := 4000000 }) only [go_sem, simprocAttr, ↓dnA, Tryz.f231, rows_length, encA]
  refine semL_nilVA 7 1 600 2 true (by rfl) (by simp) (by rfl) (by rfl) (by decide) (by decide) ?_
  have hrd : (runX a f t).reads = (readsA a).map fun k => ⟨k, if k = a.fr then f else t⟩ := rfl
  generalize hrs : readsA a = rs at h2 hrd
  generalize hnr : (fun k => (⟨k, if k = a.fr then f else t⟩ : Entry)) = nr at hrd
  have hmr : ∀ k, k ∈ rs → k = a.fr ∨ k = a.to := fun k hk => mem_reads (by rw [hrs]; exact hk)
  refine semL_for tab_ok (fun i : Nat => ⟨152, [(1, .int .i64 f), (2, .int .i64 t), (3, .loc 3 0), (6, .loc 6 0), (7, .loc 7 0), (8, .row 14000 rs.length), (9, .int .i64 i)],
      [(14000, .row true true 1 (rows encI rs)), (7, .var [.bool true, .row 600 i, .sl (some false) []]), (6, .var [.bool false, .sl (some false) [], .sl (some false) []]), (3, .var (encA a)),
        (600, .row true false 2 (rows encE ((rs.take i).map nr)))]⟩) (fun i => rs.length - i)
    (fun i => i ≤ rs.length) 0 [(3, 3), (6, 6), (7, 7), (14000, 14000), (600, 600)] (Weak.of (by rfl) ?_ ?_ (by rfl)) (by omega) ?_
  · simp (config := { maxSteps := 4000000 }) only [go_sem, simprocAttr, ↓dnA, Tryz.f231, rows_length, encA, frW, wk2, wk1, wkL, wkB, hpW, List.mem_cons, Prod.mk.injEq, exists_eq_left, exists_eq_right, exists_eq]
    try rfl
  · simp (config := { maxSteps := 4000000 }) only [go_sem, simprocAttr, ↓dnA, Tryz.f231, rows_length, encA, frW, wk2, wk1, wkL, wkB, hpW, List.mem_cons, Prod.mk.injEq, exists_eq_left, exists_eq_right, exists_eq]
    try rfl
  · rintro i hi
    by_cases h : i < rs.length
    · have hk := hmr _ (List.getElem_mem h)
      have hb : 0 ≤ rs[i] ∧ rs[i] < 32 := by rcases hk with e | e <;> rw [e] <;> omega
      have htk : (rows encE ((rs.take i).map nr)).take i = rows encE ((rs.take i).map nr) := by
        rw [List.take_of_length_le]; rw [rows_length, List.length_map, List.length_take]; omega
      have hl : min i rs.length = i := by omega
      have hw : IntKind.i64.wrap ((i : Int) + 1) = ((i + 1 : Nat) : Int) := wsucc h (by omega)
      have hni : nr rs[i] = ⟨rs[i], if rs[i] = a.fr then f else t⟩ := by rw [← hnr]
      simp (config := { maxSteps := 4000000 }) only [go_sem, simprocAttr, ↓dnA, Tryz.f231, rows_length, nlt h, h, rows_get _ _ _ h, encI, encA, nn0]
      refine semL_draw tab_ok mixed_ rfl (ord := [(0, []), (1, []), (2, []), (3, []), (4, []), (5, []), (6, [])]) (by dsimp only; decide +kernel) ?_
      cases hd : (rs[i] != a.fr) with
      | true =>
        have hd' : ¬ rs[i] = a.fr := by simpa using hd
        rw [if_neg hd'] at hni
        simp (config := { maxSteps := 4000000 }) only [go_sem, simprocAttr, ↓dnA, Tryz.f231, rows_length, nlt h, h, rows_get _ _ _ h, encI, encA, nn0, hd]
        refine semL_draw tab_ok mixed_ rfl (ord := [(0, []), (1, []), (2, []), (3, []), (4, []), (5, []), (6, []), (7, []), (8, [0, 1]), (9, []), (10, []), (11, [])]) (by dsimp only; decide +kernel) ?_
        simp (config := { maxSteps := 4000000 }) only [go_sem, simprocAttr, ↓dnA, Tryz.f231, rows_length, nlt h, h, rows_get _ _ _ h, encI, encA, nn0, List.length_take, List.length_map, hl, htk, hw]
        repeat refine And.intro (by first | omega | (simp; done) | (simp; omega) | assumption) ?_
        refine ⟨i + 1, [(3, 3), (6, 6), (7, 7), (14000, 14000), (38, 600)], by omega, by dsimp only; omega, Weak.of (by rfl) ?_ ?_ (by rfl)⟩
        · simp (config := { maxSteps := 4000000 }) only [go_sem, simprocAttr, ↓dnA, Tryz.f231, rows_length, encA, frW, wk2, wk1, wkL, wkB, hpW, List.mem_cons, Prod.mk.injEq, exists_eq_left, exists_eq_right, exists_eq]
          rw [take_snoc _ _ h, List.map_append, List.map_singleton, ← rows_snoc, hni]
          rfl
        · simp (config := { maxSteps := 4000000 }) only [go_sem, simprocAttr, ↓dnA, Tryz.f231, rows_length, encA, frW, wk2, wk1, wkL, wkB, hpW, List.mem_cons, Prod.mk.injEq, exists_eq_left, exists_eq_right, exists_eq]
      | false =>
        have hd' : rs[i] = a.fr := by simpa using hd
        rw [if_pos hd'] at hni
        simp (config := { maxSteps := 4000000 }) only [go_sem, simprocAttr, ↓dnA, Tryz.f231, rows_length, nlt h, h, rows_get _ _ _ h, encI, encA, nn0, hd]
        refine semL_draw tab_ok mixed_ rfl (ord := [(0, []), (1, []), (2, []), (3, []), (4, []), (5, []), (6, []), (7, []), (8, [0, 1]), (9, []), (10, []), (11, [])]) (by dsimp only; decide +kernel) ?_
        simp (config := { maxSteps := 4000000 }) only [go_sem, simprocAttr, ↓dnA, Tryz.f231, rows_length, nlt h, h, rows_get _ _ _ h, encI, encA, nn0, List.length_take, List.length_map, hl, htk, hw]
        repeat refine And.intro (by first | omega | (simp; done) | (simp; omega) | assumption) ?_
        refine ⟨i + 1, [(3, 3), (6, 6), (7, 7), (14000, 14000), (38, 600)], by omega, by dsimp only; omega, Weak.of (by rfl) ?_ ?_ (by rfl)⟩
        · simp (config := { maxSteps := 4000000 }) only [go_sem, simprocAttr, ↓dnA, Tryz.f231, rows_length, encA, frW, wk2, wk1, wkL, wkB, hpW, List.mem_cons, Prod.mk.injEq, exists_eq_left, exists_eq_right, exists_eq]
          rw [take_snoc _ _ h, List.map_append, List.map_singleton, ← rows_snoc, hni]
          rfl
        · simp (config := { maxSteps := 4000000 }) only [go_sem, simprocAttr, ↓dnA, Tryz.f231, rows_length, encA, frW, wk2, wk1, wkL, wkB, hpW, List.mem_cons, Prod.mk.injEq, exists_eq_left, exists_eq_right, exists_eq]
    · have hi' : i = rs.length := by omega
      subst hi'
      rw [List.take_length]
      have w1 : IntKind.i64.wrap (f - a.amount) = f - a.amount := wrap_small _ (by omega) (by omega)
      have w2 : IntKind.i64.wrap (f + t) = f + t := wrap_small _ (by omega) (by omega)
      have w3 : IntKind.i64.wrap (t + a.amount) = t + a.amount := wrap_small _ (by omega) (by omega)
      obtain ⟨kd, fr, to, am⟩ := a
      dsimp only at *
      rcases hA.kind with e | e | e | e | e | e <;> dsimp only at e <;> subst e
      · have hde : (runX ⟨1, fr, to, am⟩ f t).done = true := rfl
        have hwr : (runX ⟨1, fr, to, am⟩ f t).writes = [⟨fr, am⟩] := rfl
        simp (config := { maxSteps := 4000000 }) only [go_sem, simprocAttr, ↓dnA, Tryz.f231, rows_length, nlf h, encA, w1, w2, w3, encFO, hde, hwr, hrd, List.length_map, rows, encE]
      · have hde : (runX ⟨2, fr, to, am⟩ f t).done = doneA ⟨2, fr, to, am⟩ f t := rfl
        have hwr : (runX ⟨2, fr, to, am⟩ f t).writes = if doneA ⟨2, fr, to, am⟩ f t then (writesA ⟨2, fr, to, am⟩).map (fun k => ⟨k, newV ⟨2, fr, to, am⟩ f t k⟩) else [] := rfl
        have hcall := c_spec_l4Put (some true) [⟨fr, f - am⟩] to (t + am) (by simp)
        by_cases he : fr = to
        · subst he
          have e1 : (fr == fr) = true := by simp
          have hdn : doneA ⟨2, fr, fr, am⟩ f t = decide (f ≥ am) := by simp [doneA]
          have hw0 : (writesA ⟨2, fr, fr, am⟩).map (fun k => (⟨k, newV ⟨2, fr, fr, am⟩ f t k⟩ : Entry)) = [⟨fr, f⟩] := by simp [writesA, newV]
          rw [hdn] at hde hwr
          rw [hw0] at hwr
          cases h1 : decide (f ≥ am) with
          | false =>
            rw [h1, if_neg (by simp)] at hwr
            rw [h1] at hde
            simp (config := { maxSteps := 4000000 }) only [go_sem, simprocAttr, ↓dnA, Tryz.f231, rows_length, nlf h, encA, w1, w2, w3, h1, e1]
            refine CallTo.det hcall fun _ => ?_
            simp (config := { maxSteps := 4000000 }) only [go_sem, simprocAttr, ↓dnA, Tryz.f231, rows_length, nlf h, encA, w1, w2, w3, h1, e1, encFO, hde, hwr, hrd, List.length_map, rows_nil]
          | true =>
            rw [h1, if_pos rfl] at hwr
            rw [h1] at hde
            simp (config := { maxSteps := 4000000 }) only [go_sem, simprocAttr, ↓dnA, Tryz.f231, rows_length, nlf h, encA, w1, w2, w3, h1, e1]
            refine CallTo.det hcall fun _ => ?_
            simp (config := { maxSteps := 4000000 }) only [go_sem, simprocAttr, ↓dnA, Tryz.f231, rows_length, nlf h, encA, w1, w2, w3, h1, e1, encFO, hde, hwr, hrd, List.length_map, rows, encE]
        · have e1 : (fr == to) = false := by simp [he]
          have hdn : doneA ⟨2, fr, to, am⟩ f t = (decide (f ≥ am) && decide (t + am ≤ 1000000)) := by simp [doneA, he]
          have hw0 : (writesA ⟨2, fr, to, am⟩).map (fun k => (⟨k, newV ⟨2, fr, to, am⟩ f t k⟩ : Entry)) = putD to (t + am) false [⟨fr, f - am⟩] := by
            rw [putD_two, if_neg he]
            simp [writesA, newV, he]
          rw [hdn] at hde hwr
          rw [hw0] at hwr
          cases h1 : decide (f ≥ am) with
          | false =>
            rw [h1, Bool.false_and, if_neg (by simp)] at hwr
            rw [h1, Bool.false_and] at hde
            simp (config := { maxSteps := 4000000 }) only [go_sem, simprocAttr, ↓dnA, Tryz.f231, rows_length, nlf h, encA, w1, w2, w3, h1, e1]
            refine CallTo.det hcall fun _ => ?_
            simp (config := { maxSteps := 4000000 }) only [go_sem, simprocAttr, ↓dnA, Tryz.f231, rows_length, nlf h, encA, w1, w2, w3, h1, e1, encFO, hde, hwr, hrd, List.length_map, rows_nil]
          | true =>
            rw [h1, Bool.true_and] at hwr hde
            cases h3 : decide (t + am ≤ 1000000) with
            | false =>
              rw [h3, if_neg (by simp)] at hwr
              rw [h3] at hde
              simp (config := { maxSteps := 4000000 }) only [go_sem, simprocAttr, ↓dnA, Tryz.f231, rows_length, nlf h, encA, w1, w2, w3, h1, e1, h3]
              refine CallTo.det hcall fun _ => ?_
              simp (config := { maxSteps := 4000000 }) only [go_sem, simprocAttr, ↓dnA, Tryz.f231, rows_length, nlf h, encA, w1, w2, w3, h1, e1, h3, encFO, hde, hwr, hrd, List.length_map, rows_nil]
            | true =>
              rw [h3, if_pos rfl] at hwr
              rw [h3] at hde
              simp (config := { maxSteps := 4000000 }) only [go_sem, simprocAttr, ↓dnA, Tryz.f231, rows_length, nlf h, encA, w1, w2, w3, h1, e1, h3]
              refine CallTo.det hcall fun _ => ?_
              simp (config := { maxSteps := 4000000 }) only [go_sem, simprocAttr, ↓dnA, Tryz.f231, rows_length, nlf h, encA, w1, w2, w3, h1, e1, h3, encFO, hde, hwr, hrd, List.length_map]
      · have hde : (runX ⟨3, fr, to, am⟩ f t).done = true := rfl
        have hwr : (runX ⟨3, fr, to, am⟩ f t).writes = [⟨to, f⟩] := rfl
        simp (config := { maxSteps := 4000000 }) only [go_sem, simprocAttr, ↓dnA, Tryz.f231, rows_length, nlf h, encA, w1, w2, w3, encFO, hde, hwr, hrd, List.length_map, rows, encE]
      · have hde : (runX ⟨4, fr, to, am⟩ f t).done = true := rfl
        have hwr : (runX ⟨4, fr, to, am⟩ f t).writes = putD to f false [⟨fr, t⟩] := by
          rw [putD_two]
          unfold runX doneA writesA newV
          by_cases he : fr = to
          · simp [he]
          · simp [he]
        simp (config := { maxSteps := 4000000 }) only [go_sem, simprocAttr, ↓dnA, Tryz.f231, rows_length, nlf h, encA, w1, w2, w3]
        refine CallTo.det (c_spec_l4Put _ [⟨fr, t⟩] to f (by simp)) fun _ => ?_
        simp (config := { maxSteps := 4000000 }) only [go_sem, simprocAttr, ↓dnA, Tryz.f231, rows_length, nlf h, encA, w1, w2, w3, encFO, hde, hwr, hrd, List.length_map]
      · have hde : (runX ⟨5, fr, to, am⟩ f t).done = decide (f + t ≤ 1000000) := rfl
        have hwr : (runX ⟨5, fr, to, am⟩ f t).writes = if decide (f + t ≤ 1000000) then [⟨to, f + t⟩] else [] := rfl
        cases hd : decide (f + t ≤ 1000000) with
        | true =>
          rw [hd, if_pos rfl] at hwr
          simp (config := { maxSteps := 4000000 }) only [go_sem, simprocAttr, ↓dnA, Tryz.f231, rows_length, nlf h, encA, w1, w2, w3, hd, encFO, hde, hwr, hrd, List.length_map, rows, encE]
        | false =>
          rw [hd, if_neg (by simp)] at hwr
          simp (config := { maxSteps := 4000000 }) only [go_sem, simprocAttr, ↓dnA, Tryz.f231, rows_length, nlf h, encA, w1, w2, w3, hd, encFO, hde, hwr, hrd, List.length_map, rows, encE]
      · have hde : (runX ⟨6, fr, to, am⟩ f t).done = true := rfl
        have hwr : (runX ⟨6, fr, to, am⟩ f t).writes = [⟨fr, max 0 (f - am)⟩] := rfl
        simp (config := { maxSteps := 4000000 }) only [go_sem, simprocAttr, ↓dnA, Tryz.f231, rows_length, nlf h, encA, w1, w2, w3, encFO, hde, hwr, hrd, List.length_map, rows, encE]
        rw [Int.max_def]; split <;> split <;> omega

end Go.Proofs.YtmibclbinebnjaaGreat

/- Stores as data: puts, values. -/
set_option linter.unusedSimpArgs false
set_option linter.unusedVariables false
set_option maxRecDepth 20000
set_option maxHeartbeats 4000000
namespace Go.Proofs.YtmibclbinebnjaaGreat
open Go Go.RowKit

theorem entOk_cons {lo last : Int} {e : Entry} {r : List Entry} : entOk lo last (e :: r) = true ↔ (last < e.key ∧ e.key ≤ 31) ∧ (lo ≤ e.value ∧ e.value ≤ 1000000) ∧ entOk lo e.key r = true := by
  simp only [entOk, Bool.and_eq_true, inB_iff]
  constructor
  · rintro ⟨⟨h1, h2⟩, h3⟩; exact ⟨⟨by omega, h1.2⟩, h2, h3⟩
  · rintro ⟨h1, h2, h3⟩; exact ⟨⟨⟨by omega, h1.2⟩, h2⟩, h3⟩

theorem entOk_mono {lo a b : Int} (h : a ≤ b) : ∀ {r : List Entry}, entOk lo b r = true → entOk lo a r = true
  | [], _ => rfl
  | e :: r, hr => by
    rw [entOk_cons] at hr ⊢
    exact ⟨⟨by omega, hr.1.2⟩, hr.2⟩

theorem valAt_lt {lo last : Int} : ∀ {s : List Entry}, entOk lo last s = true → ∀ k, k ≤ last → valAt s k = 0
  | [], _, k, _ => rfl
  | e :: r, h, k, hk => by
    rw [entOk_cons] at h
    unfold valAt
    rw [if_neg (by omega)]
    exact valAt_lt h.2.2 k (by omega)

/-- A valid store is what its values are. -/
theorem store_ext : ∀ {s s' : List Entry} {last : Int}, entOk 1 last s = true → entOk 1 last s' = true → (∀ k, last < k → k ≤ 31 → valAt s k = valAt s' k) → s = s'
  | [], [], _, _, _, _ => rfl
  | [], e :: r, last, _, h', hv => by
    rw [entOk_cons] at h'
    have := hv e.key h'.1.1 h'.1.2
    simp only [valAt, if_true] at this
    omega
  | e :: r, [], last, h, _, hv => by
    rw [entOk_cons] at h
    have := hv e.key h.1.1 h.1.2
    simp only [valAt, if_true] at this
    omega
  | e :: r, e' :: r', last, h, h', hv => by
    rw [entOk_cons] at h h'
    have h1 := hv e.key h.1.1 h.1.2
    have h2 := hv e'.key h'.1.1 h'.1.2
    have hk : e.key = e'.key := by
      rcases Int.lt_trichotomy e.key e'.key with hl | hl | hl
      · simp only [valAt, if_true] at h1
        rw [if_neg (by omega), valAt_lt h'.2.2 _ (by omega)] at h1
        omega
      · exact hl
      · simp only [valAt, if_true] at h2
        rw [if_neg (by omega), valAt_lt h.2.2 _ (by omega)] at h2
        omega
    simp only [valAt, if_true] at h1
    rw [if_pos hk.symm] at h1
    have he : e = e' := by
      obtain ⟨a, b⟩ := e
      obtain ⟨a', b'⟩ := e'
      simp only at hk h1
      rw [hk, h1]
    subst he
    rw [store_ext (last := e.key) h.2.2 h'.2.2 fun k hk1 hk2 => by
      have := hv k (by omega) hk2
      simp only [valAt] at this
      rwa [if_neg (by omega), if_neg (by omega)] at this]

/-- The entries of values that stand behind i. -/
def storeFrom : Nat → List Int → List Entry
  | _, [] => []
  | i, x :: r => if x > 0 then ⟨(i : Int), x⟩ :: storeFrom (i + 1) r else storeFrom (i + 1) r

theorem storeFrom_append : ∀ (a b : List Int) (i : Nat), storeFrom i (a ++ b) = storeFrom i a ++ storeFrom (i + a.length) b
  | [], b, i => rfl
  | x :: a, b, i => by
    simp only [List.cons_append, storeFrom, List.length_cons]
    rw [storeFrom_append a b (i + 1), show i + 1 + a.length = i + (a.length + 1) by omega]
    split <;> rfl

theorem storeUp_eq (v : List Int) : ∀ n, n ≤ v.length → storeUp v n = storeFrom 0 (v.take n)
  | 0, _ => rfl
  | n + 1, h => by
    have ih := storeUp_eq v n (by omega)
    have hg : v.getD n 0 = v[n] := by rw [List.getD_eq_getElem?_getD, List.getElem?_eq_getElem (by omega)]; rfl
    rw [take_snoc _ _ (by omega), storeFrom_append, ← ih]
    rw [List.length_take, show min n v.length = n by omega, Nat.zero_add]
    by_cases hp : v.getD n 0 > 0
    · rw [storeUp_pos _ _ hp, hg]
      rw [hg] at hp
      simp [storeFrom, hp]
    · rw [storeUp_neg _ _ hp]
      rw [hg] at hp
      simp [storeFrom, hp]

theorem storeL_eq {v : List Int} (h : v.length = 32) : storeL v = storeFrom 0 v := by
  unfold storeL
  rw [storeUp_eq v 32 (by omega), List.take_of_length_le (by omega)]

theorem storeFrom_ok : ∀ (v : List Int) (i : Nat), i + v.length ≤ 32 → (∀ x, x ∈ v → x ≤ 1000000) → entOk 1 ((i : Int) - 1) (storeFrom i v) = true
  | [], i, _, _ => rfl
  | x :: r, i, hl, hv => by
    have ih := storeFrom_ok r (i + 1) (by simp only [List.length_cons] at hl; omega) fun y hy => hv y (List.mem_cons_of_mem _ hy)
    have hx := hv x (List.mem_cons_self ..)
    rw [show (((i + 1 : Nat) : Int) - 1) = (i : Int) by omega] at ih
    unfold storeFrom
    simp only [List.length_cons] at hl
    split
    · rw [entOk_cons]
      exact ⟨⟨by dsimp only; omega, by dsimp only; omega⟩, ⟨by dsimp only; omega, hx⟩, ih⟩
    · exact entOk_mono (by omega) ih

theorem storeFrom_at : ∀ (v : List Int) (i : Nat) (j : Nat), (∀ x, x ∈ v → 0 ≤ x ∧ x ≤ 1000000) → i + v.length ≤ 32 → valAt (storeFrom i v) ((i + j : Nat) : Int) = v.getD j 0
  | [], i, j, _, _ => by simp [storeFrom, valAt]
  | x :: r, i, j, hv, hl => by
    have hx := hv x (List.mem_cons_self ..)
    simp only [List.length_cons] at hl
    have hv' : ∀ y, y ∈ r → 0 ≤ y ∧ y ≤ 1000000 := fun y hy => hv y (List.mem_cons_of_mem _ hy)
    have ok := storeFrom_ok r (i + 1) (by omega) fun y hy => (hv' y hy).2
    rw [show (((i + 1 : Nat) : Int) - 1) = (i : Int) by omega] at ok
    cases j with
    | zero =>
      unfold storeFrom
      split
      · simp [valAt]
      · rw [Nat.add_zero, valAt_lt ok _ (by omega)]
        simp; omega
    | succ j =>
      have ih := storeFrom_at r (i + 1) j hv' (by omega)
      rw [show i + 1 + j = i + (j + 1) by omega] at ih
      unfold storeFrom
      split
      · simp only [valAt]
        rw [if_neg (by omega), ih]; rfl
      · rw [ih]; rfl

theorem ValsOk.mem {v : List Int} (h : ValsOk v) : ∀ x, x ∈ v → 0 ≤ x ∧ x ≤ 1000000 := by
  intro x hx
  obtain ⟨i, hi, rfl⟩ := List.getElem_of_mem hx
  have := h.2 i
  rwa [List.getD_eq_getElem?_getD, List.getElem?_eq_getElem hi] at this

theorem storeL_valid {v : List Int} (h : ValsOk v) : storeValid (storeL v) = true := by
  rw [storeL_eq h.1]
  exact storeFrom_ok v 0 (by rw [h.1]; decide) fun x hx => (h.mem x hx).2

theorem storeL_at {v : List Int} (h : ValsOk v) (k : Int) (h0 : 0 ≤ k) : valAt (storeL v) k = valK v k := by
  rw [storeL_eq h.1]
  have := storeFrom_at v 0 k.toNat h.mem (by rw [h.1]; decide)
  rw [Nat.zero_add, Int.toNat_of_nonneg h0] at this
  exact this

theorem storeL_values {s : List Entry} (h : storeValid s = true) : storeL (valuesL s) = s := by
  have hv := valuesL_ok h
  refine store_ext (last := -1) (storeL_valid hv) h fun k h0 h1 => ?_
  rw [storeL_at hv k (by omega)]
  have := (valuesL_get h k.toNat (by omega)).2
  rw [Int.toNat_of_nonneg (by omega)] at this
  exact this

/-- Puts, one entry behind the other. -/
def putR (k x : Int) : Bool → List Entry → List Entry
  | d, [] => if d then [] else [⟨k, x⟩]
  | d, e :: r => (if !d && decide (e.key ≥ k) then [⟨k, x⟩] else []) ++ ((if (e.key != k) = true then [e] else []) ++ putR k x (d || decide (e.key ≥ k)) r)

theorem putF_eq (k x : Int) : ∀ (s : List Entry) (acc : List Entry) (d : Bool), (if (s.foldl (putS k x) (acc, d)).2 then (s.foldl (putS k x) (acc, d)).1 else (s.foldl (putS k x) (acc, d)).1 ++ [⟨k, x⟩]) = acc ++ putR k x d s
  | [], acc, d => by cases d <;> simp [putR]
  | e :: r, acc, d => by
    rw [List.foldl_cons]
    have hst : putS k x (acc, d) e = (acc ++ ((if !d && decide (e.key ≥ k) then [⟨k, x⟩] else []) ++ (if (e.key != k) = true then [e] else [])), d || decide (e.key ≥ k)) := by
      unfold putS
      cases d <;> cases decide (e.key ≥ k) <;> cases (e.key != k) <;> simp
    rw [hst, putF_eq k x r]
    simp only [putR, List.append_assoc]

theorem putD_eq (k x : Int) (d : Bool) (s : List Entry) : putD k x d s = putR k x d s := by
  have := putF_eq k x s [] d
  rwa [List.nil_append] at this

theorem putR_true (k x : Int) : ∀ (s : List Entry), putR k x true s = s.filter fun e => e.key != k
  | [] => rfl
  | e :: r => by
    unfold putR
    rw [Bool.true_or, putR_true k x r]
    cases h : (e.key != k) <;> simp [h]

theorem filter_ok (k : Int) {lo : Int} : ∀ {s : List Entry} {last : Int}, entOk lo last s = true → entOk lo last (s.filter fun e => e.key != k) = true
  | [], _, _ => rfl
  | e :: r, last, h => by
    rw [entOk_cons] at h
    have ih := filter_ok k h.2.2
    rw [List.filter_cons]
    split
    · rw [entOk_cons]; exact ⟨h.1, h.2.1, ih⟩
    · exact entOk_mono (by omega) ih

theorem filter_at (k j : Int) : ∀ (s : List Entry), valAt (s.filter fun e => e.key != k) j = if j = k then 0 else valAt s j
  | [] => by simp [valAt]
  | e :: r => by
    have ih := filter_at k j r
    rw [List.filter_cons]
    by_cases he : e.key = k
    · rw [if_neg (by simp [he]), ih]
      by_cases hj : j = k
      · rw [if_pos hj, if_pos hj]
      · rw [if_neg hj, if_neg hj]; simp only [valAt]; rw [if_neg (by omega)]
    · rw [if_pos (by simp [he])]
      simp only [valAt]
      rw [ih]
      by_cases hj : j = k
      · rw [if_neg (by omega), if_pos hj, if_pos hj]
      · rw [if_neg hj, if_neg hj]

theorem filter_id (k : Int) {lo : Int} : ∀ {s : List Entry} {last : Int}, k ≤ last → entOk lo last s = true → (s.filter fun e => e.key != k) = s
  | [], _, _, _ => rfl
  | e :: r, last, hk, h => by
    rw [entOk_cons] at h
    rw [List.filter_cons, if_pos (by simp; omega), filter_id k (last := e.key) (by omega) h.2.2]

theorem putR_ok {k x : Int} (hk : k ≤ 31) (hx : 1 ≤ x ∧ x ≤ 1000000) : ∀ {s : List Entry} {last : Int}, last < k → entOk 1 last s = true →
    entOk 1 last (putR k x false s) = true ∧ ∀ j, valAt (putR k x false s) j = if j = k then x else valAt s j
  | [], last, hl, _ => by
    constructor
    · show entOk 1 last [⟨k, x⟩] = true
      rw [entOk_cons]; exact ⟨⟨hl, hk⟩, hx, rfl⟩
    · intro j
      show (if k = j then x else 0) = _
      by_cases h : j = k
      · rw [if_pos h.symm, if_pos h]
      · rw [if_neg (by omega), if_neg h]; rfl
  | e :: r, last, hl, h => by
    rw [entOk_cons] at h
    unfold putR
    by_cases hg : e.key ≥ k
    · simp only [hg, decide_true, Bool.not_false, Bool.true_and, if_true, Bool.or_true]
      rw [putR_true, filter_id k (last := e.key) (by omega) h.2.2]
      by_cases he : e.key = k
      · rw [if_neg (by simp [he])]
        constructor
        · show entOk 1 last (⟨k, x⟩ :: r) = true
          rw [entOk_cons]; exact ⟨⟨hl, hk⟩, hx, he ▸ h.2.2⟩
        · intro j
          show (if k = j then x else valAt r j) = if j = k then x else (if e.key = j then e.value else valAt r j)
          by_cases hj : j = k
          · rw [if_pos hj.symm, if_pos hj]
          · rw [if_neg (by omega), if_neg hj, if_neg (by omega)]
      · rw [if_pos (by simp [he])]
        constructor
        · show entOk 1 last (⟨k, x⟩ :: e :: r) = true
          rw [entOk_cons, entOk_cons]; exact ⟨⟨hl, hk⟩, hx, ⟨by dsimp only; omega, h.1.2⟩, h.2.1, h.2.2⟩
        · intro j
          show (if k = j then x else (if e.key = j then e.value else valAt r j)) = if j = k then x else (if e.key = j then e.value else valAt r j)
          by_cases hj : j = k
          · rw [if_pos hj.symm, if_pos hj]
          · rw [if_neg (by omega), if_neg hj]
    · simp only [hg, decide_false, Bool.not_false, Bool.and_false, Bool.false_eq_true, if_false, Bool.or_false]
      rw [if_pos (by simp; omega)]
      obtain ⟨i1, i2⟩ := putR_ok hk hx (last := e.key) (by omega) h.2.2
      constructor
      · show entOk 1 last (e :: putR k x false r) = true
        rw [entOk_cons]; exact ⟨h.1, h.2.1, i1⟩
      · intro j
        show (if e.key = j then e.value else valAt (putR k x false r) j) = if j = k then x else (if e.key = j then e.value else valAt r j)
        rw [i2 j]
        by_cases hj : j = k
        · rw [if_pos hj, if_neg (by omega), if_pos hj]
        · rw [if_neg hj, if_neg hj]

theorem putD_ok {k x : Int} (hk : 0 ≤ k ∧ k ≤ 31) (hx : 0 ≤ x ∧ x ≤ 1000000) {s : List Entry} (h : storeValid s = true) : storeValid (putD k x (x == 0) s) = true ∧ ∀ j, valAt (putD k x (x == 0) s) j = if j = k then x else valAt s j := by
  rw [putD_eq]
  by_cases h0 : x = 0
  · subst h0
    rw [show ((0 : Int) == 0) = true from rfl, putR_true]
    exact ⟨filter_ok k h, fun j => filter_at k j s⟩
  · rw [show (x == 0) = false by simp [h0]]
    exact putR_ok hk.2 (by omega) (last := -1) (by omega) h

theorem put_storeL {v : List Int} (hv : ValsOk v) {w : Entry} (hk : 0 ≤ w.key ∧ w.key ≤ 31) (hx : 0 ≤ w.value ∧ w.value ≤ 1000000) : putD w.key w.value (w.value == 0) (storeL v) = storeL (putV v w) := by
  have hv2 : ValsOk (putV v w) := applyW_ok [w] v hv fun y hy => by rw [List.mem_singleton.1 hy]; exact ⟨hk, hx⟩
  obtain ⟨h1, h2⟩ := putD_ok hk hx (storeL_valid hv)
  refine store_ext (last := -1) h1 (storeL_valid hv2) fun j h3 h4 => ?_
  rw [h2 j, storeL_at hv j (by omega), storeL_at hv2 j (by omega)]
  unfold valK putV
  rw [List.getD_eq_getElem?_getD (l := v.set _ _), List.getElem?_set]
  by_cases hj : j = w.key
  · subst hj
    rw [if_pos rfl, if_pos rfl, if_pos (by rw [hv.1]; omega)]; rfl
  · rw [if_neg hj, if_neg (by omega), ← List.getD_eq_getElem?_getD]

/-- A store with entries put. -/
def applyS (s : List Entry) (ws : List Entry) : List Entry := ws.foldl (fun s w => putD w.key w.value (w.value == 0) s) s

theorem applyS_storeL : ∀ (ws : List Entry) {v : List Int}, ValsOk v → WritesOk ws → applyS (storeL v) ws = storeL (applyW v ws)
  | [], v, _, _ => rfl
  | w :: ws, v, hv, hw => by
    have h1 := hw w (List.mem_cons_self ..)
    show applyS (putD w.key w.value (w.value == 0) (storeL v)) ws = _
    rw [put_storeL hv h1.1 h1.2]
    exact applyS_storeL ws (applyW_ok [w] v hv fun y hy => by rw [List.mem_singleton.1 hy]; exact h1) fun y hy => hw y (List.mem_cons_of_mem _ hy)

end Go.Proofs.YtmibclbinebnjaaGreat

/- Contracts: the reference's serial runs. -/
set_option linter.unusedSimpArgs false
set_option linter.unusedVariables false
set_option maxRecDepth 20000
set_option maxHeartbeats 4000000
namespace Go.Proofs.YtmibclbinebnjaaGreat
open Go Go.RowKit

theorem storeAt_bd {s : List Entry} (h : storeValid s = true) (k : Int) : 0 ≤ valAt s k ∧ valAt s k ≤ 1000000 := by
  obtain ⟨h1, _⟩ := entOk_spec 1 s (-1) h
  exact valAt_bd (fun e he => by have := h1 e he; omega) k

/-- An action on a store. -/
def runAction (s : List Entry) (a : Action) : Effect := if storeValid s && actionValid a then runX a (valAt s a.fr) (valAt s a.to) else ⟨false, [], []⟩

theorem c_spec_RunAction (n1 : Option Bool) (s : List Entry) (a : Action) (hs : s.length < 2 ^ 32) : Det Tryz.prog 218 [.sl n1 (rows encE s), .agg (encA a)] (.agg (encFO (runAction s a))) := by
  refine fspec_det tab_ok Tryz.call218 Tryz.func218 rfl 24 Tryz.ntmps218 (of_decide_eq_true rfl) fun B => codeK_sound tab_ok _ _ _ ?_
  unfold runAction
  simp (config := { maxSteps := 4000000 }) only [go_sem, simprocAttr, ↓dnA, Tryz.f218, rows_length, encA]
  refine CallTo.det (c_spec_StoreValid n1 s (by omega)) fun _ => ?_
  cases h1 : storeValid s with
  | false => simp (config := { maxSteps := 4000000 }) only [go_sem, simprocAttr, ↓dnA, Tryz.f218, rows_length, encA, h1, encFO, rows_nil]
  | true =>
    simp (config := { maxSteps := 4000000 }) only [go_sem, simprocAttr, ↓dnA, Tryz.f218, rows_length, encA, h1]
    refine CallTo.det (c_spec_ActionValid a) fun _ => ?_
    cases h2 : actionValid a with
    | false => simp (config := { maxSteps := 4000000 }) only [go_sem, simprocAttr, ↓dnA, Tryz.f218, rows_length, encA, h1, h2, encFO, rows_nil]
    | true =>
      simp (config := { maxSteps := 4000000 }) only [go_sem, simprocAttr, ↓dnA, Tryz.f218, rows_length, encA, h1, h2]
      refine semL_draw tab_ok mixed_ rfl (ord := [(0, []), (1, []), (2, []), (3, []), (5, []), (6, []), (7, []), (4, [0, 5, 6, 7]), (8, [0]), (9, []), (10, [])]) (by dsimp only; decide +kernel) ?_
      simp (config := { maxSteps := 4000000 }) only [go_sem, simprocAttr, ↓dnA, Tryz.f218, rows_length, encA, h1, h2]
      refine CallTo.det (c_spec_l2At n1 s _ (by omega)) fun _ => ?_
      simp (config := { maxSteps := 4000000 }) only [go_sem, simprocAttr, ↓dnA, Tryz.f218, rows_length, encA, h1, h2]
      refine CallTo.det (c_spec_l2At n1 s _ (by omega)) fun _ => ?_
      simp (config := { maxSteps := 4000000 }) only [go_sem, simprocAttr, ↓dnA, Tryz.f218, rows_length, encA, h1, h2]
      refine CallTo.det (c_spec_l6Run a _ _ h2 (storeAt_bd h1 _) (storeAt_bd h1 _)) fun _ => ?_
      simp (config := { maxSteps := 4000000 }) only [go_sem, simprocAttr, ↓dnA, Tryz.f218, rows_length, encA, h1, h2, encFO]

/-- A store with an effect's entries put. -/
def applyEffect (s : List Entry) (ws : List Entry) : List Entry := if storeValid s && entOk 0 (-1) ws then applyS s ws else []

theorem applyS_take (s ws : List Entry) (i : Nat) (h : i < ws.length) : applyS s (ws.take (i + 1)) = putD ws[i].key ws[i].value (ws[i].value == 0) (applyS s (ws.take i)) := by
  unfold applyS
  rw [take_snoc _ _ h, List.foldl_append]
  rfl

theorem entOk_len {lo : Int} : ∀ {s : List Entry} {last : Int}, -1 ≤ last → entOk lo last s = true → s = [] ∨ (s.length : Int) ≤ 31 - last
  | [], _, _, _ => .inl rfl
  | e :: r, last, hl, h => by
    rw [entOk_cons] at h
    rcases entOk_len (by omega) h.2.2 with e1 | e1
    · subst e1; right; simp only [List.length_cons, List.length_nil]; omega
    · right; rw [List.length_cons]; omega
theorem store_len {s : List Entry} (h : storeValid s = true) : s.length ≤ 32 := by
  rcases entOk_len (by omega) h with e | e
  · subst e; simp
  · omega

theorem applyS_valid : ∀ (ws : List Entry) {s : List Entry}, storeValid s = true → WritesOk ws → storeValid (applyS s ws) = true
  | [], s, h, _ => h
  | w :: ws, s, h, hw => by
    have h1 := hw w (List.mem_cons_self ..)
    exact applyS_valid ws (putD_ok h1.1 h1.2 h).1 fun y hy => hw y (List.mem_cons_of_mem _ hy)

theorem c_spec_ApplyEffect (n1 n2 n3 : Option Bool) (s : List Entry) (e : Effect) (hs : s.length ≤ 32) (hw : e.writes.length ≤ 2 ^ 20) : Det Tryz.prog 219 [.sl n1 (rows encE s), .agg (encF n2 n3 e)] (.osl true 2 (rows encE (applyEffect s e.writes))) := by
  refine fspec_det tab_ok Tryz.call219 Tryz.func219 rfl 42 Tryz.ntmps219 (of_decide_eq_true rfl) fun B => codeK_sound tab_ok _ _ _ ?_
  unfold applyEffect
  simp (config := { maxSteps := 4000000 }) only [go_sem, simprocAttr, ↓dnA, Tryz.f219, rows_length, encF]
  refine CallTo.det (c_spec_StoreValid n1 s (by omega)) fun _ => ?_
  cases h1 : storeValid s with
  | false => simp (config := { maxSteps := 4000000 }) only [go_sem, simprocAttr, ↓dnA, Tryz.f219, rows_length, encF, h1, rows_nil]
  | true =>
    simp (config := { maxSteps := 4000000 }) only [go_sem, simprocAttr, ↓dnA, Tryz.f219, rows_length, encF, h1]
    refine CallTo.det (c_spec_l4Writes n3 e.writes (by omega)) fun _ => ?_
    cases h2 : entOk 0 (-1) e.writes with
    | false => simp (config := { maxSteps := 4000000 }) only [go_sem, simprocAttr, ↓dnA, Tryz.f219, rows_length, encF, h1, h2, rows_nil]
    | true =>
      have ha := all_rows encE AV.flat (fun _ => rfl) s
      have hb := all_rows encE AV.one (fun _ => rfl) s
      have hc := sz0_rows encE 2 (fun _ => rfl) s
      simp (config := { maxSteps := 4000000 }) only [go_sem, simprocAttr, ↓dnA, Tryz.f219, rows_length, encF, h1, h2]
      repeat refine And.intro (by first | omega | (simp; done) | (simp; omega) | assumption) ?_
      have hW : WritesOk e.writes := fun w hw => by have := (entOk_spec 0 e.writes (-1) h2).1 w hw; omega
      refine semL_for tab_ok (fun i : Nat => ⟨42, [(3, .loc 3 0), (5, .row 600 (applyS s (e.writes.take i)).length), (6, .int .i64 i)],
          [(3, .var [.bool e.done, .sl n2 (rows encE e.reads), .sl n3 (rows encE e.writes)]), (600, .row true true 2 (rows encE (applyS s (e.writes.take i))))]⟩) (fun i => e.writes.length - i)
        (fun i => i ≤ e.writes.length) 0 [(3, 3), (19, 600)] (Weak.of (by rfl) ?_ ?_ (by rfl)) (by omega) ?_
      · simp (config := { maxSteps := 4000000 }) only [go_sem, simprocAttr, ↓dnA, Tryz.f219, rows_length, encF, frW, wk2, wk1, wkL, wkB, hpW, List.mem_cons, Prod.mk.injEq, exists_eq_left, exists_eq_right, exists_eq]
        rfl
      · simp (config := { maxSteps := 4000000 }) only [go_sem, simprocAttr, ↓dnA, Tryz.f219, rows_length, encF, frW, wk2, wk1, wkL, wkB, hpW, List.mem_cons, Prod.mk.injEq, exists_eq_left, exists_eq_right, exists_eq]
        rfl
      · rintro i hi
        by_cases h : i < e.writes.length
        · have hv := applyS_valid (e.writes.take i) h1 fun w hw => hW w (List.mem_of_mem_take hw)
          have hl := store_len hv
          have hst := applyS_take s e.writes i h
          have hw : IntKind.i64.wrap ((i : Int) + 1) = ((i + 1 : Nat) : Int) := wsucc h (by omega)
          generalize applyS s (e.writes.take i) = u at hl hst
          have htk : (rows encE u).take u.length = rows encE u := by rw [List.take_of_length_le]; rw [rows_length]; omega
          simp (config := { maxSteps := 4000000 }) only [go_sem, simprocAttr, ↓dnA, Tryz.f219, rows_length, nlt h, h, rows_get _ _ _ h, encE, nn0]
          refine semL_drawL tab_ok 14 mixed_ rfl (ord := [(0, []), (1, []), (2, []), (3, []), (4, []), (5, []), (6, []), (7, []), (8, []), (9, []), (10, []), (11, []), (12, []), (13, [])]) (by dsimp only; decide +kernel) ?_
          simp (config := { maxSteps := 4000000 }) only [go_sem, simprocAttr, ↓dnA, Tryz.f219, rows_length, nlt h, h, rows_get _ _ _ h, encE, nn0, htk, hw]
          repeat refine And.intro (by first | omega | (simp; done) | (simp; omega) | assumption) ?_
          refine CallTo.det (c_spec_l2Put _ u _ _ (by omega)) fun _ => ?_
          simp (config := { maxSteps := 4000000 }) only [go_sem, simprocAttr, ↓dnA, Tryz.f219, rows_length, nlt h, h, rows_get _ _ _ h, encE, nn0, htk, hw]
          refine ⟨i + 1, [(3, 3), (41000, 600)], by omega, by dsimp only; omega, Weak.of (by rfl) ?_ ?_ (by rfl)⟩
          · simp (config := { maxSteps := 4000000 }) only [go_sem, simprocAttr, ↓dnA, Tryz.f219, rows_length, hst, frW, wk2, wk1, wkL, wkB, hpW, List.mem_cons, Prod.mk.injEq, exists_eq_left, exists_eq_right, exists_eq]
          · simp (config := { maxSteps := 4000000 }) only [go_sem, simprocAttr, ↓dnA, Tryz.f219, rows_length, hst, frW, wk2, wk1, wkL, wkB, hpW, List.mem_cons, Prod.mk.injEq, exists_eq_left, exists_eq_right, exists_eq]
        · have hi' : i = e.writes.length := by omega
          subst hi'
          simp (config := { maxSteps := 4000000 }) only [go_sem, simprocAttr, ↓dnA, Tryz.f219, rows_length, nlf h, List.take_length]

theorem writesOk_ent {ws : List Entry} (h : entOk 0 (-1) ws = true) : WritesOk ws := fun w hw => by have := (entOk_spec 0 ws (-1) h).1 w hw; omega

theorem runE_ent {a : Action} {v : List Int} (ha : ActOk a) (hv : ValsOk v) : entOk 0 (-1) (runE a v).writes = true := by
  have hW := runE_writesOk ha hv
  have hs : ∀ k x : Int, (⟨k, x⟩ : Entry) ∈ (runE a v).writes → (-1 < k ∧ k ≤ 31) ∧ 0 ≤ x ∧ x ≤ 1000000 := fun k x h => by have := hW _ h; dsimp only at this; omega
  have hfr := ha.fr
  have hto := ha.to
  unfold runE at hs ⊢
  dsimp only at hs ⊢
  split
  · rename_i hd
    rw [if_pos hd] at hs
    unfold writesA at hs ⊢
    split
    · rename_i hk
      rw [if_pos hk] at hs
      rw [List.map_cons, List.map_nil] at hs ⊢
      rw [entOk_cons]
      have := hs _ _ (List.mem_cons_self ..)
      exact ⟨this.1, this.2, rfl⟩
    · rename_i hk
      rw [if_neg hk] at hs
      split
      · rename_i hk2
        rw [if_pos hk2] at hs
        rw [List.map_cons, List.map_nil] at hs ⊢
        rw [entOk_cons]
        have := hs _ _ (List.mem_cons_self ..)
        exact ⟨this.1, this.2, rfl⟩
      · rename_i hk2
        rw [if_neg hk2] at hs
        rw [List.map_cons, List.map_cons, List.map_nil] at hs ⊢
        rw [entOk_cons, entOk_cons]
        have h1 := hs _ _ (List.mem_cons_self ..)
        have h2 := hs _ _ (List.mem_cons_of_mem _ (List.mem_cons_self ..))
        exact ⟨h1.1, h1.2, ⟨by dsimp only; omega, h2.1.2⟩, h2.2, rfl⟩
  · rfl

theorem runAction_eq {a : Action} {u : List Int} (ha : actionValid a = true) (hu : ValsOk u) : runAction (storeL u) a = runE a u := by
  have hA := actOk_of ha
  have hfr := hA.fr
  have hto := hA.to
  unfold runAction
  rw [storeL_valid hu, ha, Bool.true_and, if_pos rfl, runE_eq, storeL_at hu _ hfr.1, storeL_at hu _ hto.1]

theorem applyEffect_eq {a : Action} {u : List Int} (ha : actionValid a = true) (hu : ValsOk u) : applyEffect (storeL u) (runE a u).writes = storeL (applyW u (runE a u).writes) := by
  unfold applyEffect
  rw [storeL_valid hu, runE_ent (actOk_of ha) hu, Bool.true_and, if_pos rfl]
  exact applyS_storeL _ hu (runE_writesOk (actOk_of ha) hu)

theorem runE_wlen (a : Action) (v : List Int) : (runE a v).writes.length ≤ 2 := by
  unfold runE
  dsimp only
  split
  · rw [List.length_map]; exact writesA_len _
  · simp

theorem c_spec_RunSerial (n1 n2 : Option Bool) (s : List Entry) (l : List Action) (hs : s.length < 2 ^ 32) (hl : l.length < 2 ^ 32) :
    Det Tryz.prog 197 [.sl n1 (rows encE s), .sl n2 (rows encA l)] (.tup [.osl true 2 (rows encE (runSerial s l).1), .osl true 3 (rows encF1 (runSerial s l).2)]) := by
  refine fspec_det tab_ok Tryz.call197 Tryz.func197 rfl 45 Tryz.ntmps197 (of_decide_eq_true rfl) fun B => codeK_sound tab_ok _ _ _ ?_
  unfold runSerial
  simp (config := { maxSteps := 4000000 }) only [go_sem, simprocAttr, ↓dnA, Tryz.f197, rows_length]
  refine CallTo.det (c_spec_StoreValid n1 s (by omega)) fun _ => ?_
  cases h1 : storeValid s with
  | false => simp (config := { maxSteps := 4000000 }) only [go_sem, simprocAttr, ↓dnA, Tryz.f197, rows_length, h1, rows_nil]
  | true =>
    simp (config := { maxSteps := 4000000 }) only [go_sem, simprocAttr, ↓dnA, Tryz.f197, rows_length, h1]
    refine CallTo.det (c_spec_ActionsValid n2 l (by omega)) fun _ => ?_
    cases h2 : actionsValid l with
    | false => simp (config := { maxSteps := 4000000 }) only [go_sem, simprocAttr, ↓dnA, Tryz.f197, rows_length, h1, h2, rows_nil]
    | true =>
      obtain ⟨ha, h10⟩ := actionsValid_ok h2
      have hav : ∀ a, a ∈ l → actionValid a = true := by
        unfold actionsValid at h2
        rw [Bool.and_eq_true] at h2
        exact fun a h => List.all_eq_true.1 h2.2 a h
      have hV := valuesL_ok h1
      have hsv := storeL_values h1
      have hsl := store_len h1
      have b1 := all_rows encE AV.flat (fun _ => rfl) s
      have b2 := all_rows encE AV.one (fun _ => rfl) s
      have b3 := sz0_rows encE 2 (fun _ => rfl) s
      simp (config := { maxSteps := 4000000 }) only [go_sem, simprocAttr, ↓dnA, Tryz.f197, rows_length, h1, h2]
      repeat refine And.intro (by first | omega | (simp; done) | (simp; omega) | assumption) ?_
      refine semL_for tab_ok (fun i : Nat => ⟨45, [(0, .sl n1 (rows encE s)), (1, .sl n2 (rows encA l)), (6, .row 601 i), (7, .row 600 (storeL (runAllE (valuesL s) (l.take i)).1).length), (8, .int .i64 i)],
          [(600, .row true true 2 (rows encE (storeL (runAllE (valuesL s) (l.take i)).1))), (601, .row true true 3 (rows encF1 (runAllE (valuesL s) (l.take i)).2))]⟩) (fun i => l.length - i)
        (fun i => i ≤ l.length) 0 [(23, 600), (10, 601)] (Weak.of (by rfl) ?_ ?_ (by rfl)) (by omega) ?_
      · simp (config := { maxSteps := 4000000 }) only [go_sem, simprocAttr, ↓dnA, Tryz.f197, rows_length, frW, wk2, wk1, wkL, wkB, hpW, List.mem_cons, Prod.mk.injEq, exists_eq_left, exists_eq_right, exists_eq]
        exact ⟨congrArg (rows encE) hsv, rfl⟩
      · simp (config := { maxSteps := 4000000 }) only [go_sem, simprocAttr, ↓dnA, Tryz.f197, rows_length, frW, wk2, wk1, wkL, wkB, hpW, List.mem_cons, Prod.mk.injEq, exists_eq_left, exists_eq_right, exists_eq]
        exact congrArg (fun x : List Entry => AV.row 23 x.length) hsv.symm
      · rintro i hi
        obtain ⟨hU, hL⟩ := runAllE_ok ha hV i hi
        by_cases h : i < l.length
        · have hst := runAllE_take (valuesL s) l i h
          generalize hp : runAllE (valuesL s) (l.take i) = p at hU hL hst
          obtain ⟨u, es⟩ := p
          dsimp only at hU hL
          have hai := hav _ (List.getElem_mem h)
          have hul := store_len (storeL_valid hU)
          have htk : (rows encE (storeL u)).take (storeL u).length = rows encE (storeL u) := by rw [List.take_of_length_le]; rw [rows_length]; omega
          have hte : (rows encF1 es).take i = rows encF1 es := by rw [List.take_of_length_le]; rw [rows_length, hL]; omega
          have hw : IntKind.i64.wrap ((i : Int) + 1) = ((i + 1 : Nat) : Int) := wsucc h (by omega)
          have hW := runE_wlen l[i] u
          simp (config := { maxSteps := 4000000 }) only [go_sem, simprocAttr, ↓dnA, Tryz.f197, rows_length, nlt h, h, hp, rows_get _ _ _ h, encA, nn0, htk]
          repeat refine And.intro (by first | omega | (simp; done) | (simp; omega) | assumption) ?_
          refine CallTo.det (c_spec_RunAction _ (storeL u) l[i] (by omega)) fun _ => ?_
          rw [runAction_eq hai hU]
          have he := applyEffect_eq hai hU
          have hee : encF1 (runE l[i] u) = [.bool (runE l[i] u).done, .sl none (rows encE (runE l[i] u).reads), .sl none (rows encE (runE l[i] u).writes)] := rfl
          have hs2 : runAllE (valuesL s) (l.take (i + 1)) = (applyW u (runE l[i] u).writes, es ++ [runE l[i] u]) := by rw [hst]; rfl
          generalize runE l[i] u = r at hs2 hW he hee
          simp (config := { maxSteps := 4000000 }) only [go_sem, simprocAttr, ↓dnA, Tryz.f197, rows_length, nlt h, h, hp, rows_get _ _ _ h, encA, encFO, nn0, htk]
          refine CallTo.det (c_spec_ApplyEffect _ none none (storeL u) r hul (by omega)) fun _ => ?_
          rw [he]
          simp (config := { maxSteps := 4000000 }) only [go_sem, simprocAttr, ↓dnA, Tryz.f197, rows_length, nlt h, h, hp, rows_get _ _ _ h, encA, encFO, nn0, htk, hte, hL, hw]
          repeat refine And.intro (by first | omega | (simp; done) | (simp; omega) | assumption) ?_
          refine ⟨i + 1, [(39000, 600), (42, 601)], by omega, by dsimp only; omega, Weak.of (by rfl) ?_ ?_ (by rfl)⟩
          · simp (config := { maxSteps := 4000000 }) only [go_sem, simprocAttr, ↓dnA, Tryz.f197, rows_length, hs2, ← rows_snoc, hee, frW, wk2, wk1, wkL, wkB, hpW, List.mem_cons, Prod.mk.injEq, exists_eq_left, exists_eq_right, exists_eq]
          · simp (config := { maxSteps := 4000000 }) only [go_sem, simprocAttr, ↓dnA, Tryz.f197, rows_length, hs2, frW, wk2, wk1, wkL, wkB, hpW, List.mem_cons, Prod.mk.injEq, exists_eq_left, exists_eq_right, exists_eq]
        · have hi' : i = l.length := by omega
          subst hi'
          rw [List.take_length] at hL
          simp (config := { maxSteps := 4000000 }) only [go_sem, simprocAttr, ↓dnA, Tryz.f197, rows_length, nlf h, List.take_length]
          exact hL.symm

end Go.Proofs.YtmibclbinebnjaaGreat

/- Contracts: copies of blocks and trees. -/
set_option linter.unusedSimpArgs false
set_option linter.unusedVariables false
set_option maxRecDepth 20000
set_option maxHeartbeats 4000000
namespace Go.Proofs.YtmibclbinebnjaaGreat
open Go Go.RowKit

def encBkF (b : Block) : List AV := [.int .i64 b.before, .int .i64 b.height, .int .i64 b.view, .osl false 4 (rows encA b.list), .int .i64 b.root, .int .i64 b.effects]

def encTF (t : Tree) : List AV := [.osl false 2 (rows encE t.base), .osl false 6 (rows encB1 t.blocks), .osl false 1 (rows encI t.before)]

theorem c_impl_Block_clone (n : Option Bool) (b : Block) (hl : b.list.length < 2 ^ 32) : Det Tryz.prog 191 [.agg (encBk n b)] (.agg (encBkF b)) := by
  refine fspec_det tab_ok Tryz.call191 Tryz.func191 rfl 8 Tryz.ntmps191 (of_decide_eq_true rfl) fun B => codeK_sound tab_ok _ _ _ ?_
  have a1 := all_rows encA AV.flat (fun _ => rfl) b.list
  have a2 := all_rows encA AV.one (fun _ => rfl) b.list
  have a3 := sz0_rows encA 4 (fun _ => rfl) b.list
  simp (config := { maxSteps := 4000000 }) only [go_sem, simprocAttr, ↓dnA, Tryz.f191, rows_length, encBk, encBkF]
  repeat refine And.intro (by first | omega | (simp; done) | (simp; omega) | assumption) ?_
  omega

theorem c_impl_Tree_clone (n1 n2 n3 : Option Bool) (t : Tree) (hx : TreeS32 t) : Det Tryz.prog 131 [.agg (encT n1 n2 n3 t)] (.agg (encTF t)) := by
  refine fspec_det tab_ok Tryz.call131 Tryz.func131 rfl 29 Tryz.ntmps131 (of_decide_eq_true rfl) fun B => codeK_sound tab_ok _ _ _ ?_
  have q1 := hx.base
  have q2 := hx.blocks
  have q3 := hx.before
  have a1 := all_rows encI AV.flat (fun _ => rfl) t.before
  have a2 := all_rows encI AV.one (fun _ => rfl) t.before
  have a3 := sz0_rows encI 1 (fun _ => rfl) t.before
  simp (config := { maxSteps := 4000000 }) only [go_sem, simprocAttr, ↓dnA, Tryz.f131, rows_length, encT]
  refine semL_draw tab_ok mixed_ rfl (ord := [(0, []), (1, []), (3, []), (4, []), (2, [3, 4]), (5, []), (6, []), (7, [0, 1, 3, 4, 6]), (8, [])]) (by dsimp only; decide +kernel) ?_
  simp (config := { maxSteps := 4000000 }) only [go_sem, simprocAttr, ↓dnA, Tryz.f131, rows_length, encT]
  refine CallTo.det (c_impl_cloneEntries n1 t.base q1) fun _ => ?_
  simp (config := { maxSteps := 4000000 }) only [go_sem, simprocAttr, ↓dnA, Tryz.f131, rows_length, encT]
  repeat refine And.intro (by first | omega | (simp; done) | (simp; omega) | assumption) ?_
  refine semL_nilVA 3 1 600 6 true (by rfl) (by simp) (by rfl) (by rfl) (by decide) (by decide) ?_
  refine semL_for tab_ok (fun i : Nat => ⟨29, [(2, .loc 2 0), (3, .loc 3 0), (14, .sl n2 (rows encB1 t.blocks)), (15, .int .i64 t.blocks.length), (16, .int .i64 i)],
      [(2, .var [.sl (some false) [], .sl (some false) [], .sl (some false) []]), (3, .var [.row 9000 t.base.length, .row 600 i, .row 11 t.before.length]),
        (11, .row true false 1 (rows encI t.before)), (9000, .row true false 2 (rows encE t.base)), (600, .row true false 6 (rows encB1 (t.blocks.take i)))]⟩) (fun i => t.blocks.length - i)
    (fun i => i ≤ t.blocks.length) 0 [(2, 2), (3, 3), (11, 11), (9000, 9000), (600, 600)] (Weak.of (by rfl) ?_ ?_ (by rfl)) (by omega) ?_
  · simp (config := { maxSteps := 4000000 }) only [go_sem, simprocAttr, ↓dnA, Tryz.f131, rows_length, frW, wk2, wk1, wkL, wkB, hpW, List.mem_cons, Prod.mk.injEq, exists_eq_left, exists_eq_right, exists_eq]
    try rfl
  · simp (config := { maxSteps := 4000000 }) only [go_sem, simprocAttr, ↓dnA, Tryz.f131, rows_length, frW, wk2, wk1, wkL, wkB, hpW, List.mem_cons, Prod.mk.injEq, exists_eq_left, exists_eq_right, exists_eq]
  · rintro i hi
    by_cases h : i < t.blocks.length
    · have hb := hx.list _ (List.getElem_mem h)
      have htk : (rows encB1 (t.blocks.take i)).take i = rows encB1 (t.blocks.take i) := by
        rw [List.take_of_length_le]; rw [rows_length, List.length_take]; omega
      have hl : min i t.blocks.length = i := by omega
      have hw : IntKind.i64.wrap ((i : Int) + 1) = ((i + 1 : Nat) : Int) := wsucc h (by omega)
      simp (config := { maxSteps := 4000000 }) only [go_sem, simprocAttr, ↓dnA, Tryz.f131, rows_length, nlt h, h, rows_get _ _ _ h, encB1, encBk, nn0]
      refine semL_draw tab_ok mixed_ rfl (ord := [(0, []), (1, []), (2, []), (3, [0, 1]), (4, [0, 1]), (5, []), (6, []), (7, [])]) (by dsimp only; decide +kernel) ?_
      simp (config := { maxSteps := 4000000 }) only [go_sem, simprocAttr, ↓dnA, Tryz.f131, rows_length, encBk]
      refine CallTo.det (c_impl_Block_clone none t.blocks[i] hb) fun _ => ?_
      simp (config := { maxSteps := 4000000 }) only [go_sem, simprocAttr, ↓dnA, Tryz.f131, rows_length, List.length_take, hl, htk, hw, encBkF]
      repeat refine And.intro (by first | omega | (simp; done) | (simp; omega) | assumption) ?_
      refine ⟨i + 1, [(2, 2), (3, 3), (11, 11), (9000, 9000), (25, 600)], by omega, by dsimp only; omega, Weak.of (by rfl) ?_ ?_ (by rfl)⟩
      · simp (config := { maxSteps := 4000000 }) only [go_sem, simprocAttr, ↓dnA, Tryz.f131, rows_length, frW, wk2, wk1, wkL, wkB, hpW, List.mem_cons, Prod.mk.injEq, exists_eq_left, exists_eq_right, exists_eq]
        rw [take_snoc _ _ h, ← rows_snoc]
        rfl
      · simp (config := { maxSteps := 4000000 }) only [go_sem, simprocAttr, ↓dnA, Tryz.f131, rows_length, frW, wk2, wk1, wkL, wkB, hpW, List.mem_cons, Prod.mk.injEq, exists_eq_left, exists_eq_right, exists_eq]
    · have hi' : i = t.blocks.length := by omega
      subst hi'
      simp (config := { maxSteps := 4000000 }) only [go_sem, simprocAttr, ↓dnA, Tryz.f131, rows_length, nlf h, encTF, List.take_length]

theorem c_spec_l13Copy (n1 n2 n3 : Option Bool) (t : Tree) (hx : TreeS32 t) : Det Tryz.prog 130 [.agg (encT n1 n2 n3 t)] (.agg (encTF t)) := by
  refine fspec_det tab_ok Tryz.call130 Tryz.func130 rfl 39 Tryz.ntmps130 (of_decide_eq_true rfl) fun B => codeK_sound tab_ok _ _ _ ?_
  have q1 := hx.base
  have q2 := hx.blocks
  have q3 := hx.before
  have a1 := all_rows encI AV.flat (fun _ => rfl) t.before
  have a2 := all_rows encI AV.one (fun _ => rfl) t.before
  have a3 := sz0_rows encI 1 (fun _ => rfl) t.before
  have b1 := all_rows encE AV.flat (fun _ => rfl) t.base
  have b2 := all_rows encE AV.one (fun _ => rfl) t.base
  have b3 := sz0_rows encE 2 (fun _ => rfl) t.base
  simp (config := { maxSteps := 4000000 }) only [go_sem, simprocAttr, ↓dnA, Tryz.f130, rows_length, encT]
  refine semL_draw tab_ok mixed_ rfl (ord := [(1, []), (2, []), (5, []), (6, []), (0, [1, 2, 5, 6]), (3, [5, 6]), (4, [1, 2, 5, 6]), (7, []), (8, []), (9, [1, 2, 5, 6, 8]), (10, [])]) (by dsimp only; decide +kernel) ?_
  simp (config := { maxSteps := 4000000 }) only [go_sem, simprocAttr, ↓dnA, Tryz.f130, rows_length, encT]
  repeat refine And.intro (by first | omega | (simp; done) | (simp; omega) | assumption) ?_
  refine semL_nilVA 3 1 600 6 true (by rfl) (by simp) (by rfl) (by rfl) (by decide) (by decide) ?_
  refine semL_for tab_ok (fun i : Nat => ⟨39, [(1, .loc 1 0), (2, .loc 2 0), (3, .loc 3 0), (4, .int .i64 i)],
      [(1, .var (encT n1 n2 n3 t)), (2, .var [.sl (some false) [], .sl (some false) [], .sl (some false) []]), (3, .var [.row 9 t.base.length, .row 600 i, .row 13 t.before.length]),
        (13, .row true true 1 (rows encI t.before)), (9, .row true true 2 (rows encE t.base)), (600, .row true false 6 (rows encB1 (t.blocks.take i)))]⟩) (fun i => t.blocks.length - i)
    (fun i => i ≤ t.blocks.length) 0 [(1, 1), (2, 2), (3, 3), (9, 9), (13, 13), (600, 600)] (Weak.of (by rfl) ?_ ?_ (by rfl)) (by omega) ?_
  · simp (config := { maxSteps := 4000000 }) only [go_sem, simprocAttr, ↓dnA, Tryz.f130, rows_length, encT, frW, wk2, wk1, wkL, wkB, hpW, List.mem_cons, Prod.mk.injEq, exists_eq_left, exists_eq_right, exists_eq]
    try rfl
  · simp (config := { maxSteps := 4000000 }) only [go_sem, simprocAttr, ↓dnA, Tryz.f130, rows_length, frW, wk2, wk1, wkL, wkB, hpW, List.mem_cons, Prod.mk.injEq, exists_eq_left, exists_eq_right, exists_eq]
  · rintro i hi
    by_cases h : i < t.blocks.length
    · have hb := hx.list _ (List.getElem_mem h)
      have htk : (rows encB1 (t.blocks.take i)).take i = rows encB1 (t.blocks.take i) := by
        rw [List.take_of_length_le]; rw [rows_length, List.length_take]; omega
      have hl : min i t.blocks.length = i := by omega
      have hw : IntKind.i64.wrap ((i : Int) + 1) = ((i + 1 : Nat) : Int) := wsucc h (by omega)
      have c1 := all_rows encA AV.flat (fun _ => rfl) t.blocks[i].list
      have c2 := all_rows encA AV.one (fun _ => rfl) t.blocks[i].list
      have c3 := sz0_rows encA 4 (fun _ => rfl) t.blocks[i].list
      simp (config := { maxSteps := 4000000 }) only [go_sem, simprocAttr, ↓dnA, Tryz.f130, rows_length, encT, nlt h, h, rows_get _ _ _ h, encB1, encBk, nn0, List.length_take, hl, htk, hw]
      repeat refine And.intro (by first | omega | (simp; done) | (simp; omega) | assumption) ?_
      refine ⟨i + 1, [(1, 1), (2, 2), (3, 3), (13, 13), (9, 9), (36, 600)], by omega, by dsimp only; omega, Weak.of (by rfl) ?_ ?_ (by rfl)⟩
      · simp (config := { maxSteps := 4000000 }) only [go_sem, simprocAttr, ↓dnA, Tryz.f130, rows_length, encT, frW, wk2, wk1, wkL, wkB, hpW, List.mem_cons, Prod.mk.injEq, exists_eq_left, exists_eq_right, exists_eq]
        rw [take_snoc _ _ h, ← rows_snoc]
        rfl
      · simp (config := { maxSteps := 4000000 }) only [go_sem, simprocAttr, ↓dnA, Tryz.f130, rows_length, frW, wk2, wk1, wkL, wkB, hpW, List.mem_cons, Prod.mk.injEq, exists_eq_left, exists_eq_right, exists_eq]
    · have hi' : i = t.blocks.length := by omega
      subst hi'
      simp (config := { maxSteps := 4000000 }) only [go_sem, simprocAttr, ↓dnA, Tryz.f130, rows_length, encT, nlf h, encTF, List.take_length]

end Go.Proofs.YtmibclbinebnjaaGreat

/- Contracts: trees of one store, their copies, the values behind a block. -/
set_option linter.unusedSimpArgs false
set_option linter.unusedVariables false
set_option maxRecDepth 20000
set_option maxHeartbeats 4000000
namespace Go.Proofs.YtmibclbinebnjaaGreat
open Go Go.RowKit

def treeOf (s : List Entry) : Tree := if storeValid s then ⟨s, [firstBlock s], [-1]⟩ else ⟨[], [], []⟩

def encBk0 (b : Block) : List AV := [.int .i64 b.before, .int .i64 b.height, .int .i64 b.view, .sl (some false) [], .int .i64 b.root, .int .i64 b.effects]
theorem c_impl_FirstBlock0 (n1 : Option Bool) (s : List Entry) (hx : s.length < 2 ^ 62) : Det Tryz.prog 162 [.sl n1 (rows encE s)] (.agg (encBk0 (firstBlock s))) := by
  refine fspec_det tab_ok Tryz.call162 Tryz.func162 rfl 11 Tryz.ntmps162 (of_decide_eq_true rfl) fun B => codeK_sound tab_ok _ _ _ ?_
  simp (config := { maxSteps := 4000000 }) only [go_sem, simprocAttr, ↓dnA, Tryz.f162, rows_length]
  refine CallTo.det (c_impl_StoreValid _ _ hx) fun _ => ?_
  cases h : storeValid s with
  | false => simp (config := { maxSteps := 4000000 }) only [go_sem, simprocAttr, ↓dnA, Tryz.f162, rows_length, h, firstBlock, encBk0]
  | true =>
    simp (config := { maxSteps := 4000000 }) only [go_sem, simprocAttr, ↓dnA, Tryz.f162, rows_length, h]
    refine CallTo.det (c_impl_RootOf _ _ hx) fun _ => ?_
    simp (config := { maxSteps := 4000000 }) only [go_sem, simprocAttr, ↓dnA, Tryz.f162, rows_length, h]
    refine CallTo.det (c_impl_EffectsSum0 _) fun _ => ?_
    simp (config := { maxSteps := 4000000 }) only [go_sem, simprocAttr, ↓dnA, Tryz.f162, rows_length, h, firstBlock, encBk0]


/-- The values behind the blocks of a way. -/
def wayV (t : Tree) (v : List Int) (p : List Int) : List Int := p.foldl (fun v i => (runAllE v (t.blk i.toNat).list).1) v
def afterV (t : Tree) (n : Int) : List Int := wayV t (valuesL t.base) (pathL t n)
def storeAt (t : Tree) (n : Int) : List Entry := storeL (afterV t n)

theorem blk_acts {t : Tree} (ht : TreeOk t) {i : Nat} (hi : i < t.blocks.length) : (∀ a, a ∈ (t.blk i).list → ActOk a) ∧ (t.blk i).list.length ≤ 10 ∧ actionsValid (t.blk i).list = true := by
  have h := ht.valid i hi
  unfold blockValid at h
  rw [Bool.and_eq_true] at h
  have := actionsValid_ok h.2
  exact ⟨this.1, this.2, h.2⟩

theorem runAllE_valsOk {v : List Int} {l : List Action} (hl : ∀ a, a ∈ l → ActOk a) (hv : ValsOk v) : ValsOk (runAllE v l).1 := by
  have := runAllE_ok hl hv l.length (Nat.le_refl _)
  rw [List.take_length] at this
  exact this.1

theorem wayV_ok {t : Tree} (ht : TreeOk t) : ∀ (p : List Int) {v : List Int}, (∀ x, x ∈ p → 0 ≤ x ∧ x < t.blocks.length) → ValsOk v → ValsOk (wayV t v p)
  | [], v, _, hv => hv
  | x :: p, v, hp, hv => by
    have hx := hp x (List.mem_cons_self ..)
    exact wayV_ok ht p (fun y hy => hp y (List.mem_cons_of_mem _ hy)) (runAllE_valsOk (blk_acts ht (i := x.toNat) (by omega)).1 hv)

theorem wayV_take (t : Tree) (v : List Int) (p : List Int) (i : Nat) (h : i < p.length) : wayV t v (p.take (i + 1)) = (runAllE (wayV t v (p.take i)) (t.blk p[i].toNat).list).1 := by
  unfold wayV
  rw [take_snoc _ _ h, List.foldl_append]
  rfl

theorem c_impl_after (n1 n2 n3 : Option Bool) (t : Tree) (n : Int) (ht : TreeOk t) (hx : TreeSz t) (hn : n < t.blocks.length) :
    Det Tryz.prog 203 [.agg (encT n1 n2 n3 t), .int .i64 n] (.agg (cellsI (afterV t n))) := by
  refine fspec_det tab_ok Tryz.call203 Tryz.func203 rfl 32 Tryz.ntmps203 (of_decide_eq_true rfl) fun B => codeK_sound tab_ok _ _ _ ?_
  have hV := valuesL_ok ht.store
  have cl : (cellsI (valuesL t.base)).length = 32 := by rw [cellsI_length, hV.1]
  have hcv : (cellsI (valuesL t.base)).take 32 = cellsI (valuesL t.base) := cellsI_take _ 32 hV.1
  obtain ⟨h3, h4⟩ := entOk_spec 1 t.base (-1) ht.store
  simp (config := { maxSteps := 4000000 }) only [go_sem, simprocAttr, ↓dnA, Tryz.f203, rows_length, cellsI_impL, cellsI_impLB, encT]
  refine CallTo.det (c_impl_valuesOf n1 t.base hx.base (fun e he => by have := h3 e he; omega)) fun _ => ?_
  simp (config := { maxSteps := 4000000 }) only [go_sem, simprocAttr, ↓dnA, Tryz.f203, rows_length, cellsI_impL, cellsI_impLB, encT, cl, hcv, cellsI_one, cellsI_exp]
  repeat refine And.intro (by first | omega | (simp; done) | (simp; omega) | assumption) ?_
  refine CallTo.det (c_impl_path n1 n2 n3 t n ht hx hn) fun _ => ?_
  have hpl := pathL_len ht hn
  have hpb := pathL_bd ht hn
  have hres : afterV t n = wayV t (valuesL t.base) (pathL t n) := rfl
  rw [hres]
  generalize pathL t n = p at hpl hpb
  simp (config := { maxSteps := 4000000 }) only [go_sem, simprocAttr, ↓dnA, Tryz.f203, rows_length, cellsI_impL, cellsI_impLB, encT, cl, hcv]
  refine semL_for tab_ok (fun i : Nat => ⟨32, [(2, .loc 2 0), (4, .loc 4 0), (5, .loc 5 0), (13, .row 14000 p.length), (14, .int .i64 p.length), (15, .int .i64 i)],
      [(14000, .row true false 1 (rows encI p)), (2, .var (encT n1 n2 n3 t)), (4, .var (cellsI zeros32)), (5, .var (cellsI (wayV t (valuesL t.base) (p.take i))))]⟩) (fun i => p.length - i)
    (fun i => i ≤ p.length) 0 [(2, 2), (4, 4), (5, 5), (14000, 14000)] (Weak.of (by rfl) ?_ ?_ (by rfl)) (by omega) ?_
  · simp (config := { maxSteps := 4000000 }) only [go_sem, simprocAttr, ↓dnA, Tryz.f203, rows_length, cellsI_impL, cellsI_impLB, encT, frW, wk2, wk1, wkL, wkB, hpW, List.mem_cons, Prod.mk.injEq, exists_eq_left, exists_eq_right, exists_eq]
    exact ⟨of_eq_true (cellsI_wk _ zeros32), of_eq_true (cellsI_wk _ (valuesL t.base))⟩
  · simp (config := { maxSteps := 4000000 }) only [go_sem, simprocAttr, ↓dnA, Tryz.f203, rows_length, cellsI_impL, cellsI_impLB, encT, frW, wk2, wk1, wkL, wkB, hpW, List.mem_cons, Prod.mk.injEq, exists_eq_left, exists_eq_right, exists_eq]
  · rintro i hi
    have hU := wayV_ok ht (p.take i) (fun x hx => by have := hpb x (List.mem_of_mem_take hx); omega) hV
    have cu : (cellsI (wayV t (valuesL t.base) (p.take i))).length = 32 := by rw [cellsI_length, hU.1]
    have hcu : (cellsI (wayV t (valuesL t.base) (p.take i))).take 32 = cellsI (wayV t (valuesL t.base) (p.take i)) := cellsI_take _ 32 hU.1
    by_cases h : i < p.length
    · have hb := hpb _ (List.getElem_mem h)
      have hst := wayV_take t (valuesL t.base) p i h
      have hw : IntKind.i64.wrap ((i : Int) + 1) = ((i + 1 : Nat) : Int) := wsucc h (by omega)
      generalize wayV t (valuesL t.base) (p.take i) = u at hU cu hcu hst
      obtain ⟨k, hk⟩ : ∃ k : Nat, p[i] = (k : Int) := ⟨p[i].toNat, by omega⟩
      have hkl : k < t.blocks.length := by omega
      have hbk := t.blk_get k hkl
      obtain ⟨b1, b2, b3⟩ := blk_acts ht hkl
      have hr := runAllE_valsOk b1 hU
      rw [hk, Int.toNat_natCast] at hst
      simp (config := { maxSteps := 4000000 }) only [go_sem, simprocAttr, ↓dnA, Tryz.f203, rows_length, cellsI_impL, cellsI_impLB, nlt h, h, rows_get _ _ _ h, encI, hk, encT, nn0, hw, cu, hcu]
      refine semL_draw tab_ok mixed_ rfl (ord := [(0, []), (1, []), (2, []), (3, []), (4, []), (5, []), (6, []), (7, []), (8, []), (9, []), (10, []), (11, [10])]) (by dsimp only; decide +kernel) ?_
      simp (config := { maxSteps := 4000000 }) only [go_sem, simprocAttr, ↓dnA, Tryz.f203, rows_length, cellsI_impL, cellsI_impLB, nlt hkl, hkl, rows_get _ _ _ hkl, hbk, encB1, encBk, encT, nn0, hw, cu, hcu, cellsI_noT, cellsI_argL]
      refine CallTo.det (c_impl_runAll none u (t.blk k).list b1 b2 hU) fun _ => ?_
      generalize runAllE u (t.blk k).list = r at hr hst
      have cr : (cellsI r.1).length = 32 := by rw [cellsI_length, hr.1]
      have hcr : (cellsI r.1).take 32 = cellsI r.1 := cellsI_take _ 32 hr.1
      simp (config := { maxSteps := 4000000 }) only [go_sem, simprocAttr, ↓dnA, Tryz.f203, rows_length, cellsI_impL, cellsI_impLB, encT, nn0, hw, cu, hcu, cr, hcr, cellsI_noT, cellsI_argL, cellsI_one, cellsI_exp]
      repeat refine And.intro (by first | omega | (simp; done) | (simp; omega) | assumption) ?_
      refine ⟨i + 1, [(2, 2), (4, 4), (5, 5), (14000, 14000)], by omega, by dsimp only; omega, Weak.of (by rfl) ?_ ?_ (by rfl)⟩
      · simp (config := { maxSteps := 4000000 }) only [go_sem, simprocAttr, ↓dnA, Tryz.f203, rows_length, cellsI_impL, cellsI_impLB, encT, hst, frW, wk2, wk1, wkL, wkB, hpW, List.mem_cons, Prod.mk.injEq, exists_eq_left, exists_eq_right, exists_eq]
        exact ⟨of_eq_true (cellsI_wk _ zeros32), of_eq_true (cellsI_wk _ r.1)⟩
      · simp (config := { maxSteps := 4000000 }) only [go_sem, simprocAttr, ↓dnA, Tryz.f203, rows_length, cellsI_impL, cellsI_impLB, encT, frW, wk2, wk1, wkL, wkB, hpW, List.mem_cons, Prod.mk.injEq, exists_eq_left, exists_eq_right, exists_eq]
    · have hi' : i = p.length := by omega
      subst hi'
      rw [List.take_length] at cu hcu
      have cz : (cellsI zeros32).length = 32 := rfl
      simp (config := { maxSteps := 4000000 }) only [go_sem, simprocAttr, ↓dnA, Tryz.f203, rows_length, cellsI_impL, cellsI_impLB, nlf h, List.take_length, cu, hcu, cz, cellsI_exp, cellsI_rw, cellsI_one]


/-- The store behind a block of a tree; none where there is no such block. -/
noncomputable def storeOf (t : Tree) (n : Int) : List Entry := if treeValid t && inB n 0 ((t.blocks.length : Int) - 1) then storeAt t n else []

theorem afterV_ok {t : Tree} (ht : TreeOk t) {n : Int} (hn : n < t.blocks.length) : ValsOk (afterV t n) :=
  wayV_ok ht _ (fun x hx => by have := pathL_bd ht hn x hx; omega) (valuesL_ok ht.store)

theorem c_impl_StoreOf (n1 n2 n3 : Option Bool) (t : Tree) (n : Int) (hx : TreeSz t) :
    Det Tryz.prog 151 [.agg (encT n1 n2 n3 t), .int .i64 n] (.osl false 2 (rows encE (storeOf t n))) := by
  refine fspec_det tab_ok Tryz.call151 Tryz.func151 rfl 18 Tryz.ntmps151 (of_decide_eq_true rfl) fun B => codeK_sound tab_ok _ _ _ ?_
  unfold storeOf
  simp (config := { maxSteps := 4000000 }) only [go_sem, simprocAttr, ↓dnA, Tryz.f151, rows_length, cellsI_impL, cellsI_impLB, encT]
  refine CallTo.det (c_impl_BlockTreeValid n1 n2 n3 t hx) fun _ => ?_
  cases h1 : treeValid t with
  | false => simp (config := { maxSteps := 4000000 }) only [go_sem, simprocAttr, ↓dnA, Tryz.f151, rows_length, cellsI_impL, cellsI_impLB, encT, h1, rows_nil]
  | true =>
    simp (config := { maxSteps := 4000000 }) only [go_sem, simprocAttr, ↓dnA, Tryz.f151, rows_length, cellsI_impL, cellsI_impLB, encT, h1]
    refine CallTo.det (c_impl_has n1 n2 n3 t n hx) fun _ => ?_
    cases h2 : inB n 0 ((t.blocks.length : Int) - 1) with
    | false => simp (config := { maxSteps := 4000000 }) only [go_sem, simprocAttr, ↓dnA, Tryz.f151, rows_length, cellsI_impL, cellsI_impLB, encT, h1, h2, rows_nil]
    | true =>
      have hb := inB_iff.1 h2
      have ht := treeOk_of h1
      have hV := afterV_ok ht (n := n) (by omega)
      have cu : (cellsI (afterV t n)).length = 32 := by rw [cellsI_length, hV.1]
      have hcu : (cellsI (afterV t n)).take 32 = cellsI (afterV t n) := cellsI_take _ 32 hV.1
      simp (config := { maxSteps := 4000000 }) only [go_sem, simprocAttr, ↓dnA, Tryz.f151, rows_length, cellsI_impL, cellsI_impLB, encT, h1, h2]
      refine CallTo.det (c_impl_after n1 n2 n3 t n ht hx (by omega)) fun _ => ?_
      simp (config := { maxSteps := 4000000 }) only [go_sem, simprocAttr, ↓dnA, Tryz.f151, rows_length, cellsI_impL, cellsI_impLB, encT, h1, h2, cu, hcu, cellsI_noT, cellsI_argL]
      refine CallTo.det (c_impl_store (afterV t n) hV) fun _ => ?_
      simp (config := { maxSteps := 4000000 }) only [go_sem, simprocAttr, ↓dnA, Tryz.f151, rows_length, cellsI_impL, cellsI_impLB, encT, h1, h2, storeAt]

end Go.Proofs.YtmibclbinebnjaaGreat

/- Contracts: the reference's store behind a block. -/
set_option linter.unusedSimpArgs false
set_option linter.unusedVariables false
set_option maxRecDepth 20000
set_option maxHeartbeats 4000000
namespace Go.Proofs.YtmibclbinebnjaaGreat
open Go Go.RowKit

theorem values_storeL {v : List Int} (h : ValsOk v) : valuesL (storeL v) = v := by
  have hs := storeL_valid h
  apply List.ext_getElem?
  intro k
  by_cases hk : k < 32
  · obtain ⟨h1, h2⟩ := valuesL_get hs k hk
    have h3 := storeL_at h (k : Int) (by omega)
    rw [← h2] at h3
    unfold valK at h3
    rw [Int.toNat_natCast] at h3
    rw [List.getElem?_eq_getElem (by rw [h1]; exact hk), List.getElem?_eq_getElem (by rw [h.1]; exact hk)]
    rw [List.getD_eq_getElem?_getD, List.getD_eq_getElem?_getD, List.getElem?_eq_getElem (by rw [h1]; exact hk), List.getElem?_eq_getElem (by rw [h.1]; exact hk)] at h3
    exact congrArg some h3
  · have h1 := (valuesL_get hs 0 (by omega)).1
    rw [List.getElem?_eq_none (by rw [h1]; omega), List.getElem?_eq_none (by rw [h.1]; omega)]

theorem runSerial_storeL {v : List Int} {l : List Action} (h : ValsOk v) (hl : actionsValid l = true) : (runSerial (storeL v) l).1 = storeL (runAllE v l).1 := by
  unfold runSerial
  rw [storeL_valid h, hl, values_storeL h]
  rfl

theorem c_spec_StoreOf (n1 n2 n3 : Option Bool) (t : Tree) (n : Int) (hx : TreeS32 t) :
    Det Tryz.prog 146 [.agg (encT n1 n2 n3 t), .int .i64 n] (.osl false 2 (rows encE (storeOf t n))) := by
  refine fspec_det tab_ok Tryz.call146 Tryz.func146 rfl 43 Tryz.ntmps146 (of_decide_eq_true rfl) fun B => codeK_sound tab_ok _ _ _ ?_
  have hpn := pathTo_len t n
  simp (config := { maxSteps := 4000000 }) only [go_sem, simprocAttr, ↓dnA, Tryz.f146, rows_length, encT]
  refine CallTo.det (c_spec_PathTo n1 n2 n3 t n hx.sz) fun _ => ?_
  by_cases hok : treeValid t = true ∧ 0 ≤ n ∧ n < t.blocks.length
  · obtain ⟨h0, hn0, hn⟩ := hok
    have ht := treeOk_of h0
    have hp0 : pathTo t n = pathL t n := pathTo_in h0 hn0 hn
    have hso : storeOf t n = storeL (wayV t (valuesL t.base) (pathL t n)) := by
      unfold storeOf
      rw [h0, inB_iff.2 (by omega)]
      rfl
    have hbd := pathL_bd ht hn
    have hpl := pathL_len ht hn
    have hpos : 0 < (pathL t n).length := by
      unfold pathL
      obtain ⟨k, rfl⟩ : ∃ k : Nat, n = (k : Int) := ⟨n.toNat, by omega⟩
      rw [List.length_reverse, (back_cons ht k (by omega)).1, List.length_cons]
      omega
    rw [hp0, hso]
    generalize pathL t n = p at hbd hpl hpos
    have hV := valuesL_ok ht.store
    have hsv := storeL_values ht.store
    have hsl := store_len ht.store
    have b1 := all_rows encE AV.flat (fun _ => rfl) t.base
    have b2 := all_rows encE AV.one (fun _ => rfl) t.base
    have b3 := sz0_rows encE 2 (fun _ => rfl) t.base
    have hgt : decide ((p.length : Int) > 0) = true := by simp; omega
    simp (config := { maxSteps := 4000000 }) only [go_sem, simprocAttr, ↓dnA, Tryz.f146, rows_length, encT, hgt]
    repeat refine And.intro (by first | omega | (simp; done) | (simp; omega) | assumption) ?_
    refine semL_for tab_ok (fun i : Nat => ⟨43, [(2, .loc 2 0), (5, .row 13000 p.length), (6, .row 600 (storeL (wayV t (valuesL t.base) (p.take i))).length), (7, .int .i64 i)],
        [(2, .var (encT n1 n2 n3 t)), (13000, .row true true 1 (rows encI p)), (600, .row true true 2 (rows encE (storeL (wayV t (valuesL t.base) (p.take i)))))]⟩) (fun i => p.length - i)
      (fun i => i ≤ p.length) 0 [(2, 2), (13000, 13000), (20, 600)] (Weak.of (by rfl) ?_ ?_ (by rfl)) (by omega) ?_
    · simp (config := { maxSteps := 4000000 }) only [go_sem, simprocAttr, ↓dnA, Tryz.f146, rows_length, encT, frW, wk2, wk1, wkL, wkB, hpW, List.mem_cons, Prod.mk.injEq, exists_eq_left, exists_eq_right, exists_eq]
      exact congrArg (rows encE) hsv
    · simp (config := { maxSteps := 4000000 }) only [go_sem, simprocAttr, ↓dnA, Tryz.f146, rows_length, frW, wk2, wk1, wkL, wkB, hpW, List.mem_cons, Prod.mk.injEq, exists_eq_left, exists_eq_right, exists_eq]
      exact congrArg (fun x : List Entry => AV.row 20 x.length) hsv.symm
    · rintro i hi
      have hU := wayV_ok ht (p.take i) (fun x hx => by have := hbd x (List.mem_of_mem_take hx); omega) hV
      by_cases h : i < p.length
      · have hb := hbd _ (List.getElem_mem h)
        have hst := wayV_take t (valuesL t.base) p i h
        have hw : IntKind.i64.wrap ((i : Int) + 1) = ((i + 1 : Nat) : Int) := wsucc h (by omega)
        generalize wayV t (valuesL t.base) (p.take i) = u at hU hst
        obtain ⟨k, hk⟩ : ∃ k : Nat, p[i] = (k : Int) := ⟨p[i].toNat, by omega⟩
        have hkl : k < t.blocks.length := by omega
        have hbk := t.blk_get k hkl
        obtain ⟨a1, a2, a3⟩ := blk_acts ht hkl
        have hul := store_len (storeL_valid hU)
        rw [hk, Int.toNat_natCast] at hst
        simp (config := { maxSteps := 4000000 }) only [go_sem, simprocAttr, ↓dnA, Tryz.f146, rows_length, encT, nlt h, h, rows_get _ _ _ h, encI, hk, nn0]
        refine semL_draw tab_ok mixed_ rfl (ord := [(0, []), (1, []), (2, []), (3, []), (4, []), (5, []), (6, []), (7, []), (8, []), (9, []), (10, []), (11, []), (12, []), (13, []), (14, []), (15, [])]) (by dsimp only; decide +kernel) ?_
        simp (config := { maxSteps := 4000000 }) only [go_sem, simprocAttr, ↓dnA, Tryz.f146, rows_length, encT, nlt h, h, rows_get _ _ _ h, encI, hk, nn0, nlt hkl, hkl, rows_get _ _ _ hkl, hbk, encB1, encBk]
        refine CallTo.det (c_spec_RunSerial _ none (storeL u) (t.blk k).list (by omega) (by omega)) fun _ => ?_
        have hrs := runSerial_storeL hU a3
        rw [← hst] at hrs
        generalize runSerial (storeL u) (t.blk k).list = r at hrs
        obtain ⟨r1, r2⟩ := r
        dsimp only at hrs
        subst hrs
        simp (config := { maxSteps := 4000000 }) only [go_sem, simprocAttr, ↓dnA, Tryz.f146, rows_length, encT, nlt h, h, rows_get _ _ _ h, encI, hk, nn0, nlt hkl, hkl, rows_get _ _ _ hkl, hbk, encB1, encBk, hw]
        refine ⟨i + 1, [(2, 2), (13000, 13000), (39000, 600)], by omega, by dsimp only; omega, Weak.of (by rfl) ?_ ?_ (by rfl)⟩
        · simp (config := { maxSteps := 4000000 }) only [go_sem, simprocAttr, ↓dnA, Tryz.f146, rows_length, encT, frW, wk2, wk1, wkL, wkB, hpW, List.mem_cons, Prod.mk.injEq, exists_eq_left, exists_eq_right, exists_eq]
        · simp (config := { maxSteps := 4000000 }) only [go_sem, simprocAttr, ↓dnA, Tryz.f146, rows_length, encT, frW, wk2, wk1, wkL, wkB, hpW, List.mem_cons, Prod.mk.injEq, exists_eq_left, exists_eq_right, exists_eq]
      · have hi' : i = p.length := by omega
        subst hi'
        simp (config := { maxSteps := 4000000 }) only [go_sem, simprocAttr, ↓dnA, Tryz.f146, rows_length, encT, nlf h, List.take_length]
  · have hp0 : pathTo t n = [] := by unfold pathTo; rw [if_neg hok]
    have hso : storeOf t n = [] := by
      unfold storeOf
      cases h1 : treeValid t with
      | false => rfl
      | true =>
        cases h2 : inB n 0 ((t.blocks.length : Int) - 1) with
        | false => rfl
        | true =>
          have := inB_iff.1 h2
          exact absurd ⟨h1, by omega, by omega⟩ hok
    rw [hp0, hso]
    simp (config := { maxSteps := 4000000 }) only [go_sem, simprocAttr, ↓dnA, Tryz.f146, rows_length, encT, rows_nil, List.length_nil]
    refine semL_for tab_ok (fun _ : Nat => ⟨43, [(5, .row 13000 0), (6, .row 600 0), (7, .int .i64 0)],
        [(13000, .row true true 1 []), (600, .row true true 2 [])]⟩) (fun i => i) (fun _ => True) 0 [(13000, 13000), (13, 600)] (Weak.of (by rfl) ?_ ?_ (by rfl)) trivial ?_
    · simp (config := { maxSteps := 4000000 }) only [go_sem, simprocAttr, ↓dnA, Tryz.f146, rows_length, frW, wk2, wk1, wkL, wkB, hpW, List.mem_cons, Prod.mk.injEq, exists_eq_left, exists_eq_right, exists_eq]
      try rfl
    · simp (config := { maxSteps := 4000000 }) only [go_sem, simprocAttr, ↓dnA, Tryz.f146, rows_length, frW, wk2, wk1, wkL, wkB, hpW, List.mem_cons, Prod.mk.injEq, exists_eq_left, exists_eq_right, exists_eq]
    · rintro i -
      simp (config := { maxSteps := 4000000 }) only [go_sem, simprocAttr, ↓dnA, Tryz.f146, rows_length, rows_nil, List.length_nil]

end Go.Proofs.YtmibclbinebnjaaGreat

/- Contracts: certificates and heads of worlds. -/
set_option linter.unusedSimpArgs false
set_option linter.unusedVariables false
set_option maxRecDepth 20000
set_option maxHeartbeats 4000000
namespace Go.Proofs.YtmibclbinebnjaaGreat
open Go Go.RowKit

theorem certsTo_yes {w : Wld} {k : Nat} (h : 0 < k ∧ 0 < w.votes.getD k 0) : certsTo w (k + 1) = certsTo w k ++ [certAt w k] := by
  conv => lhs; unfold certsTo
  rw [if_pos h]
theorem certsTo_no {w : Wld} {k : Nat} (h : ¬ (0 < k ∧ 0 < w.votes.getD k 0)) : certsTo w (k + 1) = certsTo w k := by
  conv => lhs; unfold certsTo
  rw [if_neg h]
theorem worldCerts_yes {w : Wld} (h : worldValid w = true) : worldCerts w = certsTo w w.votes.length := by unfold worldCerts; rw [if_pos h]
theorem worldCerts_no {w : Wld} (h : worldValid w = false) : worldCerts w = [] := by unfold worldCerts; rw [h]; rfl
theorem worldCerts_len (w : Wld) : (worldCerts w).length ≤ w.votes.length := by
  cases h : worldValid w with
  | false => rw [worldCerts_no h]; simp
  | true => rw [worldCerts_yes h]; have := certsTo_len w w.votes.length; omega

theorem c_impl_certs (n1 n2 n3 n4 n5 : Option Bool) (w : Wld) (hx : WldSz w) (hv : worldValid w = true) :
    Det Tryz.prog 120 [.agg (encW n1 n2 n3 n4 n5 w)] (.osl false 3 (rows encC (certsTo w w.votes.length))) := by
  refine fspec_det tab_ok Tryz.call120 Tryz.func120 rfl 38 Tryz.ntmps120 (of_decide_eq_true rfl) fun B => codeK_sound tab_ok _ _ _ ?_
  obtain ⟨ht, h4, hvo, hvl, hvs⟩ := worldValid_parts hv
  have hlen := ht.len
  have hvt := hx.votes
  simp (config := { maxSteps := 4000000 }) only [go_sem, simprocAttr, ↓dnA, Tryz.f120, rows_length, encW]
  refine semL_nilA 3 3 3 true (by rfl) (by rfl) (by decide) (by decide) ?_
  refine semL_for tab_ok (fun i : Nat => ⟨38, [(1, .loc 1 0), (3, .row 3 (certsTo w i).length), (8, .sl n5 (rows encI w.votes)), (9, .int .i64 w.votes.length), (10, .int .i64 i)],
      [(1, .var (encW n1 n2 n3 n4 n5 w)), (3, .row true false 3 (rows encC (certsTo w i)))]⟩) (fun i => w.votes.length - i)
    (fun i => i ≤ w.votes.length) 0 [(1, 1), (3, 3)] (Weak.of (by rfl) ?_ ?_ (by rfl)) (by omega) ?_
  · simp (config := { maxSteps := 4000000 }) only [go_sem, simprocAttr, ↓dnA, Tryz.f120, rows_length, encW, frW, wk2, wk1, wkL, wkB, hpW, List.mem_cons, Prod.mk.injEq, exists_eq_left, exists_eq_right, exists_eq]
    try rfl
  · simp (config := { maxSteps := 4000000 }) only [go_sem, simprocAttr, ↓dnA, Tryz.f120, rows_length, nc0, certsTo, List.length_nil, frW, wk2, wk1, wkL, wkB, hpW, List.mem_cons, Prod.mk.injEq, exists_eq_left, exists_eq_right, exists_eq]
  · rintro i hi
    by_cases h : i < w.votes.length
    · have hw : IntKind.i64.wrap ((i : Int) + 1) = ((i + 1 : Nat) : Int) := wsucc h (by omega)
      have hgi : w.votes.getD i 0 = w.votes[i] := by rw [List.getD_eq_getElem?_getD, List.getElem?_eq_getElem h]; rfl
      have hac := certsTo_len w i
      have htk := take_rows encC (certsTo w i) (certsTo w i).length rfl
      by_cases hi0 : i = 0
      · have hd : decide ((i : Int) > 0) = false := by simp; omega
        have hst := certsTo_no (w := w) (k := i) (fun e => by omega)
        simp (config := { maxSteps := 4000000 }) only [go_sem, simprocAttr, ↓dnA, Tryz.f120, rows_length, encW, nlt h, h, nn0, rows_get _ _ _ h, encI, hd, hw]
        refine ⟨i + 1, [(1, 1), (3, 3)], by omega, by dsimp only; omega, Weak.of (by rfl) ?_ ?_ (by rfl)⟩
        · simp (config := { maxSteps := 4000000 }) only [go_sem, simprocAttr, ↓dnA, Tryz.f120, rows_length, encW, hst, frW, wk2, wk1, wkL, wkB, hpW, List.mem_cons, Prod.mk.injEq, exists_eq_left, exists_eq_right, exists_eq]
        · simp (config := { maxSteps := 4000000 }) only [go_sem, simprocAttr, ↓dnA, Tryz.f120, rows_length, hst, frW, wk2, wk1, wkL, wkB, hpW, List.mem_cons, Prod.mk.injEq, exists_eq_left, exists_eq_right, exists_eq]
      · have hd : decide ((i : Int) > 0) = true := by simp; omega
        by_cases hp : 0 < w.votes[i]
        · have hd2 : decide (w.votes[i] > 0) = true := decide_eq_true hp
          have hst := certsTo_yes (w := w) (k := i) ⟨by omega, by rw [hgi]; exact hp⟩
          have hil : i < w.tree.blocks.length := by omega
          have g1 := rows_gd encB1 w.tree.blocks i hil
          have hbl : (w.tree.blk i).list.length < 2 ^ 62 := by
            have := hx.tree.list _ (List.getElem_mem hil)
            rw [w.tree.blk_get i hil] at this
            exact this
          simp (config := { maxSteps := 4000000 }) only [go_sem, simprocAttr, ↓dnA, Tryz.f120, rows_length, encW, nlt h, h, nn0, rows_get _ _ _ h, encI, hd, hd2, nlt hil, hil, g1, encB1, encBk]
          refine semL_drawL tab_ok 9 mixed_ rfl (ord := [(0, []), (1, []), (3, []), (4, []), (5, []), (2, [0, 3, 4, 5]), (6, []), (7, [0]), (8, [])]) (by dsimp only; decide +kernel) ?_
          simp (config := { maxSteps := 4000000 }) only [go_sem, simprocAttr, ↓dnA, Tryz.f120, rows_length, encW, nlt h, h, nn0, rows_get _ _ _ h, encI, hd, hd2, nlt hil, hil, g1, encB1, encBk]
          refine CallTo.det (c_impl_BlockSum none (w.tree.blk i) hbl) fun _ => ?_
          simp (config := { maxSteps := 4000000 }) only [go_sem, simprocAttr, ↓dnA, Tryz.f120, rows_length, encW, nlt h, h, nn0, rows_get _ _ _ h, encI, hd, hd2, nlt hil, hil, g1, encB1, encBk, htk, hw]
          repeat refine And.intro (by first | omega | (simp; done) | (simp; omega) | assumption) ?_
          refine ⟨i + 1, [(1, 1), (35, 3)], by omega, by dsimp only; omega, Weak.of (by rfl) ?_ ?_ (by rfl)⟩
          · simp (config := { maxSteps := 4000000 }) only [go_sem, simprocAttr, ↓dnA, Tryz.f120, rows_length, encW, hst, frW, wk2, wk1, wkL, wkB, hpW, List.mem_cons, Prod.mk.injEq, exists_eq_left, exists_eq_right, exists_eq]
            rw [← rows_snoc]
            unfold certAt encC
            rw [hgi]
            rfl
          · simp (config := { maxSteps := 4000000 }) only [go_sem, simprocAttr, ↓dnA, Tryz.f120, rows_length, hst, List.length_append, frW, wk2, wk1, wkL, wkB, hpW, List.mem_cons, Prod.mk.injEq, exists_eq_left, exists_eq_right, exists_eq]
            try rfl
        · have hd2 : decide (w.votes[i] > 0) = false := decide_eq_false hp
          have hst := certsTo_no (w := w) (k := i) (fun e => hp (by rw [← hgi]; exact e.2))
          simp (config := { maxSteps := 4000000 }) only [go_sem, simprocAttr, ↓dnA, Tryz.f120, rows_length, encW, nlt h, h, nn0, rows_get _ _ _ h, encI, hd, hd2, hw]
          refine ⟨i + 1, [(1, 1), (3, 3)], by omega, by dsimp only; omega, Weak.of (by rfl) ?_ ?_ (by rfl)⟩
          · simp (config := { maxSteps := 4000000 }) only [go_sem, simprocAttr, ↓dnA, Tryz.f120, rows_length, encW, hst, frW, wk2, wk1, wkL, wkB, hpW, List.mem_cons, Prod.mk.injEq, exists_eq_left, exists_eq_right, exists_eq]
          · simp (config := { maxSteps := 4000000 }) only [go_sem, simprocAttr, ↓dnA, Tryz.f120, rows_length, hst, frW, wk2, wk1, wkL, wkB, hpW, List.mem_cons, Prod.mk.injEq, exists_eq_left, exists_eq_right, exists_eq]
    · have hi' : i = w.votes.length := by omega
      subst hi'
      simp (config := { maxSteps := 4000000 }) only [go_sem, simprocAttr, ↓dnA, Tryz.f120, rows_length, nlf h]

theorem c_impl_WorldCerts (n1 n2 n3 n4 n5 : Option Bool) (w : Wld) (hx : WldSz w) :
    Det Tryz.prog 41 [.agg (encW n1 n2 n3 n4 n5 w)] (.osl false 3 (rows encC (worldCerts w))) := by
  refine fspec_det tab_ok Tryz.call41 Tryz.func41 rfl 8 Tryz.ntmps41 (of_decide_eq_true rfl) fun B => codeK_sound tab_ok _ _ _ ?_
  simp (config := { maxSteps := 4000000 }) only [go_sem, simprocAttr, ↓dnA, Tryz.f41, rows_length, encW]
  refine CallTo.det (c_impl_WorldValid n1 n2 n3 n4 n5 w hx) fun _ => ?_
  cases h0 : worldValid w with
  | false => simp (config := { maxSteps := 4000000 }) only [go_sem, simprocAttr, ↓dnA, Tryz.f41, rows_length, encW, h0, worldCerts_no h0, rows_nil]
  | true =>
    simp (config := { maxSteps := 4000000 }) only [go_sem, simprocAttr, ↓dnA, Tryz.f41, rows_length, encW, h0]
    refine CallTo.det (c_impl_certs n1 n2 n3 n4 n5 w hx h0) fun _ => ?_
    simp (config := { maxSteps := 4000000 }) only [go_sem, simprocAttr, ↓dnA, Tryz.f41, rows_length, encW, h0, worldCerts_yes h0]

theorem c_spec_WorldCerts (n1 n2 n3 n4 n5 : Option Bool) (w : Wld) (hx : WldSz w) :
    Det Tryz.prog 42 [.agg (encW n1 n2 n3 n4 n5 w)] (.osl true 3 (rows encC (worldCerts w))) := by
  refine fspec_det tab_ok Tryz.call42 Tryz.func42 rfl 47 Tryz.ntmps42 (of_decide_eq_true rfl) fun B => codeK_sound tab_ok _ _ _ ?_
  have hvt := hx.votes
  cases h0 : worldValid w with
  | false =>
    rw [worldCerts_no h0]
    simp (config := { maxSteps := 4000000 }) only [go_sem, simprocAttr, ↓dnA, Tryz.f42, rows_length, encW]
    refine semL_for tab_ok (fun _ : Nat => ⟨47, [(1, .loc 1 0), (3, .row 600 0), (4, .int .i64 1)], [(1, .var (encW n1 n2 n3 n4 n5 w)), (600, .row true true 3 [])]⟩) (fun i => i) (fun _ => True) 0 [(1, 1), (5, 600)] (Weak.of (by rfl) ?_ ?_ (by rfl)) trivial ?_
    · simp (config := { maxSteps := 4000000 }) only [go_sem, simprocAttr, ↓dnA, Tryz.f42, rows_length, encW, frW, wk2, wk1, wkL, wkB, hpW, List.mem_cons, Prod.mk.injEq, exists_eq_left, exists_eq_right, exists_eq]
      try rfl
    · simp (config := { maxSteps := 4000000 }) only [go_sem, simprocAttr, ↓dnA, Tryz.f42, rows_length, frW, wk2, wk1, wkL, wkB, hpW, List.mem_cons, Prod.mk.injEq, exists_eq_left, exists_eq_right, exists_eq]
    · rintro i -
      by_cases h : (1 : Int) < (w.votes.length : Int)
      · simp (config := { maxSteps := 4000000 }) only [go_sem, simprocAttr, ↓dnA, Tryz.f42, rows_length, encW, decide_eq_true h]
        refine CallTo.det (c_spec_WorldValid n1 n2 n3 n4 n5 w hx) fun _ => ?_
        simp (config := { maxSteps := 4000000 }) only [go_sem, simprocAttr, ↓dnA, Tryz.f42, rows_length, encW, decide_eq_true h, h0, rows_nil, List.length_nil]
      · simp (config := { maxSteps := 4000000 }) only [go_sem, simprocAttr, ↓dnA, Tryz.f42, rows_length, encW, decide_eq_false h, rows_nil, List.length_nil]
  | true =>
    rw [worldCerts_yes h0]
    obtain ⟨ht, h4, hvo, hvl, hvs⟩ := worldValid_parts h0
    have hlen := ht.len
    have hc1 : certsTo w 1 = [] := certsTo_no (w := w) (k := 0) (fun e => by omega)
    simp (config := { maxSteps := 4000000 }) only [go_sem, simprocAttr, ↓dnA, Tryz.f42, rows_length, encW]
    refine semL_for tab_ok (fun i : Nat => ⟨47, [(1, .loc 1 0), (3, .row 600 (certsTo w i).length), (4, .int .i64 i)],
        [(1, .var (encW n1 n2 n3 n4 n5 w)), (600, .row true true 3 (rows encC (certsTo w i)))]⟩) (fun i => w.votes.length - i)
      (fun i => 1 ≤ i ∧ i ≤ w.votes.length) 1 [(1, 1), (5, 600)] (Weak.of (by rfl) ?_ ?_ (by rfl)) (by omega) ?_
    · simp (config := { maxSteps := 4000000 }) only [go_sem, simprocAttr, ↓dnA, Tryz.f42, rows_length, encW, hc1, frW, wk2, wk1, wkL, wkB, hpW, List.mem_cons, Prod.mk.injEq, exists_eq_left, exists_eq_right, exists_eq]
      try rfl
    · simp (config := { maxSteps := 4000000 }) only [go_sem, simprocAttr, ↓dnA, Tryz.f42, rows_length, hc1, List.length_nil, frW, wk2, wk1, wkL, wkB, hpW, List.mem_cons, Prod.mk.injEq, exists_eq_left, exists_eq_right, exists_eq]
      try rfl
    · rintro i ⟨hi1, hi⟩
      by_cases h : i < w.votes.length
      · have hw : IntKind.i64.wrap ((i : Int) + 1) = ((i + 1 : Nat) : Int) := wsucc h (by omega)
        have hgi : w.votes.getD i 0 = w.votes[i] := by rw [List.getD_eq_getElem?_getD, List.getElem?_eq_getElem h]; rfl
        have hac := certsTo_len w i
        have htk := take_rows encC (certsTo w i) (certsTo w i).length rfl
        have hd0 : decide ((i : Int) < (w.votes.length : Int)) = true := by simp; omega
        simp (config := { maxSteps := 4000000 }) only [go_sem, simprocAttr, ↓dnA, Tryz.f42, rows_length, encW, hd0]
        refine CallTo.det (c_spec_WorldValid n1 n2 n3 n4 n5 w hx) fun _ => ?_
        by_cases hp : 0 < w.votes[i]
        · have hd2 : decide (w.votes[i] > 0) = true := decide_eq_true hp
          have hst := certsTo_yes (w := w) (k := i) ⟨by omega, by rw [hgi]; exact hp⟩
          have hil : i < w.tree.blocks.length := by omega
          have g1 := rows_gd encB1 w.tree.blocks i hil
          have hbl : (w.tree.blk i).list.length < 2 ^ 62 := by
            have := hx.tree.list _ (List.getElem_mem hil)
            rw [w.tree.blk_get i hil] at this
            exact this
          simp (config := { maxSteps := 4000000 }) only [go_sem, simprocAttr, ↓dnA, Tryz.f42, rows_length, encW, hd0, h0, nlt h, h, nn0, rows_get _ _ _ h, encI, hd2]
          refine semL_drawL tab_ok 23 mixed_ rfl (ord := [(0, []), (1, []), (2, []), (3, []), (4, []), (5, []), (6, []), (8, []), (9, []), (10, []), (11, []), (12, []), (13, []), (14, []), (15, []), (16, []), (17, []), (18, []), (19, []), (7, [0, 8, 9, 10, 11, 12, 13, 14, 15, 16, 17, 18, 19]), (20, []), (21, [0]), (22, [])]) (by dsimp only; decide +kernel) ?_
          simp (config := { maxSteps := 4000000 }) only [go_sem, simprocAttr, ↓dnA, Tryz.f42, rows_length, encW, hd0, h0, nlt h, h, nn0, rows_get _ _ _ h, encI, hd2, nlt hil, hil, g1, encB1, encBk]
          refine CallTo.det (c_spec_BlockSum none (w.tree.blk i) hbl) fun _ => ?_
          simp (config := { maxSteps := 4000000 }) only [go_sem, simprocAttr, ↓dnA, Tryz.f42, rows_length, encW, hd0, h0, nlt h, h, nn0, rows_get _ _ _ h, encI, hd2, nlt hil, hil, g1, encB1, encBk, htk, hw]
          repeat refine And.intro (by first | omega | (simp; done) | (simp; omega) | assumption) ?_
          refine ⟨i + 1, [(1, 1), (45, 600)], by omega, by dsimp only; omega, Weak.of (by rfl) ?_ ?_ (by rfl)⟩
          · simp (config := { maxSteps := 4000000 }) only [go_sem, simprocAttr, ↓dnA, Tryz.f42, rows_length, encW, hst, frW, wk2, wk1, wkL, wkB, hpW, List.mem_cons, Prod.mk.injEq, exists_eq_left, exists_eq_right, exists_eq]
            rw [← rows_snoc]
            unfold certAt encC
            rw [hgi]
            rfl
          · simp (config := { maxSteps := 4000000 }) only [go_sem, simprocAttr, ↓dnA, Tryz.f42, rows_length, hst, List.length_append, frW, wk2, wk1, wkL, wkB, hpW, List.mem_cons, Prod.mk.injEq, exists_eq_left, exists_eq_right, exists_eq]
            try rfl
        · have hd2 : decide (w.votes[i] > 0) = false := decide_eq_false hp
          have hst := certsTo_no (w := w) (k := i) (fun e => hp (by rw [← hgi]; exact e.2))
          simp (config := { maxSteps := 4000000 }) only [go_sem, simprocAttr, ↓dnA, Tryz.f42, rows_length, encW, hd0, h0, nlt h, h, nn0, rows_get _ _ _ h, encI, hd2, hw]
          refine ⟨i + 1, [(1, 1), (600, 600)], by omega, by dsimp only; omega, Weak.of (by rfl) ?_ ?_ (by rfl)⟩
          · simp (config := { maxSteps := 4000000 }) only [go_sem, simprocAttr, ↓dnA, Tryz.f42, rows_length, encW, hst, frW, wk2, wk1, wkL, wkB, hpW, List.mem_cons, Prod.mk.injEq, exists_eq_left, exists_eq_right, exists_eq]
          · simp (config := { maxSteps := 4000000 }) only [go_sem, simprocAttr, ↓dnA, Tryz.f42, rows_length, hst, frW, wk2, wk1, wkL, wkB, hpW, List.mem_cons, Prod.mk.injEq, exists_eq_left, exists_eq_right, exists_eq]
      · have hi' : i = w.votes.length := by omega
        subst hi'
        have hd0 : decide ((w.votes.length : Int) < (w.votes.length : Int)) = false := by simp
        simp (config := { maxSteps := 4000000 }) only [go_sem, simprocAttr, ↓dnA, Tryz.f42, rows_length, encW, hd0]

theorem worldHead_yes {w : Wld} (h : worldValid w = true) : worldHead w = headW w := by unfold worldHead; rw [if_pos h]
theorem worldHead_no {w : Wld} (h : worldValid w = false) : worldHead w = -1 := by unfold worldHead; rw [h]; rfl

theorem c_impl_head (n1 n2 n3 n4 n5 : Option Bool) (w : Wld) (hx : WldSz w) (hv : worldValid w = true) :
    Det Tryz.prog 136 [.agg (encW n1 n2 n3 n4 n5 w)] (.int .i64 (headW w)) := by
  refine fspec_det tab_ok Tryz.call136 Tryz.func136 rfl 8 Tryz.ntmps136 (of_decide_eq_true rfl) fun B => codeK_sound tab_ok _ _ _ ?_
  have hcl := certsTo_len w w.votes.length
  have hvt := hx.votes
  unfold headW
  simp (config := { maxSteps := 4000000 }) only [go_sem, simprocAttr, ↓dnA, Tryz.f136, rows_length, encW]
  refine semL_draw tab_ok mixed_ rfl (ord := [(0, []), (1, []), (2, []), (3, [0, 1]), (4, []), (5, [])]) (by dsimp only; decide +kernel) ?_
  simp (config := { maxSteps := 4000000 }) only [go_sem, simprocAttr, ↓dnA, Tryz.f136, rows_length, encW]
  refine CallTo.det (c_impl_certs n1 n2 n3 n4 n5 w hx hv) fun _ => ?_
  simp (config := { maxSteps := 4000000 }) only [go_sem, simprocAttr, ↓dnA, Tryz.f136, rows_length, encW]
  refine CallTo.det (c_impl_CommittedTo n1 n2 n3 none w.tree (certsTo w w.votes.length) hx.tree) fun _ => ?_
  simp (config := { maxSteps := 4000000 }) only [go_sem, simprocAttr, ↓dnA, Tryz.f136, rows_length, encW]

theorem c_impl_WorldHead (n1 n2 n3 n4 n5 : Option Bool) (w : Wld) (hx : WldSz w) :
    Det Tryz.prog 66 [.agg (encW n1 n2 n3 n4 n5 w)] (.int .i64 (worldHead w)) := by
  refine fspec_det tab_ok Tryz.call66 Tryz.func66 rfl 8 Tryz.ntmps66 (of_decide_eq_true rfl) fun B => codeK_sound tab_ok _ _ _ ?_
  simp (config := { maxSteps := 4000000 }) only [go_sem, simprocAttr, ↓dnA, Tryz.f66, rows_length, encW]
  refine CallTo.det (c_impl_WorldValid n1 n2 n3 n4 n5 w hx) fun _ => ?_
  cases h0 : worldValid w with
  | false => simp (config := { maxSteps := 4000000 }) only [go_sem, simprocAttr, ↓dnA, Tryz.f66, rows_length, encW, h0, worldHead_no h0]
  | true =>
    simp (config := { maxSteps := 4000000 }) only [go_sem, simprocAttr, ↓dnA, Tryz.f66, rows_length, encW, h0]
    refine CallTo.det (c_impl_head n1 n2 n3 n4 n5 w hx h0) fun _ => ?_
    simp (config := { maxSteps := 4000000 }) only [go_sem, simprocAttr, ↓dnA, Tryz.f66, rows_length, encW, h0, worldHead_yes h0]

theorem c_spec_WorldHead (n1 n2 n3 n4 n5 : Option Bool) (w : Wld) (hx : WldSz w) :
    Det Tryz.prog 65 [.agg (encW n1 n2 n3 n4 n5 w)] (.int .i64 (worldHead w)) := by
  refine fspec_det tab_ok Tryz.call65 Tryz.func65 rfl 11 Tryz.ntmps65 (of_decide_eq_true rfl) fun B => codeK_sound tab_ok _ _ _ ?_
  have hcl := worldCerts_len w
  have hvt := hx.votes
  simp (config := { maxSteps := 4000000 }) only [go_sem, simprocAttr, ↓dnA, Tryz.f65, rows_length, encW]
  refine CallTo.det (c_spec_WorldValid n1 n2 n3 n4 n5 w hx) fun _ => ?_
  cases h0 : worldValid w with
  | false => simp (config := { maxSteps := 4000000 }) only [go_sem, simprocAttr, ↓dnA, Tryz.f65, rows_length, encW, h0, worldHead_no h0]
  | true =>
    have hh : worldHead w = committedTo w.tree (worldCerts w) := by rw [worldHead_yes h0, worldCerts_yes h0]; rfl
    rw [hh]
    simp (config := { maxSteps := 4000000 }) only [go_sem, simprocAttr, ↓dnA, Tryz.f65, rows_length, encW, h0]
    refine semL_draw tab_ok mixed_ rfl (ord := [(0, []), (1, []), (2, []), (3, [0, 1]), (4, []), (5, [])]) (by dsimp only; decide +kernel) ?_
    simp (config := { maxSteps := 4000000 }) only [go_sem, simprocAttr, ↓dnA, Tryz.f65, rows_length, encW, h0]
    refine CallTo.det (c_spec_WorldCerts n1 n2 n3 n4 n5 w hx) fun _ => ?_
    simp (config := { maxSteps := 4000000 }) only [go_sem, simprocAttr, ↓dnA, Tryz.f65, rows_length, encW, h0]
    refine CallTo.det (c_spec_CommittedTo n1 n2 n3 (some true) w.tree (worldCerts w) hx.tree) fun _ => ?_
    simp (config := { maxSteps := 4000000 }) only [go_sem, simprocAttr, ↓dnA, Tryz.f65, rows_length, encW, h0]

end Go.Proofs.YtmibclbinebnjaaGreat

/- Contracts: the store that is committed in a world. -/
set_option linter.unusedSimpArgs false
set_option linter.unusedVariables false
set_option maxRecDepth 20000
set_option maxHeartbeats 4000000
namespace Go.Proofs.YtmibclbinebnjaaGreat
open Go Go.RowKit

noncomputable def worldStore (w : Wld) : List Entry := if worldValid w then storeOf w.tree (headW w) else []
theorem worldStore_yes {w : Wld} (h : worldValid w = true) : worldStore w = storeOf w.tree (headW w) := by unfold worldStore; rw [if_pos h]
theorem worldStore_no {w : Wld} (h : worldValid w = false) : worldStore w = [] := by unfold worldStore; rw [h]; rfl
theorem storeOf_len (t : Tree) (n : Int) : (storeOf t n).length ≤ 32 := by
  unfold storeOf
  split
  · rename_i h
    rw [Bool.and_eq_true] at h
    have hn := inB_iff.1 h.2
    exact store_len (storeL_valid (afterV_ok (treeOk_of h.1) (n := n) (by omega)))
  · simp
theorem worldStore_len (w : Wld) : (worldStore w).length ≤ 32 := by
  cases h : worldValid w with
  | false => rw [worldStore_no h]; simp
  | true => rw [worldStore_yes h]; exact storeOf_len _ _

theorem c_impl_WorldStore (n1 n2 n3 n4 n5 : Option Bool) (w : Wld) (hx : WldSz w) :
    Det Tryz.prog 83 [.agg (encW n1 n2 n3 n4 n5 w)] (.osl false 2 (rows encE (worldStore w))) := by
  refine fspec_det tab_ok Tryz.call83 Tryz.func83 rfl 11 Tryz.ntmps83 (of_decide_eq_true rfl) fun B => codeK_sound tab_ok _ _ _ ?_
  simp (config := { maxSteps := 4000000 }) only [go_sem, simprocAttr, ↓dnA, Tryz.f83, rows_length, encW]
  refine CallTo.det (c_impl_WorldValid n1 n2 n3 n4 n5 w hx) fun _ => ?_
  cases h0 : worldValid w with
  | false => simp (config := { maxSteps := 4000000 }) only [go_sem, simprocAttr, ↓dnA, Tryz.f83, rows_length, encW, h0, worldStore_no h0, rows_nil]
  | true =>
    rw [worldStore_yes h0]
    simp (config := { maxSteps := 4000000 }) only [go_sem, simprocAttr, ↓dnA, Tryz.f83, rows_length, encW, h0]
    refine semL_draw tab_ok mixed_ rfl (ord := [(0, []), (1, []), (2, []), (3, [0, 1]), (4, []), (5, [])]) (by dsimp only; decide +kernel) ?_
    simp (config := { maxSteps := 4000000 }) only [go_sem, simprocAttr, ↓dnA, Tryz.f83, rows_length, encW, h0]
    refine CallTo.det (c_impl_head n1 n2 n3 n4 n5 w hx h0) fun _ => ?_
    simp (config := { maxSteps := 4000000 }) only [go_sem, simprocAttr, ↓dnA, Tryz.f83, rows_length, encW, h0]
    refine CallTo.det (c_impl_StoreOf n1 n2 n3 w.tree (headW w) hx.tree) fun _ => ?_
    simp (config := { maxSteps := 4000000 }) only [go_sem, simprocAttr, ↓dnA, Tryz.f83, rows_length, encW, h0]

theorem c_spec_WorldStore (n1 n2 n3 n4 n5 : Option Bool) (w : Wld) (hx : WldSz w) :
    Det Tryz.prog 82 [.agg (encW n1 n2 n3 n4 n5 w)] (.osl false 2 (rows encE (worldStore w))) := by
  refine fspec_det tab_ok Tryz.call82 Tryz.func82 rfl 12 Tryz.ntmps82 (of_decide_eq_true rfl) fun B => codeK_sound tab_ok _ _ _ ?_
  simp (config := { maxSteps := 4000000 }) only [go_sem, simprocAttr, ↓dnA, Tryz.f82, rows_length, encW]
  refine CallTo.det (c_spec_WorldValid n1 n2 n3 n4 n5 w hx) fun _ => ?_
  cases h0 : worldValid w with
  | false => simp (config := { maxSteps := 4000000 }) only [go_sem, simprocAttr, ↓dnA, Tryz.f82, rows_length, encW, h0, worldStore_no h0, rows_nil]
  | true =>
    rw [worldStore_yes h0]
    simp (config := { maxSteps := 4000000 }) only [go_sem, simprocAttr, ↓dnA, Tryz.f82, rows_length, encW, h0]
    refine semL_draw tab_ok mixed_ rfl (ord := [(0, []), (1, []), (2, []), (3, [0, 1]), (4, []), (5, [])]) (by dsimp only; decide +kernel) ?_
    simp (config := { maxSteps := 4000000 }) only [go_sem, simprocAttr, ↓dnA, Tryz.f82, rows_length, encW, h0]
    refine CallTo.det (c_spec_WorldHead n1 n2 n3 n4 n5 w hx) fun _ => ?_
    rw [worldHead_yes h0]
    simp (config := { maxSteps := 4000000 }) only [go_sem, simprocAttr, ↓dnA, Tryz.f82, rows_length, encW, h0]
    refine CallTo.det (c_spec_StoreOf n1 n2 n3 w.tree (headW w) (worldOk_s32 h0).tree) fun _ => ?_
    simp (config := { maxSteps := 4000000 }) only [go_sem, simprocAttr, ↓dnA, Tryz.f82, rows_length, encW, h0]

end Go.Proofs.YtmibclbinebnjaaGreat

/- Contracts: FnExactWorldStore. -/
set_option linter.unusedSimpArgs false
set_option linter.unusedVariables false
set_option maxRecDepth 20000
set_option maxHeartbeats 4000000
namespace Go.Proofs.YtmibclbinebnjaaGreat
open Go Go.RowKit

theorem c_laws_FnExactWorldStore (n00 n01 n02 n03 n04 : Option Bool) (w : Wld) (hw : WldLen w) :
    Det Tryz.prog 18 [.agg (encW n00 n01 n02 n03 n04 w)] (.bool true) := by
  refine fspec_det tab_ok Tryz.call18 Tryz.func18 rfl 69 Tryz.ntmps18 (of_decide_eq_true rfl) fun B => codeK_sound tab_ok _ _ _ ?_
  have hle0 : (0 : Int) ≤ 1048576 ∧ (1048576 : Int) ≤ 1048576 := by omega
  obtain ⟨r0, hr0, hr0b, hT0, hE0⟩ := c_laws_szWorld n00 n01 n02 n03 n04 w 1048576 hw hle0
  simp (config := { maxSteps := 4000000 }) only [go_sem, simprocAttr, ↓dnA, Tryz.f18, encW, encWO, encT, encTO, List.nodup_cons, rows_length, markS_length]
  refine CallTo.det hr0 fun _ => ?_
  cases d0 : decide (r0 < 0) with
  | true => simp (config := { maxSteps := 4000000 }) only [go_sem, simprocAttr, ↓dnA, Tryz.f18, encW, encWO, encT, encTO, List.nodup_cons, rows_length, markS_length, d0]
  | false =>
  have d0' := of_decide_eq_false d0
  have hsw := hT0 (by omega)
  have hle1 : 0 ≤ r0 ∧ r0 ≤ 1048576 := by omega
  have hmw := stW_small hsw
  have hll : (worldStore w).length ≤ 1048576 := by
    have := worldStore_len w
    omega
  have hS := c_spec_WorldStore (some true) (some true) (some true) (some true) (some true) w hsw.sz
  have hN := c_impl_WorldStore (some true) (some true) (some true) (some true) (some true) w hsw.sz
  generalize worldStore w = g0 at hS hN hll
  have eg : decide (g0 = g0) = true := by simp
  have e0 := stepS_const stE 2 (fun _ => rfl) g0
  have dm : decide (1 + (stepS stE g0 : Int) < 0) = false := by simp; omega
  have dk : decide (1 + (stW w : Int) < 0) = false := by simp; omega
  have eww : decide (w = w) = true := by simp
  simp (config := { maxSteps := 4000000 }) only [go_sem, simprocAttr, ↓dnA, Tryz.f18, encW, encWO, encT, encTO, List.nodup_cons, rows_length, markS_length, d0, eg, dm, dk, eww]
  refine CallTo.det (c_laws_toWorld n00 n01 n02 n03 n04 w hsw) fun _ => ?_
  simp (config := { maxSteps := 4000000 }) only [go_sem, simprocAttr, ↓dnA, Tryz.f18, encW, encWO, encT, encTO, List.nodup_cons, rows_length, markS_length, d0, eg, dm, dk, eww]
  refine CallTo.det hS fun _ => ?_
  simp (config := { maxSteps := 4000000 }) only [go_sem, simprocAttr, ↓dnA, Tryz.f18, encW, encWO, encT, encTO, List.nodup_cons, rows_length, markS_length, d0, eg, dm, dk, eww]
  refine CallTo.det (c_laws_toWorld n00 n01 n02 n03 n04 w hsw) fun _ => ?_
  simp (config := { maxSteps := 4000000 }) only [go_sem, simprocAttr, ↓dnA, Tryz.f18, encW, encWO, encT, encTO, List.nodup_cons, rows_length, markS_length, d0, eg, dm, dk, eww]
  refine CallTo.det hN fun _ => ?_
  simp (config := { maxSteps := 4000000 }) only [go_sem, simprocAttr, ↓dnA, Tryz.f18, encW, encWO, encT, encTO, List.nodup_cons, rows_length, markS_length, d0, eg, dm, dk, eww]
  refine CallTo.det (c_laws_eqEntryS _ _ g0 g0 (by omega) (by omega)) fun _ => ?_
  simp (config := { maxSteps := 4000000 }) only [go_sem, simprocAttr, ↓dnA, Tryz.f18, encW, encWO, encT, encTO, List.nodup_cons, rows_length, markS_length, d0, eg, dm, dk, eww]
  refine semL_draw tab_ok mixed_ rfl (ord := [(0, []), (1, []), (2, [0]), (3, []), (4, [])]) (by dsimp only; decide +kernel) ?_
  simp (config := { maxSteps := 4000000 }) only [go_sem, simprocAttr, ↓dnA, Tryz.f18, encW, encWO, encT, encTO, List.nodup_cons, rows_length, markS_length, d0, eg, dm, dk, eww]
  refine CallTo.det (c_laws_toWorld n00 n01 n02 n03 n04 w hsw) fun _ => ?_
  simp (config := { maxSteps := 4000000 }) only [go_sem, simprocAttr, ↓dnA, Tryz.f18, encW, encWO, encT, encTO, List.nodup_cons, rows_length, markS_length, d0, eg, dm, dk, eww]
  refine CallTo.det (c_laws_eqWorld _ _ _ _ _ _ _ _ _ _ w w hsw.sz hsw.sz) fun _ => ?_
  simp (config := { maxSteps := 4000000 }) only [go_sem, simprocAttr, ↓dnA, Tryz.f18, encW, encWO, encT, encTO, List.nodup_cons, rows_length, markS_length, d0, eg, dm, dk, eww]
  refine CallMTo.of (c_laws_markWorld true true true true true w _ hsw.sz ⟨by omega, by omega⟩) ?_
  rintro r ls' ⟨rfl, rfl⟩
  simp (config := { maxSteps := 4000000 }) only [go_sem, simprocAttr, ↓dnA, Tryz.f18, encW, encWO, encT, encTO, List.nodup_cons, rows_length, markS_length, d0, eg, dm, dk, eww]
  refine CallTo.det (c_laws_eqEntryS _ _ g0 g0 (by omega) (by omega)) fun _ => ?_
  simp (config := { maxSteps := 4000000 }) only [go_sem, simprocAttr, ↓dnA, Tryz.f18, encW, encWO, encT, encTO, List.nodup_cons, rows_length, markS_length, d0, eg, dm, dk, eww]
  refine CallMTo.of (c_laws_markEntryS false 2 g0 _ (.inr rfl) (by omega) ⟨by omega, by omega⟩) ?_
  rintro r ls' ⟨rfl, rfl⟩
  simp (config := { maxSteps := 4000000 }) only [go_sem, simprocAttr, ↓dnA, Tryz.f18, encW, encWO, encT, encTO, List.nodup_cons, rows_length, markS_length, d0, eg, dm, dk, eww]
  refine CallTo.det (c_laws_heldEntryS _ g0 1 (by omega) ⟨by omega, by omega⟩) fun _ => ?_
  simp (config := { maxSteps := 4000000 }) only [go_sem, simprocAttr, ↓dnA, Tryz.f18, encW, encWO, encT, encTO, List.nodup_cons, rows_length, markS_length, d0, eg, dm, dk, eww]
  refine CallTo.det (c_laws_toWorld n00 n01 n02 n03 n04 w hsw) fun _ => ?_
  simp (config := { maxSteps := 4000000 }) only [go_sem, simprocAttr, ↓dnA, Tryz.f18, encW, encWO, encT, encTO, List.nodup_cons, rows_length, markS_length, d0, eg, dm, dk, eww]
  refine CallTo.det hN fun _ => ?_
  simp (config := { maxSteps := 4000000 }) only [go_sem, simprocAttr, ↓dnA, Tryz.f18, encW, encWO, encT, encTO, List.nodup_cons, rows_length, markS_length, d0, eg, dm, dk, eww]
  refine CallTo.det (c_laws_eqEntryS _ _ g0 g0 (by omega) (by omega)) fun _ => ?_
  simp (config := { maxSteps := 4000000 }) only [go_sem, simprocAttr, ↓dnA, Tryz.f18, encW, encWO, encT, encTO, List.nodup_cons, rows_length, markS_length, d0, eg, dm, dk, eww]
  refine CallTo.det (c_laws_heldEntryS _ g0 1 (by omega) ⟨by omega, by omega⟩) fun _ => ?_
  simp (config := { maxSteps := 4000000 }) only [go_sem, simprocAttr, ↓dnA, Tryz.f18, encW, encWO, encT, encTO, List.nodup_cons, rows_length, markS_length, d0, eg, dm, dk, eww]

end Go.Proofs.YtmibclbinebnjaaGreat

/- The closed facts of the row of FnExactWorldStore. -/
namespace Go.Proofs.YtmibclbinebnjaaGreat
open Go Go.ChangeShapes Go.WideShapes Go.ChangeAt Go.RowKit

theorem fnExactWorldStore_named : Tryz.pinned.checked.prog.funcNamed Rows.fnExactWorldStoreRow.func = some 18 := by kernel_rfl
theorem fnExactWorldStore_inst : Tryz.f18.isInstance Tryz.pinned.checked.prog Rows.fnExactWorldStoreRow.origin Rows.fnExactWorldStoreRow.targs := of_decide_eq_true (by kernel_rfl)
theorem fnExactWorldStore_wrap : Tryz.f18.isWrapper Tryz.pinned.checked.prog Rows.fnExactWorldStoreRow.wrapper Rows.fnExactWorldStoreRow.mainSum := by
  unfold Func.isWrapper; first | (rw [if_pos (by decide +kernel)]; kernel_rfl) | (rw [if_neg (by decide +kernel)]; exact ⟨rfl, rfl⟩)
set_option maxRecDepth 100000 in
set_option maxHeartbeats 4000000 in
theorem fnExactWorldStore_closed : joinedFacts Tryz.pinned.checked.prog 18 Tryz.f18 Rows.fnExactWorldStoreSpec Rows.fnExactWorldStoreRow = true := by
  unfold joinedFacts
  simp only [Bool.and_eq_true]
  repeat' apply And.intro
  all_goals first
    | with_reducible exact c_enter
    | (rw [c_final]; as_aux_lemma => kernel_rfl)
    | (rw [c_make]; as_aux_lemma => kernel_rfl)
    | (as_aux_lemma => kernel_rfl)

end Go.Proofs.YtmibclbinebnjaaGreat

