/- FnExactWorldActions (part 1): C0, W42, W70, W98, W75, W88, C88 -/
import Derived.Test.YtmibclbinebnjaaGreatRows
import Derived.ProofKit
import Derived.Test.YtmibclbinebnjaaGreatR2

set_option linter.unusedSimpArgs false
set_option linter.unusedVariables false

/- The closed facts that hold of the program alone. -/
namespace Go.Proofs.YtmibclbinebnjaaGreat
open Go Go.ChangeShapes Go.WideShapes Go.ChangeAt Go.RowKit

/-- The letters of the translation's header. -/
def headL : List Char := [.ofNat 104, .ofNat 97, .ofNat 114, .ofNat 110, .ofNat 101, .ofNat 115, .ofNat 115, .ofNat 32, .ofNat 101, .ofNat 53, .ofNat 101, .ofNat 101, .ofNat 53, .ofNat 50, .ofNat 48, .ofNat 48, .ofNat 52, .ofNat 55, .ofNat 102, .ofNat 56, .ofNat 101, .ofNat 50, .ofNat 52, .ofNat 100, .ofNat 51, .ofNat 101, .ofNat 97, .ofNat 53, .ofNat 99, .ofNat 50, .ofNat 98, .ofNat 97, .ofNat 53, .ofNat 48, .ofNat 56, .ofNat 50, .ofNat 53, .ofNat 100, .ofNat 101, .ofNat 97, .ofNat 102, .ofNat 48, .ofNat 53, .ofNat 52, .ofNat 98, .ofNat 97, .ofNat 52, .ofNat 97, .ofNat 53, .ofNat 101, .ofNat 57, .ofNat 55, .ofNat 56, .ofNat 51, .ofNat 48, .ofNat 48, .ofNat 57, .ofNat 50, .ofNat 50, .ofNat 56, .ofNat 56, .ofNat 101, .ofNat 52, .ofNat 54, .ofNat 51, .ofNat 48, .ofNat 102, .ofNat 101, .ofNat 52, .ofNat 52, .ofNat 49, .ofNat 51, .ofNat 32, .ofNat 99, .ofNat 117, .ofNat 116, .ofNat 32, .ofNat 97, .ofNat 116, .ofNat 32, .ofNat 108, .ofNat 111, .ofNat 111, .ofNat 112, .ofNat 46, .ofNat 101, .ofNat 120, .ofNat 97, .ofNat 109, .ofNat 112, .ofNat 108, .ofNat 101, .ofNat 47, .ofNat 98, .ofNat 108, .ofNat 111, .ofNat 99, .ofNat 107, .ofNat 101, .ofNat 120, .ofNat 101, .ofNat 99, .ofNat 117, .ofNat 116, .ofNat 111, .ofNat 114, .ofNat 47, .ofNat 108, .ofNat 97, .ofNat 119, .ofNat 115, .ofNat 46, .ofNat 70, .ofNat 110, .ofNat 87, .ofNat 111, .ofNat 114, .ofNat 108, .ofNat 100, .ofNat 86, .ofNat 97, .ofNat 108, .ofNat 105, .ofNat 100, .ofNat 32, .ofNat 108, .ofNat 111, .ofNat 111, .ofNat 112, .ofNat 46, .ofNat 101, .ofNat 120, .ofNat 97, .ofNat 109, .ofNat 112, .ofNat 108, .ofNat 101, .ofNat 47, .ofNat 98, .ofNat 108, .ofNat 111, .ofNat 99, .ofNat 107, .ofNat 101, .ofNat 120, .ofNat 101, .ofNat 99, .ofNat 117, .ofNat 116, .ofNat 111, .ofNat 114, .ofNat 47, .ofNat 108, .ofNat 97, .ofNat 119, .ofNat 115, .ofNat 46, .ofNat 70, .ofNat 110, .ofNat 67, .ofNat 101, .ofNat 114, .ofNat 116, .ofNat 66, .ofNat 108, .ofNat 111, .ofNat 99, .ofNat 107, .ofNat 32, .ofNat 108, .ofNat 111, .ofNat 111, .ofNat 112, .ofNat 46, .ofNat 101, .ofNat 120, .ofNat 97, .ofNat 109, .ofNat 112, .ofNat 108, .ofNat 101, .ofNat 47, .ofNat 98, .ofNat 108, .ofNat 111, .ofNat 99, .ofNat 107, .ofNat 101, .ofNat 120, .ofNat 101, .ofNat 99, .ofNat 117, .ofNat 116, .ofNat 111, .ofNat 114, .ofNat 47, .ofNat 108, .ofNat 97, .ofNat 119, .ofNat 115, .ofNat 46, .ofNat 70, .ofNat 110, .ofNat 67, .ofNat 101, .ofNat 114, .ofNat 116, .ofNat 105, .ofNat 102, .ofNat 105, .ofNat 101, .ofNat 100, .ofNat 66, .ofNat 108, .ofNat 111, .ofNat 99, .ofNat 107, .ofNat 115, .ofNat 32, .ofNat 108, .ofNat 111, .ofNat 111, .ofNat 112, .ofNat 46, .ofNat 101, .ofNat 120, .ofNat 97, .ofNat 109, .ofNat 112, .ofNat 108, .ofNat 101, .ofNat 47, .ofNat 98, .ofNat 108, .ofNat 111, .ofNat 99, .ofNat 107, .ofNat 101, .ofNat 120, .ofNat 101, .ofNat 99, .ofNat 117, .ofNat 116, .ofNat 111, .ofNat 114, .ofNat 47, .ofNat 108, .ofNat 97, .ofNat 119, .ofNat 115, .ofNat 46, .ofNat 70, .ofNat 110, .ofNat 69, .ofNat 120, .ofNat 97, .ofNat 99, .ofNat 116, .ofNat 67, .ofNat 111, .ofNat 109, .ofNat 109, .ofNat 105, .ofNat 116, .ofNat 116, .ofNat 101, .ofNat 100, .ofNat 84, .ofNat 111, .ofNat 32, .ofNat 108, .ofNat 111, .ofNat 111, .ofNat 112, .ofNat 46, .ofNat 101, .ofNat 120, .ofNat 97, .ofNat 109, .ofNat 112, .ofNat 108, .ofNat 101, .ofNat 47, .ofNat 98, .ofNat 108, .ofNat 111, .ofNat 99, .ofNat 107, .ofNat 101, .ofNat 120, .ofNat 101, .ofNat 99, .ofNat 117, .ofNat 116, .ofNat 111, .ofNat 114, .ofNat 47, .ofNat 108, .ofNat 97, .ofNat 119, .ofNat 115, .ofNat 46, .ofNat 70, .ofNat 110, .ofNat 87, .ofNat 111, .ofNat 114, .ofNat 108, .ofNat 100, .ofNat 67, .ofNat 101, .ofNat 114, .ofNat 116, .ofNat 115, .ofNat 32, .ofNat 108, .ofNat 111, .ofNat 111, .ofNat 112, .ofNat 46, .ofNat 101, .ofNat 120, .ofNat 97, .ofNat 109, .ofNat 112, .ofNat 108, .ofNat 101, .ofNat 47, .ofNat 98, .ofNat 108, .ofNat 111, .ofNat 99, .ofNat 107, .ofNat 101, .ofNat 120, .ofNat 101, .ofNat 99, .ofNat 117, .ofNat 116, .ofNat 111, .ofNat 114, .ofNat 47, .ofNat 108, .ofNat 97, .ofNat 119, .ofNat 115, .ofNat 46, .ofNat 70, .ofNat 110, .ofNat 69, .ofNat 120, .ofNat 97, .ofNat 99, .ofNat 116, .ofNat 87, .ofNat 111, .ofNat 114, .ofNat 108, .ofNat 100, .ofNat 67, .ofNat 101, .ofNat 114, .ofNat 116, .ofNat 115, .ofNat 32, .ofNat 108, .ofNat 111, .ofNat 111, .ofNat 112, .ofNat 46, .ofNat 101, .ofNat 120, .ofNat 97, .ofNat 109, .ofNat 112, .ofNat 108, .ofNat 101, .ofNat 47, .ofNat 98, .ofNat 108, .ofNat 111, .ofNat 99, .ofNat 107, .ofNat 101, .ofNat 120, .ofNat 101, .ofNat 99, .ofNat 117, .ofNat 116, .ofNat 111, .ofNat 114, .ofNat 47, .ofNat 108, .ofNat 97, .ofNat 119, .ofNat 115, .ofNat 46, .ofNat 70, .ofNat 110, .ofNat 69, .ofNat 120, .ofNat 97, .ofNat 99, .ofNat 116, .ofNat 67, .ofNat 101, .ofNat 114, .ofNat 116, .ofNat 105, .ofNat 102, .ofNat 105, .ofNat 101, .ofNat 100, .ofNat 66, .ofNat 108, .ofNat 111, .ofNat 99, .ofNat 107, .ofNat 115, .ofNat 32, .ofNat 108, .ofNat 111, .ofNat 111, .ofNat 112, .ofNat 46, .ofNat 101, .ofNat 120, .ofNat 97, .ofNat 109, .ofNat 112, .ofNat 108, .ofNat 101, .ofNat 47, .ofNat 98, .ofNat 108, .ofNat 111, .ofNat 99, .ofNat 107, .ofNat 101, .ofNat 120, .ofNat 101, .ofNat 99, .ofNat 117, .ofNat 116, .ofNat 111, .ofNat 114, .ofNat 47, .ofNat 108, .ofNat 97, .ofNat 119, .ofNat 115, .ofNat 46, .ofNat 70, .ofNat 110, .ofNat 69, .ofNat 120, .ofNat 97, .ofNat 99, .ofNat 116, .ofNat 87, .ofNat 111, .ofNat 114, .ofNat 108, .ofNat 100, .ofNat 79, .ofNat 102, .ofNat 32, .ofNat 108, .ofNat 111, .ofNat 111, .ofNat 112, .ofNat 46, .ofNat 101, .ofNat 120, .ofNat 97, .ofNat 109, .ofNat 112, .ofNat 108, .ofNat 101, .ofNat 47, .ofNat 98, .ofNat 108, .ofNat 111, .ofNat 99, .ofNat 107, .ofNat 101, .ofNat 120, .ofNat 101, .ofNat 99, .ofNat 117, .ofNat 116, .ofNat 111, .ofNat 114, .ofNat 47, .ofNat 108, .ofNat 97, .ofNat 119, .ofNat 115, .ofNat 46, .ofNat 70, .ofNat 110, .ofNat 69, .ofNat 120, .ofNat 97, .ofNat 99, .ofNat 116, .ofNat 67, .ofNat 111, .ofNat 109, .ofNat 109, .ofNat 105, .ofNat 116, .ofNat 115, .ofNat 65, .ofNat 103, .ofNat 114, .ofNat 101, .ofNat 101, .ofNat 32, .ofNat 108, .ofNat 111, .ofNat 111, .ofNat 112, .ofNat 46, .ofNat 101, .ofNat 120, .ofNat 97, .ofNat 109, .ofNat 112, .ofNat 108, .ofNat 101, .ofNat 47, .ofNat 98, .ofNat 108, .ofNat 111, .ofNat 99, .ofNat 107, .ofNat 101, .ofNat 120, .ofNat 101, .ofNat 99, .ofNat 117, .ofNat 116, .ofNat 111, .ofNat 114, .ofNat 47, .ofNat 108, .ofNat 97, .ofNat 119, .ofNat 115, .ofNat 46, .ofNat 70, .ofNat 110, .ofNat 69, .ofNat 120, .ofNat 97, .ofNat 99, .ofNat 116, .ofNat 67, .ofNat 111, .ofNat 109, .ofNat 109, .ofNat 105, .ofNat 116, .ofNat 72, .ofNat 101, .ofNat 97, .ofNat 100, .ofNat 115, .ofNat 32, .ofNat 108, .ofNat 111, .ofNat 111, .ofNat 112, .ofNat 46, .ofNat 101, .ofNat 120, .ofNat 97, .ofNat 109, .ofNat 112, .ofNat 108, .ofNat 101, .ofNat 47, .ofNat 98, .ofNat 108, .ofNat 111, .ofNat 99, .ofNat 107, .ofNat 101, .ofNat 120, .ofNat 101, .ofNat 99, .ofNat 117, .ofNat 116, .ofNat 111, .ofNat 114, .ofNat 47, .ofNat 108, .ofNat 97, .ofNat 119, .ofNat 115, .ofNat 46, .ofNat 70, .ofNat 110, .ofNat 69, .ofNat 120, .ofNat 97, .ofNat 99, .ofNat 116, .ofNat 87, .ofNat 111, .ofNat 114, .ofNat 108, .ofNat 100, .ofNat 72, .ofNat 101, .ofNat 97, .ofNat 100, .ofNat 32, .ofNat 108, .ofNat 111, .ofNat 111, .ofNat 112, .ofNat 46, .ofNat 101, .ofNat 120, .ofNat 97, .ofNat 109, .ofNat 112, .ofNat 108, .ofNat 101, .ofNat 47, .ofNat 98, .ofNat 108, .ofNat 111, .ofNat 99, .ofNat 107, .ofNat 101, .ofNat 120, .ofNat 101, .ofNat 99, .ofNat 117, .ofNat 116, .ofNat 111, .ofNat 114, .ofNat 47, .ofNat 108, .ofNat 97, .ofNat 119, .ofNat 115, .ofNat 46, .ofNat 70, .ofNat 110, .ofNat 69, .ofNat 120, .ofNat 97, .ofNat 99, .ofNat 116, .ofNat 87, .ofNat 111, .ofNat 114, .ofNat 108, .ofNat 100, .ofNat 65, .ofNat 99, .ofNat 116, .ofNat 105, .ofNat 111, .ofNat 110, .ofNat 115, .ofNat 32, .ofNat 108, .ofNat 111, .ofNat 111, .ofNat 112, .ofNat 46, .ofNat 101, .ofNat 120, .ofNat 97, .ofNat 109, .ofNat 112, .ofNat 108, .ofNat 101, .ofNat 47, .ofNat 98, .ofNat 108, .ofNat 111, .ofNat 99, .ofNat 107, .ofNat 101, .ofNat 120, .ofNat 101, .ofNat 99, .ofNat 117, .ofNat 116, .ofNat 111, .ofNat 114, .ofNat 47, .ofNat 108, .ofNat 97, .ofNat 119, .ofNat 115, .ofNat 46, .ofNat 70, .ofNat 110, .ofNat 69, .ofNat 120, .ofNat 97, .ofNat 99, .ofNat 116, .ofNat 87, .ofNat 111, .ofNat 114, .ofNat 108, .ofNat 100, .ofNat 86, .ofNat 111, .ofNat 116, .ofNat 101, .ofNat 32, .ofNat 108, .ofNat 111, .ofNat 111, .ofNat 112, .ofNat 46, .ofNat 101, .ofNat 120, .ofNat 97, .ofNat 109, .ofNat 112, .ofNat 108, .ofNat 101, .ofNat 47, .ofNat 98, .ofNat 108, .ofNat 111, .ofNat 99, .ofNat 107, .ofNat 101, .ofNat 120, .ofNat 101, .ofNat 99, .ofNat 117, .ofNat 116, .ofNat 111, .ofNat 114, .ofNat 47, .ofNat 108, .ofNat 97, .ofNat 119, .ofNat 115, .ofNat 46, .ofNat 70, .ofNat 110, .ofNat 69, .ofNat 120, .ofNat 97, .ofNat 99, .ofNat 116, .ofNat 71, .ofNat 114, .ofNat 111, .ofNat 119, .ofNat 84, .ofNat 114, .ofNat 101, .ofNat 101, .ofNat 32, .ofNat 108, .ofNat 111, .ofNat 111, .ofNat 112, .ofNat 46, .ofNat 101, .ofNat 120, .ofNat 97, .ofNat 109, .ofNat 112, .ofNat 108, .ofNat 101, .ofNat 47, .ofNat 98, .ofNat 108, .ofNat 111, .ofNat 99, .ofNat 107, .ofNat 101, .ofNat 120, .ofNat 101, .ofNat 99, .ofNat 117, .ofNat 116, .ofNat 111, .ofNat 114, .ofNat 47, .ofNat 108, .ofNat 97, .ofNat 119, .ofNat 115, .ofNat 46, .ofNat 70, .ofNat 110, .ofNat 69, .ofNat 120, .ofNat 97, .ofNat 99, .ofNat 116, .ofNat 87, .ofNat 111, .ofNat 114, .ofNat 108, .ofNat 100, .ofNat 82, .ofNat 117, .ofNat 110, .ofNat 32, .ofNat 108, .ofNat 111, .ofNat 111, .ofNat 112, .ofNat 46, .ofNat 101, .ofNat 120, .ofNat 97, .ofNat 109, .ofNat 112, .ofNat 108, .ofNat 101, .ofNat 47, .ofNat 98, .ofNat 108, .ofNat 111, .ofNat 99, .ofNat 107, .ofNat 101, .ofNat 120, .ofNat 101, .ofNat 99, .ofNat 117, .ofNat 116, .ofNat 111, .ofNat 114, .ofNat 47, .ofNat 108, .ofNat 97, .ofNat 119, .ofNat 115, .ofNat 46, .ofNat 70, .ofNat 110, .ofNat 69, .ofNat 120, .ofNat 97, .ofNat 99, .ofNat 116, .ofNat 87, .ofNat 111, .ofNat 114, .ofNat 108, .ofNat 100, .ofNat 83, .ofNat 116, .ofNat 111, .ofNat 114, .ofNat 101, .ofNat 32, .ofNat 108, .ofNat 111, .ofNat 111, .ofNat 112, .ofNat 46, .ofNat 101, .ofNat 120, .ofNat 97, .ofNat 109, .ofNat 112, .ofNat 108, .ofNat 101, .ofNat 47, .ofNat 98, .ofNat 108, .ofNat 111, .ofNat 99, .ofNat 107, .ofNat 101, .ofNat 120, .ofNat 101, .ofNat 99, .ofNat 117, .ofNat 116, .ofNat 111, .ofNat 114, .ofNat 47, .ofNat 108, .ofNat 97, .ofNat 119, .ofNat 115, .ofNat 46, .ofNat 70, .ofNat 110, .ofNat 69, .ofNat 120, .ofNat 97, .ofNat 99, .ofNat 116, .ofNat 87, .ofNat 111, .ofNat 114, .ofNat 108, .ofNat 100, .ofNat 71, .ofNat 114, .ofNat 111, .ofNat 119]
/-- The header itself. -/
def headS : String := "harness e5ee520047f8e24d3ea5c2ba50825deaf054ba4a5e97830092288e4630fe4413 cut at loop.example/blockexecutor/laws.FnWorldValid loop.example/blockexecutor/laws.FnCertBlock loop.example/blockexecutor/laws.FnCertifiedBlocks loop.example/blockexecutor/laws.FnExactCommittedTo loop.example/blockexecutor/laws.FnWorldCerts loop.example/blockexecutor/laws.FnExactWorldCerts loop.example/blockexecutor/laws.FnExactCertifiedBlocks loop.example/blockexecutor/laws.FnExactWorldOf loop.example/blockexecutor/laws.FnExactCommitsAgree loop.example/blockexecutor/laws.FnExactCommitHeads loop.example/blockexecutor/laws.FnExactWorldHead loop.example/blockexecutor/laws.FnExactWorldActions loop.example/blockexecutor/laws.FnExactWorldVote loop.example/blockexecutor/laws.FnExactGrowTree loop.example/blockexecutor/laws.FnExactWorldRun loop.example/blockexecutor/laws.FnExactWorldStore loop.example/blockexecutor/laws.FnExactWorldGrow"
set_option maxRecDepth 100000 in
theorem head_is : Tryz.pinned.checked.prog.initOrder = headS := by kernel_rfl
set_option maxRecDepth 100000 in
theorem head_bytes : headS.toByteArray = List.utf8Encode headL := by kernel_rfl
set_option maxRecDepth 100000 in
theorem list_bytes : (String.ofList headL).toByteArray = List.utf8Encode headL := by kernel_rfl
theorem head_eq : Tryz.pinned.checked.prog.initOrder = String.ofList headL := head_is.trans (String.toByteArray_inj.1 (head_bytes.trans list_bytes.symm))
theorem head_list : Tryz.pinned.checked.prog.initOrder.toList = headL := by rw [head_eq, String.toList_ofList]
set_option maxRecDepth 100000 in
theorem head_word : behindMainWord (wordsSigns headL) = "cut".toList :: (behindMainWord (wordsSigns headL)).tail := by kernel_rfl
theorem cut_strip (r : List (List Char)) : stripLifts liftWords ("cut".toList :: r) = ([], "cut".toList :: r) := by kernel_rfl
set_option maxRecDepth 100000 in
theorem c_headLifts : Tryz.pinned.checked.prog.headLifts = [] := by
  unfold Program.headLifts
  rw [head_list, head_word, cut_strip]
  kernel_rfl
set_option maxRecDepth 100000 in
theorem c_lays : Tryz.pinned.checked.prog.laysLater = false := by kernel_rfl
set_option maxRecDepth 100000 in
theorem c_bears : Tryz.pinned.checked.prog.bearsReflect = false := by kernel_rfl
set_option maxRecDepth 100000 in
theorem c_door : Tryz.pinned.checked.prog.doorFits [] = true := by kernel_rfl
theorem enter_cut {P : Program} {r : List (List Char)} (h : behindMainWord (wordsSigns P.initOrder.toList) = "cut".toList :: r) (h1 : P.laysLater = false) (h2 : P.bearsReflect = false) (h3 : P.doorFits [] = true) : P.mayEnter = true := by
  unfold Program.mayEnter
  rw [h]
  dsimp only
  rw [cut_strip, h1, h2]
  dsimp only
  rw [h3]
  kernel_rfl
theorem final_cut {P : Program} {r : List (List Char)} (h : behindMainWord (wordsSigns P.initOrder.toList) = "cut".toList :: r) (h1 : P.headLifts = []) : P.liftsFinal = false := by
  unfold Program.liftsFinal
  rw [h, h1]
  kernel_rfl
theorem make_cut {P : Program} {r : List (List Char)} (h : behindMainWord (wordsSigns P.initOrder.toList) = "cut".toList :: r) : P.make = some .cut := by
  unfold Program.make
  rw [h]
  kernel_rfl
theorem head_words : behindMainWord (wordsSigns Tryz.pinned.checked.prog.initOrder.toList) = "cut".toList :: (behindMainWord (wordsSigns headL)).tail := by rw [head_list]; exact head_word
theorem c_enter : Tryz.pinned.checked.prog.mayEnter = true := enter_cut head_words c_lays c_bears c_door
theorem c_final : Tryz.pinned.checked.prog.liftsFinal = false := final_cut head_words c_headLifts
theorem c_make : Tryz.pinned.checked.prog.make = some .cut := make_cut head_words

end Go.Proofs.YtmibclbinebnjaaGreat

/- Contracts: engines, and their copies. -/
set_option linter.unusedSimpArgs false
set_option linter.unusedVariables false
set_option maxRecDepth 20000
set_option maxHeartbeats 4000000
namespace Go.Proofs.YtmibclbinebnjaaGreat
open Go Go.RowKit

theorem semL_nilVA {P : Program} {B : Base} {c : Code} {s : AState} {Kx : Exit → AState → Prop} (vid j id sz : Nat) (own : Bool) {cs : List AV} (h0 : s.blk vid = .var cs) (hj : j < cs.length) (h1 : cs.getD j .top = .sl (some false) []) (h2 : s.blk id = .none) (h3 : nF id) (h4 : 0 < sz)
    (h : @SemL P B c { s with hp := (vid, .var (cs.set j (.row id 0))) :: (id, .row own false sz []) :: s.hp } ⟨Kx⟩) : @SemL P B c s ⟨Kx⟩ := @semL_nilV _ _ _ _ ⟨Kx⟩ vid j id sz own _ h0 hj h1 h2 h3 h4 h

structure Version where
  key : Int
  by_ : Int
  value : Int
deriving DecidableEq, Inhabited
def encR (v : Version) : List AV := [.int .i64 v.key, .int .i64 v.by_, .int .i64 v.value]

structure Effect where
  done : Bool
  reads : List Entry
  writes : List Entry
deriving DecidableEq, Inhabited
def encF (n1 n2 : Option Bool) (e : Effect) : List AV := [.bool e.done, .sl n1 (rows encE e.reads), .sl n2 (rows encE e.writes)]

structure Slot where
  stage : Int
  tries : Int
  fr : List Int
  res : Effect
deriving DecidableEq, Inhabited
def encS (n1 n2 n3 : Option Bool) (s : Slot) : List AV := [.int .i64 s.stage, .int .i64 s.tries, .sl n1 (rows encI s.fr), .bool s.res.done, .sl n2 (rows encE s.res.reads), .sl n3 (rows encE s.res.writes)]
def encS1 (s : Slot) : List AV := encS none none none s

structure Engine where
  base : List Entry
  list : List Action
  versions : List Version
  slots : List Slot
deriving DecidableEq, Inhabited
def encG (n1 n2 n3 n4 : Option Bool) (e : Engine) : List AV := [.sl n1 (rows encE e.base), .sl n2 (rows encA e.list), .sl n3 (rows encR e.versions), .sl n4 (rows encS1 e.slots)]
def encGO (e : Engine) : List AV := [.osl true 2 (rows encE e.base), .osl true 4 (rows encA e.list), .osl true 3 (rows encR e.versions), .osl true 6 (rows encS1 e.slots)]
def encGF (e : Engine) : List AV := [.osl false 2 (rows encE e.base), .osl false 4 (rows encA e.list), .osl false 3 (rows encR e.versions), .osl false 6 (rows encS1 e.slots)]

/-- The sizes of a slot's lists. -/
structure SlotSz (n : Nat) (s : Slot) : Prop where
  fr : s.fr.length < n
  reads : s.res.reads.length < n
  writes : s.res.writes.length < n
structure EngSz (n : Nat) (e : Engine) : Prop where
  base : e.base.length < n
  list : e.list.length < n
  versions : e.versions.length < n
  slots : e.slots.length < n
  each : ∀ s, s ∈ e.slots → SlotSz n s

section
variable {α : Type} (e : α → List AV)
theorem all_rows (p : AV → Bool) (h : ∀ x, (e x).all p = true) (xs : List α) : ((rows e xs).all fun r => r.all p) = true := by
  rw [List.all_eq_true]
  intro r hr
  obtain ⟨x, _, rfl⟩ := List.mem_map.1 hr
  exact h x
theorem sz0_rows (n : Nat) (h : ∀ x, (e x).length = n) (xs : List α) : xs.length = 0 ∨ ((rows e xs).getD 0 []).length = n := by
  cases xs with
  | nil => exact .inl rfl
  | cons x r => exact .inr (h x)
end

theorem c_impl_cloneEntries (n1 : Option Bool) (xs : List Entry) (hx : xs.length < 2 ^ 32) : Det Tryz.prog 190 [.sl n1 (rows encE xs)] (.osl false 2 (rows encE xs)) := by
  refine fspec_det tab_ok Tryz.call190 Tryz.func190 rfl 5 Tryz.ntmps190 (of_decide_eq_true rfl) fun B => codeK_sound tab_ok _ _ _ ?_
  have h1 := all_rows encE AV.flat (fun _ => rfl) xs
  have h2 := all_rows encE AV.one (fun _ => rfl) xs
  have h3 := sz0_rows encE 2 (fun _ => rfl) xs
  simp (config := { maxSteps := 4000000 }) only [go_sem, simprocAttr, ↓dnA, Tryz.f190, rows_length]
  repeat refine And.intro (by first | omega | (simp; done) | (simp; omega) | assumption) ?_
  omega

def slot0 : Slot := ⟨0, 0, [], ⟨false, [], []⟩⟩
/-- The engine in which nothing has been tried. -/
def engineOf (s : List Entry) (l : List Action) : Engine := if storeValid s && actionsValid l then ⟨s, l, [], List.replicate l.length slot0⟩ else ⟨[], [], [], []⟩

theorem slot0_rows (n : Nat) : List.replicate n (encS1 slot0) = rows encS1 (List.replicate n slot0) := rows_replicate _ _ _


end Go.Proofs.YtmibclbinebnjaaGreat

/- Worlds: new ones, their certificates, what is committed in them: plain. -/
set_option linter.unusedSimpArgs false
set_option linter.unusedVariables false
set_option maxRecDepth 20000
set_option maxHeartbeats 4000000
namespace Go.Proofs.YtmibclbinebnjaaGreat
open Go Go.RowKit

def noW : Wld := ⟨⟨[], [], []⟩, [], []⟩
noncomputable def worldOf (t : Tree) : Wld := if treeValid t then ⟨t, List.replicate 4 ⟨0, 0⟩, List.replicate t.blocks.length 0⟩ else noW
def encWF (w : Wld) : List AV :=
  [.osl false 2 (rows encE w.tree.base), .osl false 6 (rows encB1 w.tree.blocks), .osl false 1 (rows encI w.tree.before), .osl false 2 (rows encV w.voters), .osl false 1 (rows encI w.votes)]

theorem worldValid_parts {w : Wld} (h : worldValid w = true) : TreeOk w.tree ∧ w.voters.length = 4 ∧ (∀ v, v ∈ w.voters → voterOk v = true) ∧ w.votes.length = w.tree.blocks.length ∧ ∀ n, n ∈ w.votes → 0 ≤ n ∧ n ≤ 15 := by
  unfold worldValid at h
  simp only [Bool.and_eq_true, decide_eq_true_eq, List.all_eq_true] at h
  exact ⟨treeOk_of h.1.1.1.1, h.1.1.1.2, h.1.1.2, h.1.2, fun n hn => inB_iff.1 (h.2 n hn)⟩

/-! Valid trees and worlds are small. -/
theorem tb_ent {lo : Int} : ∀ {s : List Entry} {last : Int}, -1 ≤ last → entOk lo last s = true → s = [] ∨ (s.length : Int) ≤ 31 - last
  | [], _, _, _ => .inl rfl
  | e :: r, last, hl, h => by
    simp only [entOk, Bool.and_eq_true, inB_iff] at h
    obtain ⟨⟨h1, h2⟩, h3⟩ := h
    rcases tb_ent (by omega) h3 with e1 | e1
    · subst e1; right; simp only [List.length_cons, List.length_nil]; omega
    · right; rw [List.length_cons]; omega
theorem tb_store {s : List Entry} (h : storeValid s = true) : s.length ≤ 32 := by
  rcases tb_ent (by omega) h with e | e
  · subst e; simp
  · omega
theorem tb_list {b : Block} (h : blockValid b = true) : b.list.length ≤ 10 := by
  unfold blockValid at h
  simp only [Bool.and_eq_true] at h
  obtain ⟨⟨⟨⟨⟨_, _⟩, _⟩, _⟩, _⟩, h6⟩ := h
  unfold actionsValid at h6
  rw [Bool.and_eq_true] at h6
  exact of_decide_eq_true h6.1
theorem tb_lsum : ∀ (bs : List Block), (∀ b, b ∈ bs → b.list.length ≤ 10) → lsum bs ≤ 10 * bs.length
  | [], _ => Nat.le_refl _
  | b :: r, h => by
    have h1 := h b (List.mem_cons_self ..)
    have h2 := tb_lsum r fun c hc => h c (List.mem_cons_of_mem _ hc)
    unfold lsum
    rw [List.length_cons]
    omega
theorem treeOk_tsz {t : Tree} (ht : TreeOk t) : tsz t ≤ 200 := by
  have h1 := tb_store ht.store
  have h2 := ht.len
  have h3 := ht.bef
  have h4 := tb_lsum t.blocks fun b hb => by
    obtain ⟨i, hi, rfl⟩ := List.getElem_of_mem hb
    rw [t.blk_get i hi]
    exact tb_list (ht.valid i hi)
  unfold tsz; omega
theorem tb_s32 {t : Tree} (ht : TreeOk t) : TreeS32 t := ⟨by have := treeOk_tsz ht; omega⟩
theorem worldOk_wsz {w : Wld} (h : worldValid w = true) : wsz w ≤ 218 := by
  obtain ⟨ht, h4, _, hl, _⟩ := worldValid_parts h
  have h1 := treeOk_tsz ht
  have h2 := ht.len
  unfold wsz; omega
theorem worldOk_s32 {w : Wld} (h : worldValid w = true) : WldS32 w := ⟨by have := worldOk_wsz h; omega⟩

/-- The certificate of the block k. -/
def certAt (w : Wld) (k : Nat) : Cert := ⟨blockSum (w.tree.blk k), (w.tree.blk k).view, w.votes.getD k 0⟩
/-- The certificates of the first k blocks. -/
def certsTo (w : Wld) : Nat → List Cert
  | 0 => []
  | k + 1 => if 0 < k ∧ 0 < w.votes.getD k 0 then certsTo w k ++ [certAt w k] else certsTo w k
noncomputable def worldCerts (w : Wld) : List Cert := if worldValid w then certsTo w w.votes.length else []

theorem certsTo_len (w : Wld) : ∀ k, (certsTo w k).length ≤ k - 1
  | 0 => by simp [certsTo]
  | k + 1 => by
    have := certsTo_len w k
    unfold certsTo
    split
    · rename_i h
      simp; omega
    · omega

noncomputable def headW (w : Wld) : Int := committedTo w.tree (certsTo w w.votes.length)
noncomputable def worldHead (w : Wld) : Int := if worldValid w then headW w else -1

theorem headW_bd {w : Wld} (h : worldValid w = true) : 0 ≤ headW w ∧ headW w < w.tree.blocks.length := by
  obtain ⟨ht, h4, hv, hl, hs⟩ := worldValid_parts h
  have hlen := ht.len
  have hc := certsTo_len w w.votes.length
  obtain ⟨e1, e2⟩ := certified_ne (treeValid_true ht) (cs := certsTo w w.votes.length) (by omega)
  unfold headW committedTo
  rw [if_neg e2]
  exact bestF_bd w.tree w.tree.blocks.length _ 0 (headsL_bd _ _) (by omega)

/-- The actions of the blocks of a way. -/
def actsOf (t : Tree) (p : List Int) : List Action := p.flatMap fun n => (t.blk n.toNat).list
noncomputable def worldActions (w : Wld) : List Action := if worldValid w then actsOf w.tree (pathL w.tree (headW w)) else []

theorem actsOf_take (t : Tree) (p : List Int) (i : Nat) (h : i < p.length) : actsOf t (p.take (i + 1)) = actsOf t (p.take i) ++ (t.blk p[i].toNat).list := by
  unfold actsOf
  rw [take_snoc _ _ h, List.flatMap_append]
  simp

end Go.Proofs.YtmibclbinebnjaaGreat

/- Contracts: certificates and heads of worlds. -/
set_option linter.unusedSimpArgs false
set_option linter.unusedVariables false
set_option maxRecDepth 20000
set_option maxHeartbeats 4000000
namespace Go.Proofs.YtmibclbinebnjaaGreat
open Go Go.RowKit

theorem certsTo_yes {w : Wld} {k : Nat} (h : 0 < k ∧ 0 < w.votes.getD k 0) : certsTo w (k + 1) = certsTo w k ++ [certAt w k] := by
  conv => lhs; unfold certsTo
  rw [if_pos h]
theorem certsTo_no {w : Wld} {k : Nat} (h : ¬ (0 < k ∧ 0 < w.votes.getD k 0)) : certsTo w (k + 1) = certsTo w k := by
  conv => lhs; unfold certsTo
  rw [if_neg h]
theorem worldCerts_yes {w : Wld} (h : worldValid w = true) : worldCerts w = certsTo w w.votes.length := by unfold worldCerts; rw [if_pos h]
theorem worldCerts_no {w : Wld} (h : worldValid w = false) : worldCerts w = [] := by unfold worldCerts; rw [h]; rfl
theorem worldCerts_len (w : Wld) : (worldCerts w).length ≤ w.votes.length := by
  cases h : worldValid w with
  | false => rw [worldCerts_no h]; simp
  | true => rw [worldCerts_yes h]; have := certsTo_len w w.votes.length; omega

theorem c_impl_certs (n1 n2 n3 n4 n5 : Option Bool) (w : Wld) (hx : WldSz w) (hv : worldValid w = true) :
    Det Tryz.prog 120 [.agg (encW n1 n2 n3 n4 n5 w)] (.osl false 3 (rows encC (certsTo w w.votes.length))) := by
  refine fspec_det tab_ok Tryz.call120 Tryz.func120 rfl 38 Tryz.ntmps120 (of_decide_eq_true rfl) fun B => codeK_sound tab_ok _ _ _ ?_
  obtain ⟨ht, h4, hvo, hvl, hvs⟩ := worldValid_parts hv
  have hlen := ht.len
  have hvt := hx.votes
  simp (config := { maxSteps := 4000000 }) only [go_sem, simprocAttr, ↓dnA, Tryz.f120, rows_length, encW]
  refine semL_nilA 3 3 3 true (by rfl) (by rfl) (by decide) (by decide) ?_
  refine semL_for tab_ok (fun i : Nat => ⟨38, [(1, .loc 1 0), (3, .row 3 (certsTo w i).length), (8, .sl n5 (rows encI w.votes)), (9, .int .i64 w.votes.length), (10, .int .i64 i)],
      [(1, .var (encW n1 n2 n3 n4 n5 w)), (3, .row true false 3 (rows encC (certsTo w i)))]⟩) (fun i => w.votes.length - i)
    (fun i => i ≤ w.votes.length) 0 [(1, 1), (3, 3)] (Weak.of (by rfl) ?_ ?_ (by rfl)) (by omega) ?_
  · simp (config := { maxSteps := 4000000 }) only [go_sem, simprocAttr, ↓dnA, Tryz.f120, rows_length, encW, frW, wk2, wk1, wkL, wkB, hpW, List.mem_cons, Prod.mk.injEq, exists_eq_left, exists_eq_right, exists_eq]
    try rfl
  · simp (config := { maxSteps := 4000000 }) only [go_sem, simprocAttr, ↓dnA, Tryz.f120, rows_length, nc0, certsTo, List.length_nil, frW, wk2, wk1, wkL, wkB, hpW, List.mem_cons, Prod.mk.injEq, exists_eq_left, exists_eq_right, exists_eq]
  · rintro i hi
    by_cases h : i < w.votes.length
    · have hw : IntKind.i64.wrap ((i : Int) + 1) = ((i + 1 : Nat) : Int) := wsucc h (by omega)
      have hgi : w.votes.getD i 0 = w.votes[i] := by rw [List.getD_eq_getElem?_getD, List.getElem?_eq_getElem h]; rfl
      have hac := certsTo_len w i
      have htk := take_rows encC (certsTo w i) (certsTo w i).length rfl
      by_cases hi0 : i = 0
      · have hd : decide ((i : Int) > 0) = false := by simp; omega
        have hst := certsTo_no (w := w) (k := i) (fun e => by omega)
        simp (config := { maxSteps := 4000000 }) only [go_sem, simprocAttr, ↓dnA, Tryz.f120, rows_length, encW, nlt h, h, nn0, rows_get _ _ _ h, encI, hd, hw]
        refine ⟨i + 1, [(1, 1), (3, 3)], by omega, by dsimp only; omega, Weak.of (by rfl) ?_ ?_ (by rfl)⟩
        · simp (config := { maxSteps := 4000000 }) only [go_sem, simprocAttr, ↓dnA, Tryz.f120, rows_length, encW, hst, frW, wk2, wk1, wkL, wkB, hpW, List.mem_cons, Prod.mk.injEq, exists_eq_left, exists_eq_right, exists_eq]
        · simp (config := { maxSteps := 4000000 }) only [go_sem, simprocAttr, ↓dnA, Tryz.f120, rows_length, hst, frW, wk2, wk1, wkL, wkB, hpW, List.mem_cons, Prod.mk.injEq, exists_eq_left, exists_eq_right, exists_eq]
      · have hd : decide ((i : Int) > 0) = true := by simp; omega
        by_cases hp : 0 < w.votes[i]
        · have hd2 : decide (w.votes[i] > 0) = true := decide_eq_true hp
          have hst := certsTo_yes (w := w) (k := i) ⟨by omega, by rw [hgi]; exact hp⟩
          have hil : i < w.tree.blocks.length := by omega
          have g1 := rows_gd encB1 w.tree.blocks i hil
          have hbl : (w.tree.blk i).list.length < 2 ^ 62 := by
            have := hx.tree.list _ (List.getElem_mem hil)
            rw [w.tree.blk_get i hil] at this
            exact this
          simp (config := { maxSteps := 4000000 }) only [go_sem, simprocAttr, ↓dnA, Tryz.f120, rows_length, encW, nlt h, h, nn0, rows_get _ _ _ h, encI, hd, hd2, nlt hil, hil, g1, encB1, encBk]
          refine semL_drawL tab_ok 9 mixed_ rfl (ord := [(0, []), (1, []), (3, []), (4, []), (5, []), (2, [0, 3, 4, 5]), (6, []), (7, [0]), (8, [])]) (by dsimp only; decide +kernel) ?_
          simp (config := { maxSteps := 4000000 }) only [go_sem, simprocAttr, ↓dnA, Tryz.f120, rows_length, encW, nlt h, h, nn0, rows_get _ _ _ h, encI, hd, hd2, nlt hil, hil, g1, encB1, encBk]
          refine CallTo.det (c_impl_BlockSum none (w.tree.blk i) hbl) fun _ => ?_
          simp (config := { maxSteps := 4000000 }) only [go_sem, simprocAttr, ↓dnA, Tryz.f120, rows_length, encW, nlt h, h, nn0, rows_get _ _ _ h, encI, hd, hd2, nlt hil, hil, g1, encB1, encBk, htk, hw]
          repeat refine And.intro (by first | omega | (simp; done) | (simp; omega) | assumption) ?_
          refine ⟨i + 1, [(1, 1), (35, 3)], by omega, by dsimp only; omega, Weak.of (by rfl) ?_ ?_ (by rfl)⟩
          · simp (config := { maxSteps := 4000000 }) only [go_sem, simprocAttr, ↓dnA, Tryz.f120, rows_length, encW, hst, frW, wk2, wk1, wkL, wkB, hpW, List.mem_cons, Prod.mk.injEq, exists_eq_left, exists_eq_right, exists_eq]
            rw [← rows_snoc]
            unfold certAt encC
            rw [hgi]
            rfl
          · simp (config := { maxSteps := 4000000 }) only [go_sem, simprocAttr, ↓dnA, Tryz.f120, rows_length, hst, List.length_append, frW, wk2, wk1, wkL, wkB, hpW, List.mem_cons, Prod.mk.injEq, exists_eq_left, exists_eq_right, exists_eq]
            try rfl
        · have hd2 : decide (w.votes[i] > 0) = false := decide_eq_false hp
          have hst := certsTo_no (w := w) (k := i) (fun e => hp (by rw [← hgi]; exact e.2))
          simp (config := { maxSteps := 4000000 }) only [go_sem, simprocAttr, ↓dnA, Tryz.f120, rows_length, encW, nlt h, h, nn0, rows_get _ _ _ h, encI, hd, hd2, hw]
          refine ⟨i + 1, [(1, 1), (3, 3)], by omega, by dsimp only; omega, Weak.of (by rfl) ?_ ?_ (by rfl)⟩
          · simp (config := { maxSteps := 4000000 }) only [go_sem, simprocAttr, ↓dnA, Tryz.f120, rows_length, encW, hst, frW, wk2, wk1, wkL, wkB, hpW, List.mem_cons, Prod.mk.injEq, exists_eq_left, exists_eq_right, exists_eq]
          · simp (config := { maxSteps := 4000000 }) only [go_sem, simprocAttr, ↓dnA, Tryz.f120, rows_length, hst, frW, wk2, wk1, wkL, wkB, hpW, List.mem_cons, Prod.mk.injEq, exists_eq_left, exists_eq_right, exists_eq]
    · have hi' : i = w.votes.length := by omega
      subst hi'
      simp (config := { maxSteps := 4000000 }) only [go_sem, simprocAttr, ↓dnA, Tryz.f120, rows_length, nlf h]

theorem c_impl_WorldCerts (n1 n2 n3 n4 n5 : Option Bool) (w : Wld) (hx : WldSz w) :
    Det Tryz.prog 41 [.agg (encW n1 n2 n3 n4 n5 w)] (.osl false 3 (rows encC (worldCerts w))) := by
  refine fspec_det tab_ok Tryz.call41 Tryz.func41 rfl 8 Tryz.ntmps41 (of_decide_eq_true rfl) fun B => codeK_sound tab_ok _ _ _ ?_
  simp (config := { maxSteps := 4000000 }) only [go_sem, simprocAttr, ↓dnA, Tryz.f41, rows_length, encW]
  refine CallTo.det (c_impl_WorldValid n1 n2 n3 n4 n5 w hx) fun _ => ?_
  cases h0 : worldValid w with
  | false => simp (config := { maxSteps := 4000000 }) only [go_sem, simprocAttr, ↓dnA, Tryz.f41, rows_length, encW, h0, worldCerts_no h0, rows_nil]
  | true =>
    simp (config := { maxSteps := 4000000 }) only [go_sem, simprocAttr, ↓dnA, Tryz.f41, rows_length, encW, h0]
    refine CallTo.det (c_impl_certs n1 n2 n3 n4 n5 w hx h0) fun _ => ?_
    simp (config := { maxSteps := 4000000 }) only [go_sem, simprocAttr, ↓dnA, Tryz.f41, rows_length, encW, h0, worldCerts_yes h0]

theorem c_spec_WorldCerts (n1 n2 n3 n4 n5 : Option Bool) (w : Wld) (hx : WldSz w) :
    Det Tryz.prog 42 [.agg (encW n1 n2 n3 n4 n5 w)] (.osl true 3 (rows encC (worldCerts w))) := by
  refine fspec_det tab_ok Tryz.call42 Tryz.func42 rfl 47 Tryz.ntmps42 (of_decide_eq_true rfl) fun B => codeK_sound tab_ok _ _ _ ?_
  have hvt := hx.votes
  cases h0 : worldValid w with
  | false =>
    rw [worldCerts_no h0]
    simp (config := { maxSteps := 4000000 }) only [go_sem, simprocAttr, ↓dnA, Tryz.f42, rows_length, encW]
    refine semL_for tab_ok (fun _ : Nat => ⟨47, [(1, .loc 1 0), (3, .row 600 0), (4, .int .i64 1)], [(1, .var (encW n1 n2 n3 n4 n5 w)), (600, .row true true 3 [])]⟩) (fun i => i) (fun _ => True) 0 [(1, 1), (5, 600)] (Weak.of (by rfl) ?_ ?_ (by rfl)) trivial ?_
    · simp (config := { maxSteps := 4000000 }) only [go_sem, simprocAttr, ↓dnA, Tryz.f42, rows_length, encW, frW, wk2, wk1, wkL, wkB, hpW, List.mem_cons, Prod.mk.injEq, exists_eq_left, exists_eq_right, exists_eq]
      try rfl
    · simp (config := { maxSteps := 4000000 }) only [go_sem, simprocAttr, ↓dnA, Tryz.f42, rows_length, frW, wk2, wk1, wkL, wkB, hpW, List.mem_cons, Prod.mk.injEq, exists_eq_left, exists_eq_right, exists_eq]
    · rintro i -
      by_cases h : (1 : Int) < (w.votes.length : Int)
      · simp (config := { maxSteps := 4000000 }) only [go_sem, simprocAttr, ↓dnA, Tryz.f42, rows_length, encW, decide_eq_true h]
        refine CallTo.det (c_spec_WorldValid n1 n2 n3 n4 n5 w hx) fun _ => ?_
        simp (config := { maxSteps := 4000000 }) only [go_sem, simprocAttr, ↓dnA, Tryz.f42, rows_length, encW, decide_eq_true h, h0, rows_nil, List.length_nil]
      · simp (config := { maxSteps := 4000000 }) only [go_sem, simprocAttr, ↓dnA, Tryz.f42, rows_length, encW, decide_eq_false h, rows_nil, List.length_nil]
  | true =>
    rw [worldCerts_yes h0]
    obtain ⟨ht, h4, hvo, hvl, hvs⟩ := worldValid_parts h0
    have hlen := ht.len
    have hc1 : certsTo w 1 = [] := certsTo_no (w := w) (k := 0) (fun e => by omega)
    simp (config := { maxSteps := 4000000 }) only [go_sem, simprocAttr, ↓dnA, Tryz.f42, rows_length, encW]
    refine semL_for tab_ok (fun i : Nat => ⟨47, [(1, .loc 1 0), (3, .row 600 (certsTo w i).length), (4, .int .i64 i)],
        [(1, .var (encW n1 n2 n3 n4 n5 w)), (600, .row true true 3 (rows encC (certsTo w i)))]⟩) (fun i => w.votes.length - i)
      (fun i => 1 ≤ i ∧ i ≤ w.votes.length) 1 [(1, 1), (5, 600)] (Weak.of (by rfl) ?_ ?_ (by rfl)) (by omega) ?_
    · simp (config := { maxSteps := 4000000 }) only [go_sem, simprocAttr, ↓dnA, Tryz.f42, rows_length, encW, hc1, frW, wk2, wk1, wkL, wkB, hpW, List.mem_cons, Prod.mk.injEq, exists_eq_left, exists_eq_right, exists_eq]
      try rfl
    · simp (config := { maxSteps := 4000000 }) only [go_sem, simprocAttr, ↓dnA, Tryz.f42, rows_length, hc1, List.length_nil, frW, wk2, wk1, wkL, wkB, hpW, List.mem_cons, Prod.mk.injEq, exists_eq_left, exists_eq_right, exists_eq]
      try rfl
    · rintro i ⟨hi1, hi⟩
      by_cases h : i < w.votes.length
      · have hw : IntKind.i64.wrap ((i : Int) + 1) = ((i + 1 : Nat) : Int) := wsucc h (by omega)
        have hgi : w.votes.getD i 0 = w.votes[i] := by rw [List.getD_eq_getElem?_getD, List.getElem?_eq_getElem h]; rfl
        have hac := certsTo_len w i
        have htk := take_rows encC (certsTo w i) (certsTo w i).length rfl
        have hd0 : decide ((i : Int) < (w.votes.length : Int)) = true := by simp; omega
        simp (config := { maxSteps := 4000000 }) only [go_sem, simprocAttr, ↓dnA, Tryz.f42, rows_length, encW, hd0]
        refine CallTo.det (c_spec_WorldValid n1 n2 n3 n4 n5 w hx) fun _ => ?_
        by_cases hp : 0 < w.votes[i]
        · have hd2 : decide (w.votes[i] > 0) = true := decide_eq_true hp
          have hst := certsTo_yes (w := w) (k := i) ⟨by omega, by rw [hgi]; exact hp⟩
          have hil : i < w.tree.blocks.length := by omega
          have g1 := rows_gd encB1 w.tree.blocks i hil
          have hbl : (w.tree.blk i).list.length < 2 ^ 62 := by
            have := hx.tree.list _ (List.getElem_mem hil)
            rw [w.tree.blk_get i hil] at this
            exact this
          simp (config := { maxSteps := 4000000 }) only [go_sem, simprocAttr, ↓dnA, Tryz.f42, rows_length, encW, hd0, h0, nlt h, h, nn0, rows_get _ _ _ h, encI, hd2]
          refine semL_drawL tab_ok 23 mixed_ rfl (ord := [(0, []), (1, []), (2, []), (3, []), (4, []), (5, []), (6, []), (8, []), (9, []), (10, []), (11, []), (12, []), (13, []), (14, []), (15, []), (16, []), (17, []), (18, []), (19, []), (7, [0, 8, 9, 10, 11, 12, 13, 14, 15, 16, 17, 18, 19]), (20, []), (21, [0]), (22, [])]) (by dsimp only; decide +kernel) ?_
          simp (config := { maxSteps := 4000000 }) only [go_sem, simprocAttr, ↓dnA, Tryz.f42, rows_length, encW, hd0, h0, nlt h, h, nn0, rows_get _ _ _ h, encI, hd2, nlt hil, hil, g1, encB1, encBk]
          refine CallTo.det (c_spec_BlockSum none (w.tree.blk i) hbl) fun _ => ?_
          simp (config := { maxSteps := 4000000 }) only [go_sem, simprocAttr, ↓dnA, Tryz.f42, rows_length, encW, hd0, h0, nlt h, h, nn0, rows_get _ _ _ h, encI, hd2, nlt hil, hil, g1, encB1, encBk, htk, hw]
          repeat refine And.intro (by first | omega | (simp; done) | (simp; omega) | assumption) ?_
          refine ⟨i + 1, [(1, 1), (45, 600)], by omega, by dsimp only; omega, Weak.of (by rfl) ?_ ?_ (by rfl)⟩
          · simp (config := { maxSteps := 4000000 }) only [go_sem, simprocAttr, ↓dnA, Tryz.f42, rows_length, encW, hst, frW, wk2, wk1, wkL, wkB, hpW, List.mem_cons, Prod.mk.injEq, exists_eq_left, exists_eq_right, exists_eq]
            rw [← rows_snoc]
            unfold certAt encC
            rw [hgi]
            rfl
          · simp (config := { maxSteps := 4000000 }) only [go_sem, simprocAttr, ↓dnA, Tryz.f42, rows_length, hst, List.length_append, frW, wk2, wk1, wkL, wkB, hpW, List.mem_cons, Prod.mk.injEq, exists_eq_left, exists_eq_right, exists_eq]
            try rfl
        · have hd2 : decide (w.votes[i] > 0) = false := decide_eq_false hp
          have hst := certsTo_no (w := w) (k := i) (fun e => hp (by rw [← hgi]; exact e.2))
          simp (config := { maxSteps := 4000000 }) only [go_sem, simprocAttr, ↓dnA, Tryz.f42, rows_length, encW, hd0, h0, nlt h, h, nn0, rows_get _ _ _ h, encI, hd2, hw]
          refine ⟨i + 1, [(1, 1), (600, 600)], by omega, by dsimp only; omega, Weak.of (by rfl) ?_ ?_ (by rfl)⟩
          · simp (config := { maxSteps := 4000000 }) only [go_sem, simprocAttr, ↓dnA, Tryz.f42, rows_length, encW, hst, frW, wk2, wk1, wkL, wkB, hpW, List.mem_cons, Prod.mk.injEq, exists_eq_left, exists_eq_right, exists_eq]
          · simp (config := { maxSteps := 4000000 }) only [go_sem, simprocAttr, ↓dnA, Tryz.f42, rows_length, hst, frW, wk2, wk1, wkL, wkB, hpW, List.mem_cons, Prod.mk.injEq, exists_eq_left, exists_eq_right, exists_eq]
      · have hi' : i = w.votes.length := by omega
        subst hi'
        have hd0 : decide ((w.votes.length : Int) < (w.votes.length : Int)) = false := by simp
        simp (config := { maxSteps := 4000000 }) only [go_sem, simprocAttr, ↓dnA, Tryz.f42, rows_length, encW, hd0]

theorem worldHead_yes {w : Wld} (h : worldValid w = true) : worldHead w = headW w := by unfold worldHead; rw [if_pos h]
theorem worldHead_no {w : Wld} (h : worldValid w = false) : worldHead w = -1 := by unfold worldHead; rw [h]; rfl

theorem c_impl_head (n1 n2 n3 n4 n5 : Option Bool) (w : Wld) (hx : WldSz w) (hv : worldValid w = true) :
    Det Tryz.prog 136 [.agg (encW n1 n2 n3 n4 n5 w)] (.int .i64 (headW w)) := by
  refine fspec_det tab_ok Tryz.call136 Tryz.func136 rfl 8 Tryz.ntmps136 (of_decide_eq_true rfl) fun B => codeK_sound tab_ok _ _ _ ?_
  have hcl := certsTo_len w w.votes.length
  have hvt := hx.votes
  unfold headW
  simp (config := { maxSteps := 4000000 }) only [go_sem, simprocAttr, ↓dnA, Tryz.f136, rows_length, encW]
  refine semL_draw tab_ok mixed_ rfl (ord := [(0, []), (1, []), (2, []), (3, [0, 1]), (4, []), (5, [])]) (by dsimp only; decide +kernel) ?_
  simp (config := { maxSteps := 4000000 }) only [go_sem, simprocAttr, ↓dnA, Tryz.f136, rows_length, encW]
  refine CallTo.det (c_impl_certs n1 n2 n3 n4 n5 w hx hv) fun _ => ?_
  simp (config := { maxSteps := 4000000 }) only [go_sem, simprocAttr, ↓dnA, Tryz.f136, rows_length, encW]
  refine CallTo.det (c_impl_CommittedTo n1 n2 n3 none w.tree (certsTo w w.votes.length) hx.tree) fun _ => ?_
  simp (config := { maxSteps := 4000000 }) only [go_sem, simprocAttr, ↓dnA, Tryz.f136, rows_length, encW]

theorem c_impl_WorldHead (n1 n2 n3 n4 n5 : Option Bool) (w : Wld) (hx : WldSz w) :
    Det Tryz.prog 66 [.agg (encW n1 n2 n3 n4 n5 w)] (.int .i64 (worldHead w)) := by
  refine fspec_det tab_ok Tryz.call66 Tryz.func66 rfl 8 Tryz.ntmps66 (of_decide_eq_true rfl) fun B => codeK_sound tab_ok _ _ _ ?_
  simp (config := { maxSteps := 4000000 }) only [go_sem, simprocAttr, ↓dnA, Tryz.f66, rows_length, encW]
  refine CallTo.det (c_impl_WorldValid n1 n2 n3 n4 n5 w hx) fun _ => ?_
  cases h0 : worldValid w with
  | false => simp (config := { maxSteps := 4000000 }) only [go_sem, simprocAttr, ↓dnA, Tryz.f66, rows_length, encW, h0, worldHead_no h0]
  | true =>
    simp (config := { maxSteps := 4000000 }) only [go_sem, simprocAttr, ↓dnA, Tryz.f66, rows_length, encW, h0]
    refine CallTo.det (c_impl_head n1 n2 n3 n4 n5 w hx h0) fun _ => ?_
    simp (config := { maxSteps := 4000000 }) only [go_sem, simprocAttr, ↓dnA, Tryz.f66, rows_length, encW, h0, worldHead_yes h0]

theorem c_spec_WorldHead (n1 n2 n3 n4 n5 : Option Bool) (w : Wld) (hx : WldSz w) :
    Det Tryz.prog 65 [.agg (encW n1 n2 n3 n4 n5 w)] (.int .i64 (worldHead w)) := by
  refine fspec_det tab_ok Tryz.call65 Tryz.func65 rfl 11 Tryz.ntmps65 (of_decide_eq_true rfl) fun B => codeK_sound tab_ok _ _ _ ?_
  have hcl := worldCerts_len w
  have hvt := hx.votes
  simp (config := { maxSteps := 4000000 }) only [go_sem, simprocAttr, ↓dnA, Tryz.f65, rows_length, encW]
  refine CallTo.det (c_spec_WorldValid n1 n2 n3 n4 n5 w hx) fun _ => ?_
  cases h0 : worldValid w with
  | false => simp (config := { maxSteps := 4000000 }) only [go_sem, simprocAttr, ↓dnA, Tryz.f65, rows_length, encW, h0, worldHead_no h0]
  | true =>
    have hh : worldHead w = committedTo w.tree (worldCerts w) := by rw [worldHead_yes h0, worldCerts_yes h0]; rfl
    rw [hh]
    simp (config := { maxSteps := 4000000 }) only [go_sem, simprocAttr, ↓dnA, Tryz.f65, rows_length, encW, h0]
    refine semL_draw tab_ok mixed_ rfl (ord := [(0, []), (1, []), (2, []), (3, [0, 1]), (4, []), (5, [])]) (by dsimp only; decide +kernel) ?_
    simp (config := { maxSteps := 4000000 }) only [go_sem, simprocAttr, ↓dnA, Tryz.f65, rows_length, encW, h0]
    refine CallTo.det (c_spec_WorldCerts n1 n2 n3 n4 n5 w hx) fun _ => ?_
    simp (config := { maxSteps := 4000000 }) only [go_sem, simprocAttr, ↓dnA, Tryz.f65, rows_length, encW, h0]
    refine CallTo.det (c_spec_CommittedTo n1 n2 n3 (some true) w.tree (worldCerts w) hx.tree) fun _ => ?_
    simp (config := { maxSteps := 4000000 }) only [go_sem, simprocAttr, ↓dnA, Tryz.f65, rows_length, encW, h0]

end Go.Proofs.YtmibclbinebnjaaGreat

/- Contracts: what is committed in a world: its actions, its store. -/
set_option linter.unusedSimpArgs false
set_option linter.unusedVariables false
set_option maxRecDepth 20000
set_option maxHeartbeats 4000000
namespace Go.Proofs.YtmibclbinebnjaaGreat
open Go Go.RowKit

theorem actsOf_len {t : Tree} (ht : TreeOk t) : ∀ (p : List Int), (∀ x, x ∈ p → 0 ≤ x ∧ x < t.blocks.length) → (actsOf t p).length ≤ 10 * p.length
  | [], _ => by simp [actsOf]
  | x :: p, h => by
    have hx := h x (List.mem_cons_self ..)
    have ih := actsOf_len ht p fun y hy => h y (List.mem_cons_of_mem _ hy)
    have hb := tb_list (ht.valid x.toNat (by omega))
    have e : actsOf t (x :: p) = (t.blk x.toNat).list ++ actsOf t p := by simp [actsOf]
    rw [e, List.length_append, List.length_cons]
    omega
theorem worldActions_yes {w : Wld} (h : worldValid w = true) : worldActions w = actsOf w.tree (pathL w.tree (headW w)) := by unfold worldActions; rw [if_pos h]
theorem worldActions_no {w : Wld} (h : worldValid w = false) : worldActions w = [] := by unfold worldActions; rw [h]; rfl
theorem worldActions_len (w : Wld) : (worldActions w).length ≤ 140 := by
  cases h : worldValid w with
  | false => rw [worldActions_no h]; simp
  | true =>
    have hb := headW_bd h
    have ht := (worldValid_parts h).1
    have hbd := pathL_bd ht hb.2
    have hpl := pathL_len ht hb.2
    rw [worldActions_yes h]
    have := actsOf_len ht (pathL w.tree (headW w)) fun x hx => by have := hbd x hx; omega
    omega
theorem rows_app {α : Type} (e : α → List AV) (xs ys : List α) : rows e xs ++ rows e ys = rows e (xs ++ ys) := by simp [rows]

theorem c_impl_WorldActions (n1 n2 n3 n4 n5 : Option Bool) (w : Wld) (hx : WldSz w) :
    Det Tryz.prog 68 [.agg (encW n1 n2 n3 n4 n5 w)] (.osl false 4 (rows encA (worldActions w))) := by
  refine fspec_det tab_ok Tryz.call68 Tryz.func68 rfl 30 Tryz.ntmps68 (of_decide_eq_true rfl) fun B => codeK_sound tab_ok _ _ _ ?_
  simp (config := { maxSteps := 4000000 }) only [go_sem, simprocAttr, ↓dnA, Tryz.f68, rows_length, encW]
  refine CallTo.det (c_impl_WorldValid n1 n2 n3 n4 n5 w hx) fun _ => ?_
  cases h0 : worldValid w with
  | false => simp (config := { maxSteps := 4000000 }) only [go_sem, simprocAttr, ↓dnA, Tryz.f68, rows_length, encW, h0, worldActions_no h0, rows_nil]
  | true =>
    have hb := headW_bd h0
    have ht := (worldValid_parts h0).1
    have hlen := ht.len
    have hbd := pathL_bd ht hb.2
    have hpl := pathL_len ht hb.2
    rw [worldActions_yes h0]
    simp (config := { maxSteps := 4000000 }) only [go_sem, simprocAttr, ↓dnA, Tryz.f68, rows_length, encW, h0]
    refine semL_draw tab_ok mixed_ rfl (ord := [(0, []), (1, []), (2, []), (6, []), (3, [0, 1, 6]), (4, [6]), (5, [])]) (by dsimp only; decide +kernel) ?_
    simp (config := { maxSteps := 4000000 }) only [go_sem, simprocAttr, ↓dnA, Tryz.f68, rows_length, encW, h0]
    refine CallTo.det (c_impl_head n1 n2 n3 n4 n5 w hx h0) fun _ => ?_
    simp (config := { maxSteps := 4000000 }) only [go_sem, simprocAttr, ↓dnA, Tryz.f68, rows_length, encW, h0]
    refine CallTo.det (c_impl_path n1 n2 n3 w.tree (headW w) ht hx.tree hb.2) fun _ => ?_
    have hbd' : ∀ x, x ∈ pathL w.tree (headW w) → 0 ≤ x ∧ x < w.tree.blocks.length := fun x h => by have := hbd x h; omega
    generalize pathL w.tree (headW w) = p at hbd' hpl
    simp (config := { maxSteps := 4000000 }) only [go_sem, simprocAttr, ↓dnA, Tryz.f68, rows_length, encW, h0]
    refine semL_nilA 3 3 4 true (by rfl) (by rfl) (by decide) (by decide) ?_
    refine semL_for tab_ok (fun i : Nat => ⟨30, [(1, .loc 1 0), (3, .row 3 (actsOf w.tree (p.take i)).length), (13, .row 14000 p.length), (14, .int .i64 p.length), (15, .int .i64 i)],
        [(1, .var (encW n1 n2 n3 n4 n5 w)), (3, .row true false 4 (rows encA (actsOf w.tree (p.take i)))), (14000, .row true false 1 (rows encI p))]⟩) (fun i => p.length - i)
      (fun i => i ≤ p.length) 0 [(1, 1), (3, 3), (14000, 14000)] (Weak.of (by rfl) ?_ ?_ (by rfl)) (by omega) ?_
    · simp (config := { maxSteps := 4000000 }) only [go_sem, simprocAttr, ↓dnA, Tryz.f68, rows_length, encW, frW, wk2, wk1, wkL, wkB, hpW, List.mem_cons, Prod.mk.injEq, exists_eq_left, exists_eq_right, exists_eq]
      try rfl
    · simp (config := { maxSteps := 4000000 }) only [go_sem, simprocAttr, ↓dnA, Tryz.f68, rows_length, encW, frW, wk2, wk1, wkL, wkB, hpW, List.mem_cons, Prod.mk.injEq, exists_eq_left, exists_eq_right, exists_eq]
      try rfl
    · rintro i hi
      have hal := actsOf_len ht (p.take i) fun x hx => hbd' x (List.mem_of_mem_take hx)
      rw [List.length_take] at hal
      by_cases h : i < p.length
      · have hw : IntKind.i64.wrap ((i : Int) + 1) = ((i + 1 : Nat) : Int) := wsucc h (by omega)
        have hst := actsOf_take w.tree p i h
        have hbx := hbd' _ (List.getElem_mem h)
        obtain ⟨k, hk⟩ : ∃ k : Nat, p[i] = (k : Int) := ⟨p[i].toNat, by omega⟩
        have hkl : k < w.tree.blocks.length := by omega
        have g1 : (rows encB1 w.tree.blocks).getD k [] = encB1 (w.tree.blk k) := rows_gd encB1 w.tree.blocks k hkl
        have hb10 := tb_list (ht.valid k hkl)
        rw [hk, Int.toNat_natCast] at hst
        generalize actsOf w.tree (p.take i) = acc at hal hst
        have htk := take_rows encA acc acc.length rfl
        have a1 := all_rows encA AV.flat (fun _ => rfl) (w.tree.blk k).list
        have a2 := all_rows encA AV.one (fun _ => rfl) (w.tree.blk k).list
        have a3 := sz0_rows encA 4 (fun _ => rfl) (w.tree.blk k).list
        simp (config := { maxSteps := 4000000 }) only [go_sem, simprocAttr, ↓dnA, Tryz.f68, rows_length, encW, h0, nlt h, h, nn0, rows_get _ _ _ h, encI, hk, nlt hkl, hkl, g1, encB1, encBk, htk, hw]
        repeat refine And.intro (by first | omega | (simp; done) | (simp; omega) | assumption) ?_
        refine ⟨i + 1, [(1, 1), (27, 3), (14000, 14000)], by omega, by dsimp only; omega, Weak.of (by rfl) ?_ ?_ (by rfl)⟩
        · simp (config := { maxSteps := 4000000 }) only [go_sem, simprocAttr, ↓dnA, Tryz.f68, rows_length, encW, hst, frW, wk2, wk1, wkL, wkB, hpW, List.mem_cons, Prod.mk.injEq, exists_eq_left, exists_eq_right, exists_eq]
          exact (rows_app _ _ _).symm
        · simp (config := { maxSteps := 4000000 }) only [go_sem, simprocAttr, ↓dnA, Tryz.f68, rows_length, encW, hst, List.length_append, frW, wk2, wk1, wkL, wkB, hpW, List.mem_cons, Prod.mk.injEq, exists_eq_left, exists_eq_right, exists_eq]
      · have hi' : i = p.length := by omega
        subst hi'
        simp (config := { maxSteps := 4000000 }) only [go_sem, simprocAttr, ↓dnA, Tryz.f68, rows_length, encW, nlf h, List.take_length]

theorem c_spec_WorldActions (n1 n2 n3 n4 n5 : Option Bool) (w : Wld) (hx : WldSz w) :
    Det Tryz.prog 67 [.agg (encW n1 n2 n3 n4 n5 w)] (.osl true 4 (rows encA (worldActions w))) := by
  refine fspec_det tab_ok Tryz.call67 Tryz.func67 rfl 35 Tryz.ntmps67 (of_decide_eq_true rfl) fun B => codeK_sound tab_ok _ _ _ ?_
  simp (config := { maxSteps := 4000000 }) only [go_sem, simprocAttr, ↓dnA, Tryz.f67, rows_length, encW]
  refine CallTo.det (c_spec_WorldValid n1 n2 n3 n4 n5 w hx) fun _ => ?_
  cases h0 : worldValid w with
  | false => simp (config := { maxSteps := 4000000 }) only [go_sem, simprocAttr, ↓dnA, Tryz.f67, rows_length, encW, h0, worldActions_no h0, rows_nil]
  | true =>
    have hb := headW_bd h0
    have ht := (worldValid_parts h0).1
    have hlen := ht.len
    have hbd := pathL_bd ht hb.2
    have hpl := pathL_len ht hb.2
    rw [worldActions_yes h0]
    simp (config := { maxSteps := 4000000 }) only [go_sem, simprocAttr, ↓dnA, Tryz.f67, rows_length, encW, h0]
    refine semL_draw tab_ok mixed_ rfl (ord := [(0, []), (1, []), (2, []), (3, [0, 1]), (4, []), (5, [])]) (by dsimp only; decide +kernel) ?_
    simp (config := { maxSteps := 4000000 }) only [go_sem, simprocAttr, ↓dnA, Tryz.f67, rows_length, encW, h0]
    refine CallTo.det (c_spec_WorldHead n1 n2 n3 n4 n5 w hx) fun _ => ?_
    rw [worldHead_yes h0]
    simp (config := { maxSteps := 4000000 }) only [go_sem, simprocAttr, ↓dnA, Tryz.f67, rows_length, encW, h0]
    refine CallTo.det (c_spec_PathTo n1 n2 n3 w.tree (headW w) hx.tree) fun _ => ?_
    rw [pathTo_in (treeValid_true ht) hb.1 hb.2]
    have hbd' : ∀ x, x ∈ pathL w.tree (headW w) → 0 ≤ x ∧ x < w.tree.blocks.length := fun x h => by have := hbd x h; omega
    generalize pathL w.tree (headW w) = p at hbd' hpl
    simp (config := { maxSteps := 4000000 }) only [go_sem, simprocAttr, ↓dnA, Tryz.f67, rows_length, encW, h0]
    refine semL_for tab_ok (fun i : Nat => ⟨35, [(1, .loc 1 0), (3, .row 600 (actsOf w.tree (p.take i)).length), (4, .row 16000 p.length), (5, .int .i64 i)],
        [(1, .var (encW n1 n2 n3 n4 n5 w)), (600, .row true true 4 (rows encA (actsOf w.tree (p.take i)))), (16000, .row true true 1 (rows encI p))]⟩) (fun i => p.length - i)
      (fun i => i ≤ p.length) 0 [(1, 1), (6, 600), (16000, 16000)] (Weak.of (by rfl) ?_ ?_ (by rfl)) (by omega) ?_
    · simp (config := { maxSteps := 4000000 }) only [go_sem, simprocAttr, ↓dnA, Tryz.f67, rows_length, encW, frW, wk2, wk1, wkL, wkB, hpW, List.mem_cons, Prod.mk.injEq, exists_eq_left, exists_eq_right, exists_eq]
      try rfl
    · simp (config := { maxSteps := 4000000 }) only [go_sem, simprocAttr, ↓dnA, Tryz.f67, rows_length, encW, frW, wk2, wk1, wkL, wkB, hpW, List.mem_cons, Prod.mk.injEq, exists_eq_left, exists_eq_right, exists_eq]
      try rfl
    · rintro i hi
      have hal := actsOf_len ht (p.take i) fun x hx => hbd' x (List.mem_of_mem_take hx)
      rw [List.length_take] at hal
      by_cases h : i < p.length
      · have hw : IntKind.i64.wrap ((i : Int) + 1) = ((i + 1 : Nat) : Int) := wsucc h (by omega)
        have hst := actsOf_take w.tree p i h
        have hbx := hbd' _ (List.getElem_mem h)
        obtain ⟨k, hk⟩ : ∃ k : Nat, p[i] = (k : Int) := ⟨p[i].toNat, by omega⟩
        have hkl : k < w.tree.blocks.length := by omega
        have g1 : (rows encB1 w.tree.blocks).getD k [] = encB1 (w.tree.blk k) := rows_gd encB1 w.tree.blocks k hkl
        have hb10 := tb_list (ht.valid k hkl)
        rw [hk, Int.toNat_natCast] at hst
        generalize actsOf w.tree (p.take i) = acc at hal hst
        have htk := take_rows encA acc acc.length rfl
        have a1 := all_rows encA AV.flat (fun _ => rfl) (w.tree.blk k).list
        have a2 := all_rows encA AV.one (fun _ => rfl) (w.tree.blk k).list
        have a3 := sz0_rows encA 4 (fun _ => rfl) (w.tree.blk k).list
        simp (config := { maxSteps := 4000000 }) only [go_sem, simprocAttr, ↓dnA, Tryz.f67, rows_length, encW, h0, nlt h, h, nn0]
        refine semL_drawL tab_ok 12 mixed_ rfl (ord := [(0, []), (1, []), (2, []), (3, []), (4, []), (5, []), (6, []), (7, []), (8, []), (9, []), (10, []), (11, [])]) (by dsimp only; decide +kernel) ?_
        simp (config := { maxSteps := 4000000 }) only [go_sem, simprocAttr, ↓dnA, Tryz.f67, rows_length, encW, h0, nlt h, h, nn0, rows_get _ _ _ h, encI, hk, nlt hkl, hkl, g1, encB1, encBk, htk, hw]
        repeat refine And.intro (by first | omega | (simp; done) | (simp; omega) | assumption) ?_
        refine ⟨i + 1, [(1, 1), (33, 600), (16000, 16000)], by omega, by dsimp only; omega, Weak.of (by rfl) ?_ ?_ (by rfl)⟩
        · simp (config := { maxSteps := 4000000 }) only [go_sem, simprocAttr, ↓dnA, Tryz.f67, rows_length, encW, hst, frW, wk2, wk1, wkL, wkB, hpW, List.mem_cons, Prod.mk.injEq, exists_eq_left, exists_eq_right, exists_eq]
          exact (rows_app _ _ _).symm
        · simp (config := { maxSteps := 4000000 }) only [go_sem, simprocAttr, ↓dnA, Tryz.f67, rows_length, encW, hst, List.length_append, frW, wk2, wk1, wkL, wkB, hpW, List.mem_cons, Prod.mk.injEq, exists_eq_left, exists_eq_right, exists_eq]
      · have hi' : i = p.length := by omega
        subst hi'
        simp (config := { maxSteps := 4000000 }) only [go_sem, simprocAttr, ↓dnA, Tryz.f67, rows_length, encW, nlf h, List.take_length]

end Go.Proofs.YtmibclbinebnjaaGreat

/- Contracts: FnExactWorldActions. -/
set_option linter.unusedSimpArgs false
set_option linter.unusedVariables false
set_option maxRecDepth 20000
set_option maxHeartbeats 4000000
namespace Go.Proofs.YtmibclbinebnjaaGreat
open Go Go.RowKit

theorem c_laws_FnExactWorldActions (n00 n01 n02 n03 n04 : Option Bool) (w : Wld) (hw : WldLen w) :
    Det Tryz.prog 14 [.agg (encW n00 n01 n02 n03 n04 w)] (.bool true) := by
  refine fspec_det tab_ok Tryz.call14 Tryz.func14 rfl 69 Tryz.ntmps14 (of_decide_eq_true rfl) fun B => codeK_sound tab_ok _ _ _ ?_
  have hle0 : (0 : Int) ≤ 1048576 ∧ (1048576 : Int) ≤ 1048576 := by omega
  obtain ⟨r0, hr0, hr0b, hT0, hE0⟩ := c_laws_szWorld n00 n01 n02 n03 n04 w 1048576 hw hle0
  simp (config := { maxSteps := 4000000 }) only [go_sem, simprocAttr, ↓dnA, Tryz.f14, encW, encWO, encT, encTO, List.nodup_cons, rows_length, markS_length]
  refine CallTo.det hr0 fun _ => ?_
  cases d0 : decide (r0 < 0) with
  | true => simp (config := { maxSteps := 4000000 }) only [go_sem, simprocAttr, ↓dnA, Tryz.f14, encW, encWO, encT, encTO, List.nodup_cons, rows_length, markS_length, d0]
  | false =>
  have d0' := of_decide_eq_false d0
  have hsw := hT0 (by omega)
  have hle1 : 0 ≤ r0 ∧ r0 ≤ 1048576 := by omega
  have hmw := stW_small hsw
  have hll : (worldActions w).length ≤ 1048576 := by
    have := worldActions_len w
    omega
  have hS := c_spec_WorldActions (some true) (some true) (some true) (some true) (some true) w hsw.sz
  have hN := c_impl_WorldActions (some true) (some true) (some true) (some true) (some true) w hsw.sz
  generalize worldActions w = g0 at hS hN hll
  have eg : decide (g0 = g0) = true := by simp
  have e0 := stepS_const stA 4 (fun _ => rfl) g0
  have dm : decide (1 + (stepS stA g0 : Int) < 0) = false := by simp; omega
  have dk : decide (1 + (stW w : Int) < 0) = false := by simp; omega
  have eww : decide (w = w) = true := by simp
  simp (config := { maxSteps := 4000000 }) only [go_sem, simprocAttr, ↓dnA, Tryz.f14, encW, encWO, encT, encTO, List.nodup_cons, rows_length, markS_length, d0, eg, dm, dk, eww]
  refine CallTo.det (c_laws_toWorld n00 n01 n02 n03 n04 w hsw) fun _ => ?_
  simp (config := { maxSteps := 4000000 }) only [go_sem, simprocAttr, ↓dnA, Tryz.f14, encW, encWO, encT, encTO, List.nodup_cons, rows_length, markS_length, d0, eg, dm, dk, eww]
  refine CallTo.det hS fun _ => ?_
  simp (config := { maxSteps := 4000000 }) only [go_sem, simprocAttr, ↓dnA, Tryz.f14, encW, encWO, encT, encTO, List.nodup_cons, rows_length, markS_length, d0, eg, dm, dk, eww]
  refine CallTo.det (c_laws_toWorld n00 n01 n02 n03 n04 w hsw) fun _ => ?_
  simp (config := { maxSteps := 4000000 }) only [go_sem, simprocAttr, ↓dnA, Tryz.f14, encW, encWO, encT, encTO, List.nodup_cons, rows_length, markS_length, d0, eg, dm, dk, eww]
  refine CallTo.det hN fun _ => ?_
  simp (config := { maxSteps := 4000000 }) only [go_sem, simprocAttr, ↓dnA, Tryz.f14, encW, encWO, encT, encTO, List.nodup_cons, rows_length, markS_length, d0, eg, dm, dk, eww]
  refine CallTo.det (c_laws_eqActionS _ _ g0 g0 (by omega) (by omega)) fun _ => ?_
  simp (config := { maxSteps := 4000000 }) only [go_sem, simprocAttr, ↓dnA, Tryz.f14, encW, encWO, encT, encTO, List.nodup_cons, rows_length, markS_length, d0, eg, dm, dk, eww]
  refine semL_draw tab_ok mixed_ rfl (ord := [(0, []), (1, []), (2, [0]), (3, []), (4, [])]) (by dsimp only; decide +kernel) ?_
  simp (config := { maxSteps := 4000000 }) only [go_sem, simprocAttr, ↓dnA, Tryz.f14, encW, encWO, encT, encTO, List.nodup_cons, rows_length, markS_length, d0, eg, dm, dk, eww]
  refine CallTo.det (c_laws_toWorld n00 n01 n02 n03 n04 w hsw) fun _ => ?_
  simp (config := { maxSteps := 4000000 }) only [go_sem, simprocAttr, ↓dnA, Tryz.f14, encW, encWO, encT, encTO, List.nodup_cons, rows_length, markS_length, d0, eg, dm, dk, eww]
  refine CallTo.det (c_laws_eqWorld _ _ _ _ _ _ _ _ _ _ w w hsw.sz hsw.sz) fun _ => ?_
  simp (config := { maxSteps := 4000000 }) only [go_sem, simprocAttr, ↓dnA, Tryz.f14, encW, encWO, encT, encTO, List.nodup_cons, rows_length, markS_length, d0, eg, dm, dk, eww]
  refine CallMTo.of (c_laws_markWorld true true true true true w _ hsw.sz ⟨by omega, by omega⟩) ?_
  rintro r ls' ⟨rfl, rfl⟩
  simp (config := { maxSteps := 4000000 }) only [go_sem, simprocAttr, ↓dnA, Tryz.f14, encW, encWO, encT, encTO, List.nodup_cons, rows_length, markS_length, d0, eg, dm, dk, eww]
  refine CallTo.det (c_laws_eqActionS _ _ g0 g0 (by omega) (by omega)) fun _ => ?_
  simp (config := { maxSteps := 4000000 }) only [go_sem, simprocAttr, ↓dnA, Tryz.f14, encW, encWO, encT, encTO, List.nodup_cons, rows_length, markS_length, d0, eg, dm, dk, eww]
  refine CallMTo.of (c_laws_markActionS false 4 g0 _ (.inr rfl) (by omega) ⟨by omega, by omega⟩) ?_
  rintro r ls' ⟨rfl, rfl⟩
  simp (config := { maxSteps := 4000000 }) only [go_sem, simprocAttr, ↓dnA, Tryz.f14, encW, encWO, encT, encTO, List.nodup_cons, rows_length, markS_length, d0, eg, dm, dk, eww]
  refine CallTo.det (c_laws_heldActionS _ g0 1 (by omega) ⟨by omega, by omega⟩) fun _ => ?_
  simp (config := { maxSteps := 4000000 }) only [go_sem, simprocAttr, ↓dnA, Tryz.f14, encW, encWO, encT, encTO, List.nodup_cons, rows_length, markS_length, d0, eg, dm, dk, eww]
  refine CallTo.det (c_laws_toWorld n00 n01 n02 n03 n04 w hsw) fun _ => ?_
  simp (config := { maxSteps := 4000000 }) only [go_sem, simprocAttr, ↓dnA, Tryz.f14, encW, encWO, encT, encTO, List.nodup_cons, rows_length, markS_length, d0, eg, dm, dk, eww]
  refine CallTo.det hN fun _ => ?_
  simp (config := { maxSteps := 4000000 }) only [go_sem, simprocAttr, ↓dnA, Tryz.f14, encW, encWO, encT, encTO, List.nodup_cons, rows_length, markS_length, d0, eg, dm, dk, eww]
  refine CallTo.det (c_laws_eqActionS _ _ g0 g0 (by omega) (by omega)) fun _ => ?_
  simp (config := { maxSteps := 4000000 }) only [go_sem, simprocAttr, ↓dnA, Tryz.f14, encW, encWO, encT, encTO, List.nodup_cons, rows_length, markS_length, d0, eg, dm, dk, eww]
  refine CallTo.det (c_laws_heldActionS _ g0 1 (by omega) ⟨by omega, by omega⟩) fun _ => ?_
  simp (config := { maxSteps := 4000000 }) only [go_sem, simprocAttr, ↓dnA, Tryz.f14, encW, encWO, encT, encTO, List.nodup_cons, rows_length, markS_length, d0, eg, dm, dk, eww]

end Go.Proofs.YtmibclbinebnjaaGreat

/- The closed facts of the row of FnExactWorldActions. -/
namespace Go.Proofs.YtmibclbinebnjaaGreat
open Go Go.ChangeShapes Go.WideShapes Go.ChangeAt Go.RowKit

theorem fnExactWorldActions_named : Tryz.pinned.checked.prog.funcNamed Rows.fnExactWorldActionsRow.func = some 14 := by kernel_rfl
theorem fnExactWorldActions_inst : Tryz.f14.isInstance Tryz.pinned.checked.prog Rows.fnExactWorldActionsRow.origin Rows.fnExactWorldActionsRow.targs := of_decide_eq_true (by kernel_rfl)
theorem fnExactWorldActions_wrap : Tryz.f14.isWrapper Tryz.pinned.checked.prog Rows.fnExactWorldActionsRow.wrapper Rows.fnExactWorldActionsRow.mainSum := by
  unfold Func.isWrapper; first | (rw [if_pos (by decide +kernel)]; kernel_rfl) | (rw [if_neg (by decide +kernel)]; exact ⟨rfl, rfl⟩)
set_option maxRecDepth 100000 in
set_option maxHeartbeats 4000000 in
theorem fnExactWorldActions_closed : joinedFacts Tryz.pinned.checked.prog 14 Tryz.f14 Rows.fnExactWorldActionsSpec Rows.fnExactWorldActionsRow = true := by
  unfold joinedFacts
  simp only [Bool.and_eq_true]
  repeat' apply And.intro
  all_goals first
    | with_reducible exact c_enter
    | (rw [c_final]; as_aux_lemma => kernel_rfl)
    | (rw [c_make]; as_aux_lemma => kernel_rfl)
    | (as_aux_lemma => kernel_rfl)

end Go.Proofs.YtmibclbinebnjaaGreat

