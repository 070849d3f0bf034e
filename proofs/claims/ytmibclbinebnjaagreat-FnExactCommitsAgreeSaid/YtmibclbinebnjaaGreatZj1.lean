/- FnExactCommitsAgree (part 1): C0, W84, C84 -/
import Derived.Test.YtmibclbinebnjaaGreatRows
import Derived.ProofKit
import Derived.Test.YtmibclbinebnjaaGreatR2

set_option linter.unusedSimpArgs false
set_option linter.unusedVariables false

/- The closed facts that hold of the program alone. -/
namespace Go.Proofs.YtmibclbinebnjaaGreat
open Go Go.ChangeShapes Go.WideShapes Go.ChangeAt Go.RowKit

/-- The letters of the translation's header. -/
def headL : List Char := [.ofNat 104, .ofNat 97, .ofNat 114, .ofNat 110, .ofNat 101, .ofNat 115, .ofNat 115, .ofNat 32, .ofNat 101, .ofNat 53, .ofNat 101, .ofNat 101, .ofNat 53, .ofNat 50, .ofNat 48, .ofNat 48, .ofNat 52, .ofNat 55, .ofNat 102, .ofNat 56, .ofNat 101, .ofNat 50, .ofNat 52, .ofNat 100, .ofNat 51, .ofNat 101, .ofNat 97, .ofNat 53, .ofNat 99, .ofNat 50, .ofNat 98, .ofNat 97, .ofNat 53, .ofNat 48, .ofNat 56, .ofNat 50, .ofNat 53, .ofNat 100, .ofNat 101, .ofNat 97, .ofNat 102, .ofNat 48, .ofNat 53, .ofNat 52, .ofNat 98, .ofNat 97, .ofNat 52, .ofNat 97, .ofNat 53, .ofNat 101, .ofNat 57, .ofNat 55, .ofNat 56, .ofNat 51, .ofNat 48, .ofNat 48, .ofNat 57, .ofNat 50, .ofNat 50, .ofNat 56, .ofNat 56, .ofNat 101, .ofNat 52, .ofNat 54, .ofNat 51, .ofNat 48, .ofNat 102, .ofNat 101, .ofNat 52, .ofNat 52, .ofNat 49, .ofNat 51, .ofNat 32, .ofNat 99, .ofNat 117, .ofNat 116, .ofNat 32, .ofNat 97, .ofNat 116, .ofNat 32, .ofNat 108, .ofNat 111, .ofNat 111, .ofNat 112, .ofNat 46, .ofNat 101, .ofNat 120, .ofNat 97, .ofNat 109, .ofNat 112, .ofNat 108, .ofNat 101, .ofNat 47, .ofNat 98, .ofNat 108, .ofNat 111, .ofNat 99, .ofNat 107, .ofNat 101, .ofNat 120, .ofNat 101, .ofNat 99, .ofNat 117, .ofNat 116, .ofNat 111, .ofNat 114, .ofNat 47, .ofNat 108, .ofNat 97, .ofNat 119, .ofNat 115, .ofNat 46, .ofNat 70, .ofNat 110, .ofNat 87, .ofNat 111, .ofNat 114, .ofNat 108, .ofNat 100, .ofNat 86, .ofNat 97, .ofNat 108, .ofNat 105, .ofNat 100, .ofNat 32, .ofNat 108, .ofNat 111, .ofNat 111, .ofNat 112, .ofNat 46, .ofNat 101, .ofNat 120, .ofNat 97, .ofNat 109, .ofNat 112, .ofNat 108, .ofNat 101, .ofNat 47, .ofNat 98, .ofNat 108, .ofNat 111, .ofNat 99, .ofNat 107, .ofNat 101, .ofNat 120, .ofNat 101, .ofNat 99, .ofNat 117, .ofNat 116, .ofNat 111, .ofNat 114, .ofNat 47, .ofNat 108, .ofNat 97, .ofNat 119, .ofNat 115, .ofNat 46, .ofNat 70, .ofNat 110, .ofNat 67, .ofNat 101, .ofNat 114, .ofNat 116, .ofNat 66, .ofNat 108, .ofNat 111, .ofNat 99, .ofNat 107, .ofNat 32, .ofNat 108, .ofNat 111, .ofNat 111, .ofNat 112, .ofNat 46, .ofNat 101, .ofNat 120, .ofNat 97, .ofNat 109, .ofNat 112, .ofNat 108, .ofNat 101, .ofNat 47, .ofNat 98, .ofNat 108, .ofNat 111, .ofNat 99, .ofNat 107, .ofNat 101, .ofNat 120, .ofNat 101, .ofNat 99, .ofNat 117, .ofNat 116, .ofNat 111, .ofNat 114, .ofNat 47, .ofNat 108, .ofNat 97, .ofNat 119, .ofNat 115, .ofNat 46, .ofNat 70, .ofNat 110, .ofNat 67, .ofNat 101, .ofNat 114, .ofNat 116, .ofNat 105, .ofNat 102, .ofNat 105, .ofNat 101, .ofNat 100, .ofNat 66, .ofNat 108, .ofNat 111, .ofNat 99, .ofNat 107, .ofNat 115, .ofNat 32, .ofNat 108, .ofNat 111, .ofNat 111, .ofNat 112, .ofNat 46, .ofNat 101, .ofNat 120, .ofNat 97, .ofNat 109, .ofNat 112, .ofNat 108, .ofNat 101, .ofNat 47, .ofNat 98, .ofNat 108, .ofNat 111, .ofNat 99, .ofNat 107, .ofNat 101, .ofNat 120, .ofNat 101, .ofNat 99, .ofNat 117, .ofNat 116, .ofNat 111, .ofNat 114, .ofNat 47, .ofNat 108, .ofNat 97, .ofNat 119, .ofNat 115, .ofNat 46, .ofNat 70, .ofNat 110, .ofNat 69, .ofNat 120, .ofNat 97, .ofNat 99, .ofNat 116, .ofNat 67, .ofNat 111, .ofNat 109, .ofNat 109, .ofNat 105, .ofNat 116, .ofNat 116, .ofNat 101, .ofNat 100, .ofNat 84, .ofNat 111, .ofNat 32, .ofNat 108, .ofNat 111, .ofNat 111, .ofNat 112, .ofNat 46, .ofNat 101, .ofNat 120, .ofNat 97, .ofNat 109, .ofNat 112, .ofNat 108, .ofNat 101, .ofNat 47, .ofNat 98, .ofNat 108, .ofNat 111, .ofNat 99, .ofNat 107, .ofNat 101, .ofNat 120, .ofNat 101, .ofNat 99, .ofNat 117, .ofNat 116, .ofNat 111, .ofNat 114, .ofNat 47, .ofNat 108, .ofNat 97, .ofNat 119, .ofNat 115, .ofNat 46, .ofNat 70, .ofNat 110, .ofNat 87, .ofNat 111, .ofNat 114, .ofNat 108, .ofNat 100, .ofNat 67, .ofNat 101, .ofNat 114, .ofNat 116, .ofNat 115, .ofNat 32, .ofNat 108, .ofNat 111, .ofNat 111, .ofNat 112, .ofNat 46, .ofNat 101, .ofNat 120, .ofNat 97, .ofNat 109, .ofNat 112, .ofNat 108, .ofNat 101, .ofNat 47, .ofNat 98, .ofNat 108, .ofNat 111, .ofNat 99, .ofNat 107, .ofNat 101, .ofNat 120, .ofNat 101, .ofNat 99, .ofNat 117, .ofNat 116, .ofNat 111, .ofNat 114, .ofNat 47, .ofNat 108, .ofNat 97, .ofNat 119, .ofNat 115, .ofNat 46, .ofNat 70, .ofNat 110, .ofNat 69, .ofNat 120, .ofNat 97, .ofNat 99, .ofNat 116, .ofNat 87, .ofNat 111, .ofNat 114, .ofNat 108, .ofNat 100, .ofNat 67, .ofNat 101, .ofNat 114, .ofNat 116, .ofNat 115, .ofNat 32, .ofNat 108, .ofNat 111, .ofNat 111, .ofNat 112, .ofNat 46, .ofNat 101, .ofNat 120, .ofNat 97, .ofNat 109, .ofNat 112, .ofNat 108, .ofNat 101, .ofNat 47, .ofNat 98, .ofNat 108, .ofNat 111, .ofNat 99, .ofNat 107, .ofNat 101, .ofNat 120, .ofNat 101, .ofNat 99, .ofNat 117, .ofNat 116, .ofNat 111, .ofNat 114, .ofNat 47, .ofNat 108, .ofNat 97, .ofNat 119, .ofNat 115, .ofNat 46, .ofNat 70, .ofNat 110, .ofNat 69, .ofNat 120, .ofNat 97, .ofNat 99, .ofNat 116, .ofNat 67, .ofNat 101, .ofNat 114, .ofNat 116, .ofNat 105, .ofNat 102, .ofNat 105, .ofNat 101, .ofNat 100, .ofNat 66, .ofNat 108, .ofNat 111, .ofNat 99, .ofNat 107, .ofNat 115, .ofNat 32, .ofNat 108, .ofNat 111, .ofNat 111, .ofNat 112, .ofNat 46, .ofNat 101, .ofNat 120, .ofNat 97, .ofNat 109, .ofNat 112, .ofNat 108, .ofNat 101, .ofNat 47, .ofNat 98, .ofNat 108, .ofNat 111, .ofNat 99, .ofNat 107, .ofNat 101, .ofNat 120, .ofNat 101, .ofNat 99, .ofNat 117, .ofNat 116, .ofNat 111, .ofNat 114, .ofNat 47, .ofNat 108, .ofNat 97, .ofNat 119, .ofNat 115, .ofNat 46, .ofNat 70, .ofNat 110, .ofNat 69, .ofNat 120, .ofNat 97, .ofNat 99, .ofNat 116, .ofNat 87, .ofNat 111, .ofNat 114, .ofNat 108, .ofNat 100, .ofNat 79, .ofNat 102, .ofNat 32, .ofNat 108, .ofNat 111, .ofNat 111, .ofNat 112, .ofNat 46, .ofNat 101, .ofNat 120, .ofNat 97, .ofNat 109, .ofNat 112, .ofNat 108, .ofNat 101, .ofNat 47, .ofNat 98, .ofNat 108, .ofNat 111, .ofNat 99, .ofNat 107, .ofNat 101, .ofNat 120, .ofNat 101, .ofNat 99, .ofNat 117, .ofNat 116, .ofNat 111, .ofNat 114, .ofNat 47, .ofNat 108, .ofNat 97, .ofNat 119, .ofNat 115, .ofNat 46, .ofNat 70, .ofNat 110, .ofNat 69, .ofNat 120, .ofNat 97, .ofNat 99, .ofNat 116, .ofNat 67, .ofNat 111, .ofNat 109, .ofNat 109, .ofNat 105, .ofNat 116, .ofNat 115, .ofNat 65, .ofNat 103, .ofNat 114, .ofNat 101, .ofNat 101, .ofNat 32, .ofNat 108, .ofNat 111, .ofNat 111, .ofNat 112, .ofNat 46, .ofNat 101, .ofNat 120, .ofNat 97, .ofNat 109, .ofNat 112, .ofNat 108, .ofNat 101, .ofNat 47, .ofNat 98, .ofNat 108, .ofNat 111, .ofNat 99, .ofNat 107, .ofNat 101, .ofNat 120, .ofNat 101, .ofNat 99, .ofNat 117, .ofNat 116, .ofNat 111, .ofNat 114, .ofNat 47, .ofNat 108, .ofNat 97, .ofNat 119, .ofNat 115, .ofNat 46, .ofNat 70, .ofNat 110, .ofNat 69, .ofNat 120, .ofNat 97, .ofNat 99, .ofNat 116, .ofNat 67, .ofNat 111, .ofNat 109, .ofNat 109, .ofNat 105, .ofNat 116, .ofNat 72, .ofNat 101, .ofNat 97, .ofNat 100, .ofNat 115, .ofNat 32, .ofNat 108, .ofNat 111, .ofNat 111, .ofNat 112, .ofNat 46, .ofNat 101, .ofNat 120, .ofNat 97, .ofNat 109, .ofNat 112, .ofNat 108, .ofNat 101, .ofNat 47, .ofNat 98, .ofNat 108, .ofNat 111, .ofNat 99, .ofNat 107, .ofNat 101, .ofNat 120, .ofNat 101, .ofNat 99, .ofNat 117, .ofNat 116, .ofNat 111, .ofNat 114, .ofNat 47, .ofNat 108, .ofNat 97, .ofNat 119, .ofNat 115, .ofNat 46, .ofNat 70, .ofNat 110, .ofNat 69, .ofNat 120, .ofNat 97, .ofNat 99, .ofNat 116, .ofNat 87, .ofNat 111, .ofNat 114, .ofNat 108, .ofNat 100, .ofNat 72, .ofNat 101, .ofNat 97, .ofNat 100, .ofNat 32, .ofNat 108, .ofNat 111, .ofNat 111, .ofNat 112, .ofNat 46, .ofNat 101, .ofNat 120, .ofNat 97, .ofNat 109, .ofNat 112, .ofNat 108, .ofNat 101, .ofNat 47, .ofNat 98, .ofNat 108, .ofNat 111, .ofNat 99, .ofNat 107, .ofNat 101, .ofNat 120, .ofNat 101, .ofNat 99, .ofNat 117, .ofNat 116, .ofNat 111, .ofNat 114, .ofNat 47, .ofNat 108, .ofNat 97, .ofNat 119, .ofNat 115, .ofNat 46, .ofNat 70, .ofNat 110, .ofNat 69, .ofNat 120, .ofNat 97, .ofNat 99, .ofNat 116, .ofNat 87, .ofNat 111, .ofNat 114, .ofNat 108, .ofNat 100, .ofNat 65, .ofNat 99, .ofNat 116, .ofNat 105, .ofNat 111, .ofNat 110, .ofNat 115, .ofNat 32, .ofNat 108, .ofNat 111, .ofNat 111, .ofNat 112, .ofNat 46, .ofNat 101, .ofNat 120, .ofNat 97, .ofNat 109, .ofNat 112, .ofNat 108, .ofNat 101, .ofNat 47, .ofNat 98, .ofNat 108, .ofNat 111, .ofNat 99, .ofNat 107, .ofNat 101, .ofNat 120, .ofNat 101, .ofNat 99, .ofNat 117, .ofNat 116, .ofNat 111, .ofNat 114, .ofNat 47, .ofNat 108, .ofNat 97, .ofNat 119, .ofNat 115, .ofNat 46, .ofNat 70, .ofNat 110, .ofNat 69, .ofNat 120, .ofNat 97, .ofNat 99, .ofNat 116, .ofNat 87, .ofNat 111, .ofNat 114, .ofNat 108, .ofNat 100, .ofNat 86, .ofNat 111, .ofNat 116, .ofNat 101, .ofNat 32, .ofNat 108, .ofNat 111, .ofNat 111, .ofNat 112, .ofNat 46, .ofNat 101, .ofNat 120, .ofNat 97, .ofNat 109, .ofNat 112, .ofNat 108, .ofNat 101, .ofNat 47, .ofNat 98, .ofNat 108, .ofNat 111, .ofNat 99, .ofNat 107, .ofNat 101, .ofNat 120, .ofNat 101, .ofNat 99, .ofNat 117, .ofNat 116, .ofNat 111, .ofNat 114, .ofNat 47, .ofNat 108, .ofNat 97, .ofNat 119, .ofNat 115, .ofNat 46, .ofNat 70, .ofNat 110, .ofNat 69, .ofNat 120, .ofNat 97, .ofNat 99, .ofNat 116, .ofNat 71, .ofNat 114, .ofNat 111, .ofNat 119, .ofNat 84, .ofNat 114, .ofNat 101, .ofNat 101, .ofNat 32, .ofNat 108, .ofNat 111, .ofNat 111, .ofNat 112, .ofNat 46, .ofNat 101, .ofNat 120, .ofNat 97, .ofNat 109, .ofNat 112, .ofNat 108, .ofNat 101, .ofNat 47, .ofNat 98, .ofNat 108, .ofNat 111, .ofNat 99, .ofNat 107, .ofNat 101, .ofNat 120, .ofNat 101, .ofNat 99, .ofNat 117, .ofNat 116, .ofNat 111, .ofNat 114, .ofNat 47, .ofNat 108, .ofNat 97, .ofNat 119, .ofNat 115, .ofNat 46, .ofNat 70, .ofNat 110, .ofNat 69, .ofNat 120, .ofNat 97, .ofNat 99, .ofNat 116, .ofNat 87, .ofNat 111, .ofNat 114, .ofNat 108, .ofNat 100, .ofNat 82, .ofNat 117, .ofNat 110, .ofNat 32, .ofNat 108, .ofNat 111, .ofNat 111, .ofNat 112, .ofNat 46, .ofNat 101, .ofNat 120, .ofNat 97, .ofNat 109, .ofNat 112, .ofNat 108, .ofNat 101, .ofNat 47, .ofNat 98, .ofNat 108, .ofNat 111, .ofNat 99, .ofNat 107, .ofNat 101, .ofNat 120, .ofNat 101, .ofNat 99, .ofNat 117, .ofNat 116, .ofNat 111, .ofNat 114, .ofNat 47, .ofNat 108, .ofNat 97, .ofNat 119, .ofNat 115, .ofNat 46, .ofNat 70, .ofNat 110, .ofNat 69, .ofNat 120, .ofNat 97, .ofNat 99, .ofNat 116, .ofNat 87, .ofNat 111, .ofNat 114, .ofNat 108, .ofNat 100, .ofNat 83, .ofNat 116, .ofNat 111, .ofNat 114, .ofNat 101, .ofNat 32, .ofNat 108, .ofNat 111, .ofNat 111, .ofNat 112, .ofNat 46, .ofNat 101, .ofNat 120, .ofNat 97, .ofNat 109, .ofNat 112, .ofNat 108, .ofNat 101, .ofNat 47, .ofNat 98, .ofNat 108, .ofNat 111, .ofNat 99, .ofNat 107, .ofNat 101, .ofNat 120, .ofNat 101, .ofNat 99, .ofNat 117, .ofNat 116, .ofNat 111, .ofNat 114, .ofNat 47, .ofNat 108, .ofNat 97, .ofNat 119, .ofNat 115, .ofNat 46, .ofNat 70, .ofNat 110, .ofNat 69, .ofNat 120, .ofNat 97, .ofNat 99, .ofNat 116, .ofNat 87, .ofNat 111, .ofNat 114, .ofNat 108, .ofNat 100, .ofNat 71, .ofNat 114, .ofNat 111, .ofNat 119]
/-- The header itself. -/
def headS : String := "harness e5ee520047f8e24d3ea5c2ba50825deaf054ba4a5e97830092288e4630fe4413 cut at loop.example/blockexecutor/laws.FnWorldValid loop.example/blockexecutor/laws.FnCertBlock loop.example/blockexecutor/laws.FnCertifiedBlocks loop.example/blockexecutor/laws.FnExactCommittedTo loop.example/blockexecutor/laws.FnWorldCerts loop.example/blockexecutor/laws.FnExactWorldCerts loop.example/blockexecutor/laws.FnExactCertifiedBlocks loop.example/blockexecutor/laws.FnExactWorldOf loop.example/blockexecutor/laws.FnExactCommitsAgree loop.example/blockexecutor/laws.FnExactCommitHeads loop.example/blockexecutor/laws.FnExactWorldHead loop.example/blockexecutor/laws.FnExactWorldActions loop.example/blockexecutor/laws.FnExactWorldVote loop.example/blockexecutor/laws.FnExactGrowTree loop.example/blockexecutor/laws.FnExactWorldRun loop.example/blockexecutor/laws.FnExactWorldStore loop.example/blockexecutor/laws.FnExactWorldGrow"
set_option maxRecDepth 100000 in
theorem head_is : Tryz.pinned.checked.prog.initOrder = headS := by kernel_rfl
set_option maxRecDepth 100000 in
theorem head_bytes : headS.toByteArray = List.utf8Encode headL := by kernel_rfl
set_option maxRecDepth 100000 in
theorem list_bytes : (String.ofList headL).toByteArray = List.utf8Encode headL := by kernel_rfl
theorem head_eq : Tryz.pinned.checked.prog.initOrder = String.ofList headL := head_is.trans (String.toByteArray_inj.1 (head_bytes.trans list_bytes.symm))
theorem head_list : Tryz.pinned.checked.prog.initOrder.toList = headL := by rw [head_eq, String.toList_ofList]
set_option maxRecDepth 100000 in
theorem head_word : behindMainWord (wordsSigns headL) = "cut".toList :: (behindMainWord (wordsSigns headL)).tail := by kernel_rfl
theorem cut_strip (r : List (List Char)) : stripLifts liftWords ("cut".toList :: r) = ([], "cut".toList :: r) := by kernel_rfl
set_option maxRecDepth 100000 in
theorem c_headLifts : Tryz.pinned.checked.prog.headLifts = [] := by
  unfold Program.headLifts
  rw [head_list, head_word, cut_strip]
  kernel_rfl
set_option maxRecDepth 100000 in
theorem c_lays : Tryz.pinned.checked.prog.laysLater = false := by kernel_rfl
set_option maxRecDepth 100000 in
theorem c_bears : Tryz.pinned.checked.prog.bearsReflect = false := by kernel_rfl
set_option maxRecDepth 100000 in
theorem c_door : Tryz.pinned.checked.prog.doorFits [] = true := by kernel_rfl
theorem enter_cut {P : Program} {r : List (List Char)} (h : behindMainWord (wordsSigns P.initOrder.toList) = "cut".toList :: r) (h1 : P.laysLater = false) (h2 : P.bearsReflect = false) (h3 : P.doorFits [] = true) : P.mayEnter = true := by
  unfold Program.mayEnter
  rw [h]
  dsimp only
  rw [cut_strip, h1, h2]
  dsimp only
  rw [h3]
  kernel_rfl
theorem final_cut {P : Program} {r : List (List Char)} (h : behindMainWord (wordsSigns P.initOrder.toList) = "cut".toList :: r) (h1 : P.headLifts = []) : P.liftsFinal = false := by
  unfold Program.liftsFinal
  rw [h, h1]
  kernel_rfl
theorem make_cut {P : Program} {r : List (List Char)} (h : behindMainWord (wordsSigns P.initOrder.toList) = "cut".toList :: r) : P.make = some .cut := by
  unfold Program.make
  rw [h]
  kernel_rfl
theorem head_words : behindMainWord (wordsSigns Tryz.pinned.checked.prog.initOrder.toList) = "cut".toList :: (behindMainWord (wordsSigns headL)).tail := by rw [head_list]; exact head_word
theorem c_enter : Tryz.pinned.checked.prog.mayEnter = true := enter_cut head_words c_lays c_bears c_door
theorem c_final : Tryz.pinned.checked.prog.liftsFinal = false := final_cut head_words c_headLifts
theorem c_make : Tryz.pinned.checked.prog.make = some .cut := make_cut head_words

end Go.Proofs.YtmibclbinebnjaaGreat

/- Contracts: FnExactCommitsAgree. -/
set_option linter.unusedSimpArgs false
set_option linter.unusedVariables false
set_option maxRecDepth 20000
set_option maxHeartbeats 4000000
namespace Go.Proofs.YtmibclbinebnjaaGreat
open Go Go.RowKit

theorem c_laws_FnExactCommitsAgree (n00 n01 n02 n10 : Option Bool) (t : Tree) (cs : List Cert) (ht : TreeLen t) (hcs : cs.length ≤ 9223372036854775807) :
    Det Tryz.prog 11 [.agg (encT n00 n01 n02 t), .sl n10 (rows encC cs)] (.bool true) := by
  refine fspec_det tab_ok Tryz.call11 Tryz.func11 rfl 45 Tryz.ntmps11 (of_decide_eq_true rfl) fun B => codeK_sound tab_ok _ _ _ ?_
  have hle0 : (0 : Int) ≤ 1048576 ∧ (1048576 : Int) ≤ 1048576 := by omega
  obtain ⟨r0, hr0, hr0b, hT0, hE0⟩ := c_laws_szBlockTree n00 n01 n02 t 1048576 ht hle0
  simp (config := { maxSteps := 4000000 }) only [go_sem, simprocAttr, ↓dnA, Tryz.f11, encT, encTO, List.nodup_cons, rows_length, markS_length]
  refine CallTo.det hr0 fun _ => ?_
  cases d0 : decide (r0 < 0) with
  | true => simp (config := { maxSteps := 4000000 }) only [go_sem, simprocAttr, ↓dnA, Tryz.f11, encT, encTO, List.nodup_cons, rows_length, markS_length, d0]
  | false =>
  have d0' := of_decide_eq_false d0
  have hst := hT0 (by omega)
  have hle1 : 0 ≤ r0 ∧ r0 ≤ 1048576 := by omega
  have hmt := stT_small hst
  have hr1b := szI_bd (left := r0) (n := cs.length) hle1.2
  simp (config := { maxSteps := 4000000 }) only [go_sem, simprocAttr, ↓dnA, Tryz.f11, encT, encTO, List.nodup_cons, rows_length, markS_length, d0]
  refine CallTo.det (c_laws_szCertS n10 cs _ hcs hle1) fun _ => ?_
  cases d1 : decide (szI r0 cs.length < 0) with
  | true => simp (config := { maxSteps := 4000000 }) only [go_sem, simprocAttr, ↓dnA, Tryz.f11, encT, encTO, List.nodup_cons, rows_length, markS_length, d0, d1]
  | false =>
  have d1' := of_decide_eq_false d1
  have hle2 : 0 ≤ szI r0 cs.length ∧ szI r0 cs.length ≤ 1048576 := by omega
  have qcs : cs.length ≤ 1048576 := by have := hr1b.2 (by omega); omega
  have ecs := stepS_const stC 3 (fun _ => rfl) cs
  have hS := c_spec_CommitsAgree (some true) (some true) (some true) (some true) t cs hst.sz
  have hN := c_impl_CommitsAgree (some true) (some true) (some true) (some true) t cs hst.sz
  generalize commitsAgree t cs = g0 at hS hN 
  have eo : (g0 != g0) = false := by simp
  have ett : decide (t = t) = true := by simp
  have ecscs : decide (cs = cs) = true := by simp
  simp (config := { maxSteps := 4000000 }) only [go_sem, simprocAttr, ↓dnA, Tryz.f11, encT, encTO, List.nodup_cons, rows_length, markS_length, d0, d1, eo, ett, ecscs]
  refine CallTo.det (c_laws_toBlockTree n00 n01 n02 t hst) fun _ => ?_
  simp (config := { maxSteps := 4000000 }) only [go_sem, simprocAttr, ↓dnA, Tryz.f11, encT, encTO, List.nodup_cons, rows_length, markS_length, d0, d1, eo, ett, ecscs]
  refine CallTo.det (c_laws_toCertS n10 cs (by omega)) fun _ => ?_
  simp (config := { maxSteps := 4000000 }) only [go_sem, simprocAttr, ↓dnA, Tryz.f11, encT, encTO, List.nodup_cons, rows_length, markS_length, d0, d1, eo, ett, ecscs]
  refine CallTo.det hS fun _ => ?_
  simp (config := { maxSteps := 4000000 }) only [go_sem, simprocAttr, ↓dnA, Tryz.f11, encT, encTO, List.nodup_cons, rows_length, markS_length, d0, d1, eo, ett, ecscs]
  refine CallTo.det (c_laws_toBlockTree n00 n01 n02 t hst) fun _ => ?_
  simp (config := { maxSteps := 4000000 }) only [go_sem, simprocAttr, ↓dnA, Tryz.f11, encT, encTO, List.nodup_cons, rows_length, markS_length, d0, d1, eo, ett, ecscs]
  refine CallTo.det (c_laws_toCertS n10 cs (by omega)) fun _ => ?_
  simp (config := { maxSteps := 4000000 }) only [go_sem, simprocAttr, ↓dnA, Tryz.f11, encT, encTO, List.nodup_cons, rows_length, markS_length, d0, d1, eo, ett, ecscs]
  refine CallTo.det hN fun _ => ?_
  simp (config := { maxSteps := 4000000 }) only [go_sem, simprocAttr, ↓dnA, Tryz.f11, encT, encTO, List.nodup_cons, rows_length, markS_length, d0, d1, eo, ett, ecscs]
  refine semL_draw tab_ok mixed_ rfl (ord := [(0, []), (1, []), (2, [0]), (3, []), (4, [])]) (by dsimp only; decide +kernel) ?_
  simp (config := { maxSteps := 4000000 }) only [go_sem, simprocAttr, ↓dnA, Tryz.f11, encT, encTO, List.nodup_cons, rows_length, markS_length, d0, d1, eo, ett, ecscs]
  refine CallTo.det (c_laws_toBlockTree n00 n01 n02 t hst) fun _ => ?_
  simp (config := { maxSteps := 4000000 }) only [go_sem, simprocAttr, ↓dnA, Tryz.f11, encT, encTO, List.nodup_cons, rows_length, markS_length, d0, d1, eo, ett, ecscs]
  refine CallTo.det (c_laws_eqBlockTree _ _ _ _ _ _ t t hst.sz hst.sz) fun _ => ?_
  simp (config := { maxSteps := 4000000 }) only [go_sem, simprocAttr, ↓dnA, Tryz.f11, encT, encTO, List.nodup_cons, rows_length, markS_length, d0, d1, eo, ett, ecscs]
  refine CallTo.det (c_laws_toCertS n10 cs (by omega)) fun _ => ?_
  simp (config := { maxSteps := 4000000 }) only [go_sem, simprocAttr, ↓dnA, Tryz.f11, encT, encTO, List.nodup_cons, rows_length, markS_length, d0, d1, eo, ett, ecscs]
  refine CallTo.det (c_laws_eqCertS _ _ cs cs (by omega) (by omega)) fun _ => ?_
  simp (config := { maxSteps := 4000000 }) only [go_sem, simprocAttr, ↓dnA, Tryz.f11, encT, encTO, List.nodup_cons, rows_length, markS_length, d0, d1, eo, ett, ecscs]

end Go.Proofs.YtmibclbinebnjaaGreat

/- The closed facts of the row of FnExactCommitsAgree. -/
namespace Go.Proofs.YtmibclbinebnjaaGreat
open Go Go.ChangeShapes Go.WideShapes Go.ChangeAt Go.RowKit

theorem fnExactCommitsAgree_named : Tryz.pinned.checked.prog.funcNamed Rows.fnExactCommitsAgreeRow.func = some 11 := by kernel_rfl
theorem fnExactCommitsAgree_inst : Tryz.f11.isInstance Tryz.pinned.checked.prog Rows.fnExactCommitsAgreeRow.origin Rows.fnExactCommitsAgreeRow.targs := of_decide_eq_true (by kernel_rfl)
theorem fnExactCommitsAgree_wrap : Tryz.f11.isWrapper Tryz.pinned.checked.prog Rows.fnExactCommitsAgreeRow.wrapper Rows.fnExactCommitsAgreeRow.mainSum := by
  unfold Func.isWrapper; first | (rw [if_pos (by decide +kernel)]; kernel_rfl) | (rw [if_neg (by decide +kernel)]; exact ⟨rfl, rfl⟩)
set_option maxRecDepth 100000 in
set_option maxHeartbeats 4000000 in
theorem fnExactCommitsAgree_closed : joinedFacts Tryz.pinned.checked.prog 11 Tryz.f11 Rows.fnExactCommitsAgreeSpec Rows.fnExactCommitsAgreeRow = true := by
  unfold joinedFacts
  simp only [Bool.and_eq_true]
  repeat' apply And.intro
  all_goals first
    | with_reducible exact c_enter
    | (rw [c_final]; as_aux_lemma => kernel_rfl)
    | (rw [c_make]; as_aux_lemma => kernel_rfl)
    | (as_aux_lemma => kernel_rfl)

end Go.Proofs.YtmibclbinebnjaaGreat

