/- The law FnEngineFinish: engines come to an end, with the results of the serial run. -/
import Derived.Test.YteebkimhfaodnaaGreatRows
import Derived.ProofKit
import Derived.Test.YteebkimhfaodnaaGreatZh1

set_option linter.unusedSimpArgs false
namespace Go.Proofs.YteebkimhfaodnaaGreat
open Go Go.ChangeShapes Go.WideShapes Go.ChangeAt Go.RowKit

theorem law_FnEngineFinish (cs : List AV) (h : TyArgs tab Tryz.f9.params.toList cs) : Det Tryz.prog 9 cs (.bool true) :=
  law_code c_laws_FnEngineFinish h

set_option maxRecDepth 100000 in
theorem fnEngineFinish_lifted (os : Os) (started : os.Started) (H : Type) (enc : TypeId × Value → H) :
    ReturnsInHanded {} Tryz.checked os 9 .any (Rows.fnEngineFinishSpec.pre6 enc Tryz.prog Tryz.f9 Rows.fnEngineFinishRow.domain false) (Rows.fnEngineFinishSpec.post enc Tryz.prog Tryz.f9 false true false false) := by
  refine returnsInHanded_of_change (C := Tryz.checked) own_ started (by kernel_rfl) Tryz.func9
    (ChangeSpec.witness6 (enc := enc) (C := Tryz.checked) false ⟨#[], #[.slice none 0 0], []⟩ 8 (by kernel_rfl) (by kernel_rfl) (by kernel_rfl) (by kernel_rfl)) ?_
  intro W base args ds gs before hval hW _ _
  exact law_calls tab_ok laidOut_ 8 (f := Tryz.f9) hval hW rfl (by kernel_rfl) (by kernel_rfl) rfl Tryz.underlying4
    (fun ds' h => by
      have h4 : ds'.length = 1 := h.trans (by kernel_rfl)
      match ds', h4 with
      | [_], _ => rfl) law_FnEngineFinish

theorem fnEngineFinish_holds : Rows.FnEngineFinishSaid :=
  OpenClaim.holds_of_wide 9 Tryz.f9 rfl rfl rfl rfl rfl rfl rfl ⟨rfl, rfl, rfl, rfl, rfl⟩ rfl rfl rfl rfl rfl fnEngineFinish_named Tryz.func9 fnEngineFinish_closed fnEngineFinish_inst fnEngineFinish_wrap
    (fun os started H enc _ => fnEngineFinish_lifted os started H enc)


end Go.Proofs.YteebkimhfaodnaaGreat
