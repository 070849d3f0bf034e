/- The law FnEngineStep: engines stay valid after a step. -/
import Derived.Test.YteebkimhfaodnaaGreatRows
import Derived.ProofKit
import Derived.Test.YteebkimhfaodnaaGreatZf1

set_option linter.unusedSimpArgs false
namespace Go.Proofs.YteebkimhfaodnaaGreat
open Go Go.ChangeShapes Go.WideShapes Go.ChangeAt Go.RowKit

theorem law_FnEngineStep (cs : List AV) (h : TyArgs tab Tryz.f6.params.toList cs) : Det Tryz.prog 6 cs (.bool true) :=
  law_code c_laws_FnEngineStep h

set_option maxRecDepth 100000 in
theorem fnEngineStep_lifted (os : Os) (started : os.Started) (H : Type) (enc : TypeId × Value → H) :
    ReturnsInHanded {} Tryz.checked os 6 .any (Rows.fnEngineStepSpec.pre6 enc Tryz.prog Tryz.f6 Rows.fnEngineStepRow.domain false) (Rows.fnEngineStepSpec.post enc Tryz.prog Tryz.f6 false true false false) := by
  refine returnsInHanded_of_change (C := Tryz.checked) own_ started (by kernel_rfl) Tryz.func6
    (ChangeSpec.witness6 (enc := enc) (C := Tryz.checked) false ⟨#[], #[.slice none 0 0], []⟩ 8 (by kernel_rfl) (by kernel_rfl) (by kernel_rfl) (by kernel_rfl)) ?_
  intro W base args ds gs before hval hW _ _
  exact law_calls tab_ok laidOut_ 8 (f := Tryz.f6) hval hW rfl (by kernel_rfl) (by kernel_rfl) rfl Tryz.underlying4
    (fun ds' h => by
      have h4 : ds'.length = 1 := h.trans (by kernel_rfl)
      match ds', h4 with
      | [_], _ => rfl) law_FnEngineStep

theorem fnEngineStep_holds : Rows.FnEngineStepSaid :=
  OpenClaim.holds_of_wide 6 Tryz.f6 rfl rfl rfl rfl rfl rfl rfl ⟨rfl, rfl, rfl, rfl, rfl⟩ rfl rfl rfl rfl rfl fnEngineStep_named Tryz.func6 fnEngineStep_closed fnEngineStep_inst fnEngineStep_wrap
    (fun os started H enc _ => fnEngineStep_lifted os started H enc)


end Go.Proofs.YteebkimhfaodnaaGreat
