/- The law FnEngineResult: an engine that is done has the results of the serial run. -/
import Derived.Test.YteebkimhfaodnaaGreatRows
import Derived.ProofKit
import Derived.Test.YteebkimhfaodnaaGreatZg1

set_option linter.unusedSimpArgs false
namespace Go.Proofs.YteebkimhfaodnaaGreat
open Go Go.ChangeShapes Go.WideShapes Go.ChangeAt Go.RowKit

theorem law_FnEngineResult (cs : List AV) (h : TyArgs tab Tryz.f8.params.toList cs) : Det Tryz.prog 8 cs (.bool true) :=
  law_code c_laws_FnEngineResult h

set_option maxRecDepth 100000 in
theorem fnEngineResult_lifted (os : Os) (started : os.Started) (H : Type) (enc : TypeId × Value → H) :
    ReturnsInHanded {} Tryz.checked os 8 .any (Rows.fnEngineResultSpec.pre6 enc Tryz.prog Tryz.f8 Rows.fnEngineResultRow.domain false) (Rows.fnEngineResultSpec.post enc Tryz.prog Tryz.f8 false true false false) := by
  refine returnsInHanded_of_change (C := Tryz.checked) own_ started (by kernel_rfl) Tryz.func8
    (ChangeSpec.witness6 (enc := enc) (C := Tryz.checked) false ⟨#[], #[.slice none 0 0], []⟩ 8 (by kernel_rfl) (by kernel_rfl) (by kernel_rfl) (by kernel_rfl)) ?_
  intro W base args ds gs before hval hW _ _
  exact law_calls tab_ok laidOut_ 8 (f := Tryz.f8) hval hW rfl (by kernel_rfl) (by kernel_rfl) rfl Tryz.underlying4
    (fun ds' h => by
      have h4 : ds'.length = 1 := h.trans (by kernel_rfl)
      match ds', h4 with
      | [_], _ => rfl) law_FnEngineResult

theorem fnEngineResult_holds : Rows.FnEngineResultSaid :=
  OpenClaim.holds_of_wide 8 Tryz.f8 rfl rfl rfl rfl rfl rfl rfl ⟨rfl, rfl, rfl, rfl, rfl⟩ rfl rfl rfl rfl rfl fnEngineResult_named Tryz.func8 fnEngineResult_closed fnEngineResult_inst fnEngineResult_wrap
    (fun os started H enc _ => fnEngineResult_lifted os started H enc)


end Go.Proofs.YteebkimhfaodnaaGreat
