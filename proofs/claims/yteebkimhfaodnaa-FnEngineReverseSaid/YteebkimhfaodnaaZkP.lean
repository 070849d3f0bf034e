/- The law FnEngineReverse: the worst order is not so bad. -/
import Derived.Test.YteebkimhfaodnaaRows
import Derived.ProofKit
import Derived.Test.YteebkimhfaodnaaZk1

set_option linter.unusedSimpArgs false
namespace Go.Proofs.Yteebkimhfaodnaa
open Go Go.ChangeShapes Go.WideShapes Go.ChangeAt Go.RowKit

theorem law_FnEngineReverse (cs : List AV) (h : TyArgs tab Try.f4.params.toList cs) : Det Try.prog 4 cs (.bool true) :=
  law_code c_laws_FnEngineReverse h

set_option maxRecDepth 100000 in
theorem fnEngineReverse_lifted (os : Os) (started : os.Started) (H : Type) (enc : TypeId × Value → H) :
    ReturnsInHanded {} Try.checked os 4 .any (Rows.fnEngineReverseSpec.pre6 enc Try.prog Try.f4 Rows.fnEngineReverseRow.domain false) (Rows.fnEngineReverseSpec.post enc Try.prog Try.f4 false true false false) := by
  refine returnsInHanded_of_change (C := Try.checked) own_ started (by kernel_rfl) Try.func4
    (ChangeSpec.witness6 (enc := enc) (C := Try.checked) false ⟨#[], #[.slice none 0 0], []⟩ 8 (by kernel_rfl) (by kernel_rfl) (by kernel_rfl) (by kernel_rfl)) ?_
  intro W base args ds gs before hval hW _ _
  exact law_calls tab_ok laidOut_ 8 (f := Try.f4) hval hW rfl (by kernel_rfl) (by kernel_rfl) rfl Try.underlying4
    (fun ds' h => by
      have h4 : ds'.length = 1 := h.trans (by kernel_rfl)
      match ds', h4 with
      | [_], _ => rfl) law_FnEngineReverse

theorem fnEngineReverse_holds : Rows.FnEngineReverseSaid :=
  OpenClaim.holds_of_wide 4 Try.f4 rfl rfl rfl rfl rfl rfl rfl ⟨rfl, rfl, rfl, rfl, rfl⟩ rfl rfl rfl rfl rfl fnEngineReverse_named Try.func4 fnEngineReverse_closed fnEngineReverse_inst fnEngineReverse_wrap
    (fun os started H enc _ => fnEngineReverse_lifted os started H enc)


end Go.Proofs.Yteebkimhfaodnaa
