/- The law FnEngineOf: new engines have tried nothing. -/
import Derived.Test.YteebkimhfaodnaaRows
import Derived.ProofKit
import Derived.Test.YteebkimhfaodnaaZj1

set_option linter.unusedSimpArgs false
namespace Go.Proofs.Yteebkimhfaodnaa
open Go Go.ChangeShapes Go.WideShapes Go.ChangeAt Go.RowKit

theorem law_FnEngineOf (cs : List AV) (h : TyArgs tab Try.f3.params.toList cs) : Det Try.prog 3 cs (.bool true) :=
  law_code c_laws_FnEngineOf h

set_option maxRecDepth 100000 in
theorem fnEngineOf_lifted (os : Os) (started : os.Started) (H : Type) (enc : TypeId × Value → H) :
    ReturnsInHanded {} Try.checked os 3 .any (Rows.fnEngineOfSpec.pre6 enc Try.prog Try.f3 Rows.fnEngineOfRow.domain false) (Rows.fnEngineOfSpec.post enc Try.prog Try.f3 false true false false) := by
  refine returnsInHanded_of_change (C := Try.checked) own_ started (by kernel_rfl) Try.func3
    (ChangeSpec.witness6 (enc := enc) (C := Try.checked) false ⟨#[], #[.slice none 0 0], []⟩ 8 (by kernel_rfl) (by kernel_rfl) (by kernel_rfl) (by kernel_rfl)) ?_
  intro W base args ds gs before hval hW _ _
  exact law_calls tab_ok laidOut_ 8 (f := Try.f3) hval hW rfl (by kernel_rfl) (by kernel_rfl) rfl Try.underlying4
    (fun ds' h => by
      have h4 : ds'.length = 1 := h.trans (by kernel_rfl)
      match ds', h4 with
      | [_], _ => rfl) law_FnEngineOf

theorem fnEngineOf_holds : Rows.FnEngineOfSaid :=
  OpenClaim.holds_of_wide 3 Try.f3 rfl rfl rfl rfl rfl rfl rfl ⟨rfl, rfl, rfl, rfl, rfl⟩ rfl rfl rfl rfl rfl fnEngineOf_named Try.func3 fnEngineOf_closed fnEngineOf_inst fnEngineOf_wrap
    (fun os started H enc _ => fnEngineOf_lifted os started H enc)


end Go.Proofs.Yteebkimhfaodnaa
