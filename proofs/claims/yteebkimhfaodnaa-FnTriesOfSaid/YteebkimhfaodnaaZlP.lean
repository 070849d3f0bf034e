/- The law FnTriesOf: tries are counted. -/
import Derived.Test.YteebkimhfaodnaaRows
import Derived.ProofKit
import Derived.Test.YteebkimhfaodnaaZl1

set_option linter.unusedSimpArgs false
namespace Go.Proofs.Yteebkimhfaodnaa
open Go Go.ChangeShapes Go.WideShapes Go.ChangeAt Go.RowKit

theorem law_FnTriesOf (cs : List AV) (h : TyArgs tab Try.f5.params.toList cs) : Det Try.prog 5 cs (.bool true) :=
  law_code c_laws_FnTriesOf h

set_option maxRecDepth 100000 in
theorem fnTriesOf_lifted (os : Os) (started : os.Started) (H : Type) (enc : TypeId × Value → H) :
    ReturnsInHanded {} Try.checked os 5 .any (Rows.fnTriesOfSpec.pre6 enc Try.prog Try.f5 Rows.fnTriesOfRow.domain false) (Rows.fnTriesOfSpec.post enc Try.prog Try.f5 false true false false) := by
  refine returnsInHanded_of_change (C := Try.checked) own_ started (by kernel_rfl) Try.func5
    (ChangeSpec.witness6 (enc := enc) (C := Try.checked) false ⟨#[], #[.slice none 0 0], []⟩ 8 (by kernel_rfl) (by kernel_rfl) (by kernel_rfl) (by kernel_rfl)) ?_
  intro W base args ds gs before hval hW _ _
  exact law_calls tab_ok laidOut_ 8 (f := Try.f5) hval hW rfl (by kernel_rfl) (by kernel_rfl) rfl Try.underlying4
    (fun ds' h => by
      have h4 : ds'.length = 1 := h.trans (by kernel_rfl)
      match ds', h4 with
      | [_], _ => rfl) law_FnTriesOf

theorem fnTriesOf_holds : Rows.FnTriesOfSaid :=
  OpenClaim.holds_of_wide 5 Try.f5 rfl rfl rfl rfl rfl rfl rfl ⟨rfl, rfl, rfl, rfl, rfl⟩ rfl rfl rfl rfl rfl fnTriesOf_named Try.func5 fnTriesOf_closed fnTriesOf_inst fnTriesOf_wrap
    (fun os started H enc _ => fnTriesOf_lifted os started H enc)


end Go.Proofs.Yteebkimhfaodnaa
