/- FnPutBlock: put blocks are there. -/
import Derived.Test.YtmibclbinebnjaaRows
import Derived.ProofKit
import Derived.Test.YtmibclbinebnjaaZd1

set_option linter.unusedSimpArgs false
namespace Go.Proofs.Ytmibclbinebnjaa
open Go Go.ChangeShapes Go.WideShapes Go.ChangeAt Go.RowKit

theorem law_FnPutBlock (cs : List AV) (h : TyArgs tab Try.f7.params.toList cs) : Det Try.prog 7 cs (.bool true) :=
  law_code c_laws_FnPutBlock h

set_option maxRecDepth 100000 in
theorem fnPutBlock_lifted (os : Os) (started : os.Started) (H : Type) (enc : TypeId × Value → H) :
    ReturnsInHanded {} Try.checked os 7 .any (Rows.fnPutBlockSpec.pre6 enc Try.prog Try.f7 Rows.fnPutBlockRow.domain false) (Rows.fnPutBlockSpec.post enc Try.prog Try.f7 false true false false) := by
  refine returnsInHanded_of_change (C := Try.checked) own_ started (by kernel_rfl) Try.func7
    (ChangeSpec.witness6 (enc := enc) (C := Try.checked) false ⟨#[], #[.slice none 0 0], []⟩ 8 (by kernel_rfl) (by kernel_rfl) (by kernel_rfl) (by kernel_rfl)) ?_
  intro W base args ds gs before hval hW _ _
  exact law_calls tab_ok laidOut_ 8 (f := Try.f7) hval hW rfl (by kernel_rfl) (by kernel_rfl) rfl Try.underlying4
    (fun ds' h => by
      have h4 : ds'.length = 1 := h.trans (by kernel_rfl)
      match ds', h4 with
      | [_], _ => rfl) law_FnPutBlock

theorem fnPutBlock_holds : Rows.FnPutBlockSaid :=
  OpenClaim.holds_of_wide 7 Try.f7 rfl rfl rfl rfl rfl rfl rfl ⟨rfl, rfl, rfl, rfl, rfl⟩ rfl rfl rfl rfl rfl fnPutBlock_named Try.func7 fnPutBlock_closed fnPutBlock_inst fnPutBlock_wrap
    (fun os started H enc _ => fnPutBlock_lifted os started H enc)


end Go.Proofs.Ytmibclbinebnjaa
