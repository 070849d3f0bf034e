/- The law FnWorldHead, and its closed facts. -/
import Derived.Test.YtehbgjikmchaoaaGreatRows
import Derived.ProofKit
import Derived.Test.YtehbgjikmchaoaaGreatZa1

set_option linter.unusedSimpArgs false
namespace Go.Proofs.YtehbgjikmchaoaaGreat
open Go Go.ChangeShapes Go.WideShapes Go.ChangeAt Go.RowKit

theorem law_FnWorldHead (cs : List AV) (h : TyArgs tab Tryz.f5.params.toList cs) : Det Tryz.prog 5 cs (.bool true) :=
  law_code c_laws_FnWorldHead h

set_option maxRecDepth 100000 in
theorem fnWorldHead_lifted (os : Os) (started : os.Started) (H : Type) (enc : TypeId × Value → H) :
    ReturnsInHanded {} Tryz.checked os 5 .any (Rows.fnWorldHeadSpec.pre6 enc Tryz.prog Tryz.f5 Rows.fnWorldHeadRow.domain false) (Rows.fnWorldHeadSpec.post enc Tryz.prog Tryz.f5 false true false false) := by
  refine returnsInHanded_of_change (C := Tryz.checked) own_ started (by kernel_rfl) Tryz.func5
    (ChangeSpec.witness6 (enc := enc) (C := Tryz.checked) false ⟨#[], #[.slice none 0 0], []⟩ 8 (by kernel_rfl) (by kernel_rfl) (by kernel_rfl) (by kernel_rfl)) ?_
  intro W base args ds gs before hval hW _ _
  exact law_calls tab_ok laidOut_ 8 (f := Tryz.f5) hval hW rfl (by kernel_rfl) (by kernel_rfl) rfl Tryz.underlying4
    (fun ds' h => by
      have h4 : ds'.length = 1 := h.trans (by kernel_rfl)
      match ds', h4 with
      | [_], _ => rfl) law_FnWorldHead

theorem fnWorldHead_holds : Rows.FnWorldHeadSaid :=
  OpenClaim.holds_of_wide 5 Tryz.f5 rfl rfl rfl rfl rfl rfl rfl ⟨rfl, rfl, rfl, rfl, rfl⟩ rfl rfl rfl rfl rfl fnWorldHead_named Tryz.func5 fnWorldHead_closed fnWorldHead_inst fnWorldHead_wrap
    (fun os started H enc _ => fnWorldHead_lifted os started H enc)


end Go.Proofs.YtehbgjikmchaoaaGreat
