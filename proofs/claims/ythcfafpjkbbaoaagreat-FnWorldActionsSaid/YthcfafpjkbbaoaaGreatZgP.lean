/- The law FnWorldActions, and its closed facts. -/
import Derived.Test.YthcfafpjkbbaoaaGreatRows
import Derived.ProofKit
import Derived.Test.YthcfafpjkbbaoaaGreatZg1

set_option linter.unusedSimpArgs false
namespace Go.Proofs.YthcfafpjkbbaoaaGreat
open Go Go.ChangeShapes Go.WideShapes Go.ChangeAt Go.RowKit

theorem law_FnWorldActions (cs : List AV) (h : TyArgs tab Tryz.f9.params.toList cs) : Det Tryz.prog 9 cs (.bool true) :=
  law_code c_laws_FnWorldActions h

set_option maxRecDepth 100000 in
theorem fnWorldActions_lifted (os : Os) (started : os.Started) (H : Type) (enc : TypeId × Value → H) :
    ReturnsInHanded {} Tryz.checked os 9 .any (Rows.fnWorldActionsSpec.pre6 enc Tryz.prog Tryz.f9 Rows.fnWorldActionsRow.domain false) (Rows.fnWorldActionsSpec.post enc Tryz.prog Tryz.f9 false true false false) := by
  refine returnsInHanded_of_change (C := Tryz.checked) own_ started (by kernel_rfl) Tryz.func9
    (ChangeSpec.witness6 (enc := enc) (C := Tryz.checked) false ⟨#[], #[.slice none 0 0], []⟩ 8 (by kernel_rfl) (by kernel_rfl) (by kernel_rfl) (by kernel_rfl)) ?_
  intro W base args ds gs before hval hW _ _
  exact law_calls tab_ok laidOut_ 8 (f := Tryz.f9) hval hW rfl (by kernel_rfl) (by kernel_rfl) rfl Tryz.underlying4
    (fun ds' h => by
      have h4 : ds'.length = 1 := h.trans (by kernel_rfl)
      match ds', h4 with
      | [_], _ => rfl) law_FnWorldActions

theorem fnWorldActions_holds : Rows.FnWorldActionsSaid :=
  OpenClaim.holds_of_wide 9 Tryz.f9 rfl rfl rfl rfl rfl rfl rfl ⟨rfl, rfl, rfl, rfl, rfl⟩ rfl rfl rfl rfl rfl fnWorldActions_named Tryz.func9 fnWorldActions_closed fnWorldActions_inst fnWorldActions_wrap
    (fun os started H enc _ => fnWorldActions_lifted os started H enc)


end Go.Proofs.YthcfafpjkbbaoaaGreat
