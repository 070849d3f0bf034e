/- The law FnWorldGrow, and its closed facts. -/
import Derived.Test.YthcfafpjkbbaoaaGreatRows
import Derived.ProofKit
import Derived.Test.YthcfafpjkbbaoaaGreatZf1

set_option linter.unusedSimpArgs false
namespace Go.Proofs.YthcfafpjkbbaoaaGreat
open Go Go.ChangeShapes Go.WideShapes Go.ChangeAt Go.RowKit

theorem law_FnWorldGrow (cs : List AV) (h : TyArgs tab Tryz.f13.params.toList cs) : Det Tryz.prog 13 cs (.bool true) :=
  law_code c_laws_FnWorldGrow h

set_option maxRecDepth 100000 in
theorem fnWorldGrow_lifted (os : Os) (started : os.Started) (H : Type) (enc : TypeId × Value → H) :
    ReturnsInHanded {} Tryz.checked os 13 .any (Rows.fnWorldGrowSpec.pre6 enc Tryz.prog Tryz.f13 Rows.fnWorldGrowRow.domain false) (Rows.fnWorldGrowSpec.post enc Tryz.prog Tryz.f13 false true false false) := by
  refine returnsInHanded_of_change (C := Tryz.checked) own_ started (by kernel_rfl) Tryz.func13
    (ChangeSpec.witness6 (enc := enc) (C := Tryz.checked) false ⟨#[], #[.slice none 0 0], []⟩ 8 (by kernel_rfl) (by kernel_rfl) (by kernel_rfl) (by kernel_rfl)) ?_
  intro W base args ds gs before hval hW _ _
  exact law_calls tab_ok laidOut_ 8 (f := Tryz.f13) hval hW rfl (by kernel_rfl) (by kernel_rfl) rfl Tryz.underlying4
    (fun ds' h => by
      have h4 : ds'.length = 1 := h.trans (by kernel_rfl)
      match ds', h4 with
      | [_], _ => rfl) law_FnWorldGrow

theorem fnWorldGrow_holds : Rows.FnWorldGrowSaid :=
  OpenClaim.holds_of_wide 13 Tryz.f13 rfl rfl rfl rfl rfl rfl rfl ⟨rfl, rfl, rfl, rfl, rfl⟩ rfl rfl rfl rfl rfl fnWorldGrow_named Tryz.func13 fnWorldGrow_closed fnWorldGrow_inst fnWorldGrow_wrap
    (fun os started H enc _ => fnWorldGrow_lifted os started H enc)


end Go.Proofs.YthcfafpjkbbaoaaGreat
