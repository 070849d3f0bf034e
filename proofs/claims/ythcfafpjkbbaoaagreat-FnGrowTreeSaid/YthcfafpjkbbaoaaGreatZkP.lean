/- The law FnGrowTree, and its closed facts. -/
import Derived.Test.YthcfafpjkbbaoaaGreatRows
import Derived.ProofKit
import Derived.Test.YthcfafpjkbbaoaaGreatZk1

set_option linter.unusedSimpArgs false
namespace Go.Proofs.YthcfafpjkbbaoaaGreat
open Go Go.ChangeShapes Go.WideShapes Go.ChangeAt Go.RowKit

theorem law_FnGrowTree (cs : List AV) (h : TyArgs tab Tryz.f5.params.toList cs) : Det Tryz.prog 5 cs (.bool true) :=
  law_code c_laws_FnGrowTree h

set_option maxRecDepth 100000 in
theorem fnGrowTree_lifted (os : Os) (started : os.Started) (H : Type) (enc : TypeId × Value → H) :
    ReturnsInHanded {} Tryz.checked os 5 .any (Rows.fnGrowTreeSpec.pre6 enc Tryz.prog Tryz.f5 Rows.fnGrowTreeRow.domain false) (Rows.fnGrowTreeSpec.post enc Tryz.prog Tryz.f5 false true false false) := by
  refine returnsInHanded_of_change (C := Tryz.checked) own_ started (by kernel_rfl) Tryz.func5
    (ChangeSpec.witness6 (enc := enc) (C := Tryz.checked) false ⟨#[], #[.slice none 0 0], []⟩ 8 (by kernel_rfl) (by kernel_rfl) (by kernel_rfl) (by kernel_rfl)) ?_
  intro W base args ds gs before hval hW _ _
  exact law_calls tab_ok laidOut_ 8 (f := Tryz.f5) hval hW rfl (by kernel_rfl) (by kernel_rfl) rfl Tryz.underlying4
    (fun ds' h => by
      have h4 : ds'.length = 1 := h.trans (by kernel_rfl)
      match ds', h4 with
      | [_], _ => rfl) law_FnGrowTree

theorem fnGrowTree_holds : Rows.FnGrowTreeSaid :=
  OpenClaim.holds_of_wide 5 Tryz.f5 rfl rfl rfl rfl rfl rfl rfl ⟨rfl, rfl, rfl, rfl, rfl⟩ rfl rfl rfl rfl rfl fnGrowTree_named Tryz.func5 fnGrowTree_closed fnGrowTree_inst fnGrowTree_wrap
    (fun os started H enc _ => fnGrowTree_lifted os started H enc)


end Go.Proofs.YthcfafpjkbbaoaaGreat
