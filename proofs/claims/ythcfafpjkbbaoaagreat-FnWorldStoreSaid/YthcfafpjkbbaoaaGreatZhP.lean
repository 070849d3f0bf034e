/- The law FnWorldStore, and its closed facts. -/
import Derived.Test.YthcfafpjkbbaoaaGreatRows
import Derived.ProofKit
import Derived.Test.YthcfafpjkbbaoaaGreatZh1

set_option linter.unusedSimpArgs false
namespace Go.Proofs.YthcfafpjkbbaoaaGreat
open Go Go.ChangeShapes Go.WideShapes Go.ChangeAt Go.RowKit

theorem law_FnWorldStore (cs : List AV) (h : TyArgs tab Tryz.f11.params.toList cs) : Det Tryz.prog 11 cs (.bool true) :=
  law_code c_laws_FnWorldStore h

set_option maxRecDepth 100000 in
theorem fnWorldStore_lifted (os : Os) (started : os.Started) (H : Type) (enc : TypeId × Value → H) :
    ReturnsInHanded {} Tryz.checked os 11 .any (Rows.fnWorldStoreSpec.pre6 enc Tryz.prog Tryz.f11 Rows.fnWorldStoreRow.domain false) (Rows.fnWorldStoreSpec.post enc Tryz.prog Tryz.f11 false true false false) := by
  refine returnsInHanded_of_change (C := Tryz.checked) own_ started (by kernel_rfl) Tryz.func11
    (ChangeSpec.witness6 (enc := enc) (C := Tryz.checked) false ⟨#[], #[.slice none 0 0], []⟩ 8 (by kernel_rfl) (by kernel_rfl) (by kernel_rfl) (by kernel_rfl)) ?_
  intro W base args ds gs before hval hW _ _
  exact law_calls tab_ok laidOut_ 8 (f := Tryz.f11) hval hW rfl (by kernel_rfl) (by kernel_rfl) rfl Tryz.underlying4
    (fun ds' h => by
      have h4 : ds'.length = 1 := h.trans (by kernel_rfl)
      match ds', h4 with
      | [_], _ => rfl) law_FnWorldStore

theorem fnWorldStore_holds : Rows.FnWorldStoreSaid :=
  OpenClaim.holds_of_wide 11 Tryz.f11 rfl rfl rfl rfl rfl rfl rfl ⟨rfl, rfl, rfl, rfl, rfl⟩ rfl rfl rfl rfl rfl fnWorldStore_named Tryz.func11 fnWorldStore_closed fnWorldStore_inst fnWorldStore_wrap
    (fun os started H enc _ => fnWorldStore_lifted os started H enc)


end Go.Proofs.YthcfafpjkbbaoaaGreat
