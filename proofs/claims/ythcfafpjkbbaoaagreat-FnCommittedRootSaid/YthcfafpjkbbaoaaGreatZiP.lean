/- The law FnCommittedRoot, and its closed facts. -/
import Derived.Test.YthcfafpjkbbaoaaGreatRows
import Derived.ProofKit
import Derived.Test.YthcfafpjkbbaoaaGreatZi1

set_option linter.unusedSimpArgs false
namespace Go.Proofs.YthcfafpjkbbaoaaGreat
open Go Go.ChangeShapes Go.WideShapes Go.ChangeAt Go.RowKit

theorem law_FnCommittedRoot (cs : List AV) (h : TyArgs tab Tryz.f12.params.toList cs) : Det Tryz.prog 12 cs (.bool true) :=
  law_code c_laws_FnCommittedRoot h

set_option maxRecDepth 100000 in
theorem fnCommittedRoot_lifted (os : Os) (started : os.Started) (H : Type) (enc : TypeId × Value → H) :
    ReturnsInHanded {} Tryz.checked os 12 .any (Rows.fnCommittedRootSpec.pre6 enc Tryz.prog Tryz.f12 Rows.fnCommittedRootRow.domain false) (Rows.fnCommittedRootSpec.post enc Tryz.prog Tryz.f12 false true false false) := by
  refine returnsInHanded_of_change (C := Tryz.checked) own_ started (by kernel_rfl) Tryz.func12
    (ChangeSpec.witness6 (enc := enc) (C := Tryz.checked) false ⟨#[], #[.slice none 0 0], []⟩ 8 (by kernel_rfl) (by kernel_rfl) (by kernel_rfl) (by kernel_rfl)) ?_
  intro W base args ds gs before hval hW _ _
  exact law_calls tab_ok laidOut_ 8 (f := Tryz.f12) hval hW rfl (by kernel_rfl) (by kernel_rfl) rfl Tryz.underlying4
    (fun ds' h => by
      have h4 : ds'.length = 1 := h.trans (by kernel_rfl)
      match ds', h4 with
      | [_], _ => rfl) law_FnCommittedRoot

theorem fnCommittedRoot_holds : Rows.FnCommittedRootSaid :=
  OpenClaim.holds_of_wide 12 Tryz.f12 rfl rfl rfl rfl rfl rfl rfl ⟨rfl, rfl, rfl, rfl, rfl⟩ rfl rfl rfl rfl rfl fnCommittedRoot_named Tryz.func12 fnCommittedRoot_closed fnCommittedRoot_inst fnCommittedRoot_wrap
    (fun os started H enc _ => fnCommittedRoot_lifted os started H enc)


end Go.Proofs.YthcfafpjkbbaoaaGreat
