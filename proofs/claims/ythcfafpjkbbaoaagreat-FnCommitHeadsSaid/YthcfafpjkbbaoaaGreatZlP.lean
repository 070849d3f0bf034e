/- The law FnCommitHeads, and its closed facts. -/
import Derived.Test.YthcfafpjkbbaoaaGreatRows
import Derived.ProofKit
import Derived.Test.YthcfafpjkbbaoaaGreatZl1

set_option linter.unusedSimpArgs false
namespace Go.Proofs.YthcfafpjkbbaoaaGreat
open Go Go.ChangeShapes Go.WideShapes Go.ChangeAt Go.RowKit

theorem law_FnCommitHeads (cs : List AV) (h : TyArgs tab Tryz.f3.params.toList cs) : Det Tryz.prog 3 cs (.bool true) :=
  law_code c_laws_FnCommitHeads h

set_option maxRecDepth 100000 in
theorem fnCommitHeads_lifted (os : Os) (started : os.Started) (H : Type) (enc : TypeId × Value → H) :
    ReturnsInHanded {} Tryz.checked os 3 .any (Rows.fnCommitHeadsSpec.pre6 enc Tryz.prog Tryz.f3 Rows.fnCommitHeadsRow.domain false) (Rows.fnCommitHeadsSpec.post enc Tryz.prog Tryz.f3 false true false false) := by
  refine returnsInHanded_of_change (C := Tryz.checked) own_ started (by kernel_rfl) Tryz.func3
    (ChangeSpec.witness6 (enc := enc) (C := Tryz.checked) false ⟨#[], #[.slice none 0 0], []⟩ 8 (by kernel_rfl) (by kernel_rfl) (by kernel_rfl) (by kernel_rfl)) ?_
  intro W base args ds gs before hval hW _ _
  exact law_calls tab_ok laidOut_ 8 (f := Tryz.f3) hval hW rfl (by kernel_rfl) (by kernel_rfl) rfl Tryz.underlying4
    (fun ds' h => by
      have h4 : ds'.length = 1 := h.trans (by kernel_rfl)
      match ds', h4 with
      | [_], _ => rfl) law_FnCommitHeads

theorem fnCommitHeads_holds : Rows.FnCommitHeadsSaid :=
  OpenClaim.holds_of_wide 3 Tryz.f3 rfl rfl rfl rfl rfl rfl rfl ⟨rfl, rfl, rfl, rfl, rfl⟩ rfl rfl rfl rfl rfl fnCommitHeads_named Tryz.func3 fnCommitHeads_closed fnCommitHeads_inst fnCommitHeads_wrap
    (fun os started H enc _ => fnCommitHeads_lifted os started H enc)


end Go.Proofs.YthcfafpjkbbaoaaGreat
