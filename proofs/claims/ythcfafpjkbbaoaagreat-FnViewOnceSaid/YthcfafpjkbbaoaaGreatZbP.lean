/- The law FnViewOnce, and its closed facts. -/
import Derived.Test.YthcfafpjkbbaoaaGreatRows
import Derived.ProofKit
import Derived.Test.YthcfafpjkbbaoaaGreatZb1

set_option linter.unusedSimpArgs false
namespace Go.Proofs.YthcfafpjkbbaoaaGreat
open Go Go.ChangeShapes Go.WideShapes Go.ChangeAt Go.RowKit

theorem law_FnViewOnce (cs : List AV) (h : TyArgs tab Tryz.f8.params.toList cs) : Det Tryz.prog 8 cs (.bool true) :=
  law_code c_laws_FnViewOnce h

set_option maxRecDepth 100000 in
theorem fnViewOnce_lifted (os : Os) (started : os.Started) (H : Type) (enc : TypeId × Value → H) :
    ReturnsInHanded {} Tryz.checked os 8 .any (Rows.fnViewOnceSpec.pre6 enc Tryz.prog Tryz.f8 Rows.fnViewOnceRow.domain false) (Rows.fnViewOnceSpec.post enc Tryz.prog Tryz.f8 false true false false) := by
  refine returnsInHanded_of_change (C := Tryz.checked) own_ started (by kernel_rfl) Tryz.func8
    (ChangeSpec.witness6 (enc := enc) (C := Tryz.checked) false ⟨#[], #[.slice none 0 0], []⟩ 8 (by kernel_rfl) (by kernel_rfl) (by kernel_rfl) (by kernel_rfl)) ?_
  intro W base args ds gs before hval hW _ _
  exact law_calls tab_ok laidOut_ 8 (f := Tryz.f8) hval hW rfl (by kernel_rfl) (by kernel_rfl) rfl Tryz.underlying4
    (fun ds' h => by
      have h4 : ds'.length = 1 := h.trans (by kernel_rfl)
      match ds', h4 with
      | [_], _ => rfl) law_FnViewOnce

theorem fnViewOnce_holds : Rows.FnViewOnceSaid :=
  OpenClaim.holds_of_wide 8 Tryz.f8 rfl rfl rfl rfl rfl rfl rfl ⟨rfl, rfl, rfl, rfl, rfl⟩ rfl rfl rfl rfl rfl fnViewOnce_named Tryz.func8 fnViewOnce_closed fnViewOnce_inst fnViewOnce_wrap
    (fun os started H enc _ => fnViewOnce_lifted os started H enc)


end Go.Proofs.YthcfafpjkbbaoaaGreat
