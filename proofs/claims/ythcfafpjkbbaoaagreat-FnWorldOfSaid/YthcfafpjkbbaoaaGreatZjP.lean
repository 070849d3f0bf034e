/- The law FnWorldOf, and its closed facts. -/
import Derived.Test.YthcfafpjkbbaoaaGreatRows
import Derived.ProofKit
import Derived.Test.YthcfafpjkbbaoaaGreatZj1

set_option linter.unusedSimpArgs false
namespace Go.Proofs.YthcfafpjkbbaoaaGreat
open Go Go.ChangeShapes Go.WideShapes Go.ChangeAt Go.RowKit

theorem law_FnWorldOf (cs : List AV) (h : TyArgs tab Tryz.f4.params.toList cs) : Det Tryz.prog 4 cs (.bool true) :=
  law_code c_laws_FnWorldOf h

set_option maxRecDepth 100000 in
theorem fnWorldOf_lifted (os : Os) (started : os.Started) (H : Type) (enc : TypeId × Value → H) :
    ReturnsInHanded {} Tryz.checked os 4 .any (Rows.fnWorldOfSpec.pre6 enc Tryz.prog Tryz.f4 Rows.fnWorldOfRow.domain false) (Rows.fnWorldOfSpec.post enc Tryz.prog Tryz.f4 false true false false) := by
  refine returnsInHanded_of_change (C := Tryz.checked) own_ started (by kernel_rfl) Tryz.func4
    (ChangeSpec.witness6 (enc := enc) (C := Tryz.checked) false ⟨#[], #[.slice none 0 0], []⟩ 8 (by kernel_rfl) (by kernel_rfl) (by kernel_rfl) (by kernel_rfl)) ?_
  intro W base args ds gs before hval hW _ _
  exact law_calls tab_ok laidOut_ 8 (f := Tryz.f4) hval hW rfl (by kernel_rfl) (by kernel_rfl) rfl Tryz.underlying4
    (fun ds' h => by
      have h4 : ds'.length = 1 := h.trans (by kernel_rfl)
      match ds', h4 with
      | [_], _ => rfl) law_FnWorldOf

theorem fnWorldOf_holds : Rows.FnWorldOfSaid :=
  OpenClaim.holds_of_wide 4 Tryz.f4 rfl rfl rfl rfl rfl rfl rfl ⟨rfl, rfl, rfl, rfl, rfl⟩ rfl rfl rfl rfl rfl fnWorldOf_named Tryz.func4 fnWorldOf_closed fnWorldOf_inst fnWorldOf_wrap
    (fun os started H enc _ => fnWorldOf_lifted os started H enc)


end Go.Proofs.YthcfafpjkbbaoaaGreat
