/- The law FnWorldRun, and its closed facts. -/
import Derived.Test.YthcfafpjkbbaoaaGreatRows
import Derived.ProofKit
import Derived.Test.YthcfafpjkbbaoaaGreatZe1

set_option linter.unusedSimpArgs false
namespace Go.Proofs.YthcfafpjkbbaoaaGreat
open Go Go.ChangeShapes Go.WideShapes Go.ChangeAt Go.RowKit

theorem law_FnWorldRun (cs : List AV) (h : TyArgs tab Tryz.f10.params.toList cs) : Det Tryz.prog 10 cs (.bool true) :=
  law_code c_laws_FnWorldRun h

set_option maxRecDepth 100000 in
theorem fnWorldRun_lifted (os : Os) (started : os.Started) (H : Type) (enc : TypeId × Value → H) :
    ReturnsInHanded {} Tryz.checked os 10 .any (Rows.fnWorldRunSpec.pre6 enc Tryz.prog Tryz.f10 Rows.fnWorldRunRow.domain false) (Rows.fnWorldRunSpec.post enc Tryz.prog Tryz.f10 false true false false) := by
  refine returnsInHanded_of_change (C := Tryz.checked) own_ started (by kernel_rfl) Tryz.func10
    (ChangeSpec.witness6 (enc := enc) (C := Tryz.checked) false ⟨#[], #[.slice none 0 0], []⟩ 8 (by kernel_rfl) (by kernel_rfl) (by kernel_rfl) (by kernel_rfl)) ?_
  intro W base args ds gs before hval hW _ _
  exact law_calls tab_ok laidOut_ 8 (f := Tryz.f10) hval hW rfl (by kernel_rfl) (by kernel_rfl) rfl Tryz.underlying4
    (fun ds' h => by
      have h4 : ds'.length = 1 := h.trans (by kernel_rfl)
      match ds', h4 with
      | [_], _ => rfl) law_FnWorldRun

theorem fnWorldRun_holds : Rows.FnWorldRunSaid :=
  OpenClaim.holds_of_wide 10 Tryz.f10 rfl rfl rfl rfl rfl rfl rfl ⟨rfl, rfl, rfl, rfl, rfl⟩ rfl rfl rfl rfl rfl fnWorldRun_named Tryz.func10 fnWorldRun_closed fnWorldRun_inst fnWorldRun_wrap
    (fun os started H enc _ => fnWorldRun_lifted os started H enc)


end Go.Proofs.YthcfafpjkbbaoaaGreat
