/- The law FnEngineAgain: done engines stay. -/
import Derived.Test.YteebkimhfaodnaaGreatRows
import Derived.ProofKit
import Derived.Test.YteebkimhfaodnaaGreatZi1

set_option linter.unusedSimpArgs false
namespace Go.Proofs.YteebkimhfaodnaaGreat
open Go Go.ChangeShapes Go.WideShapes Go.ChangeAt Go.RowKit

theorem law_FnEngineAgain (cs : List AV) (h : TyArgs tab Tryz.f7.params.toList cs) : Det Tryz.prog 7 cs (.bool true) :=
  law_code c_laws_FnEngineAgain h

set_option maxRecDepth 100000 in
theorem fnEngineAgain_lifted (os : Os) (started : os.Started) (H : Type) (enc : TypeId × Value → H) :
    ReturnsInHanded {} Tryz.checked os 7 .any (Rows.fnEngineAgainSpec.pre6 enc Tryz.prog Tryz.f7 Rows.fnEngineAgainRow.domain false) (Rows.fnEngineAgainSpec.post enc Tryz.prog Tryz.f7 false true false false) := by
  refine returnsInHanded_of_change (C := Tryz.checked) own_ started (by kernel_rfl) Tryz.func7
    (ChangeSpec.witness6 (enc := enc) (C := Tryz.checked) false ⟨#[], #[.slice none 0 0], []⟩ 8 (by kernel_rfl) (by kernel_rfl) (by kernel_rfl) (by kernel_rfl)) ?_
  intro W base args ds gs before hval hW _ _
  exact law_calls tab_ok laidOut_ 8 (f := Tryz.f7) hval hW rfl (by kernel_rfl) (by kernel_rfl) rfl Tryz.underlying4
    (fun ds' h => by
      have h4 : ds'.length = 1 := h.trans (by kernel_rfl)
      match ds', h4 with
      | [_], _ => rfl) law_FnEngineAgain

theorem fnEngineAgain_holds : Rows.FnEngineAgainSaid :=
  OpenClaim.holds_of_wide 7 Tryz.f7 rfl rfl rfl rfl rfl rfl rfl ⟨rfl, rfl, rfl, rfl, rfl⟩ rfl rfl rfl rfl rfl fnEngineAgain_named Tryz.func7 fnEngineAgain_closed fnEngineAgain_inst fnEngineAgain_wrap
    (fun os started H enc _ => fnEngineAgain_lifted os started H enc)


end Go.Proofs.YteebkimhfaodnaaGreat
