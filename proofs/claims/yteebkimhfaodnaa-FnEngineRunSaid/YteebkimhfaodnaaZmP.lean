/- The law FnEngineRun: scripts are run step by step. -/
import Derived.Test.YteebkimhfaodnaaRows
import Derived.ProofKit
import Derived.Test.YteebkimhfaodnaaZm1

set_option linter.unusedSimpArgs false
namespace Go.Proofs.Yteebkimhfaodnaa
open Go Go.ChangeShapes Go.WideShapes Go.ChangeAt Go.RowKit

theorem law_FnEngineRun (cs : List AV) (h : TyArgs tab Try.f6.params.toList cs) : Det Try.prog 6 cs (.bool true) :=
  law_code c_laws_FnEngineRun h

set_option maxRecDepth 100000 in
theorem fnEngineRun_lifted (os : Os) (started : os.Started) (H : Type) (enc : TypeId × Value → H) :
    ReturnsInHanded {} Try.checked os 6 .any (Rows.fnEngineRunSpec.pre6 enc Try.prog Try.f6 Rows.fnEngineRunRow.domain false) (Rows.fnEngineRunSpec.post enc Try.prog Try.f6 false true false false) := by
  refine returnsInHanded_of_change (C := Try.checked) own_ started (by kernel_rfl) Try.func6
    (ChangeSpec.witness6 (enc := enc) (C := Try.checked) false ⟨#[], #[.slice none 0 0], []⟩ 8 (by kernel_rfl) (by kernel_rfl) (by kernel_rfl) (by kernel_rfl)) ?_
  intro W base args ds gs before hval hW _ _
  exact law_calls tab_ok laidOut_ 8 (f := Try.f6) hval hW rfl (by kernel_rfl) (by kernel_rfl) rfl Try.underlying4
    (fun ds' h => by
      have h4 : ds'.length = 1 := h.trans (by kernel_rfl)
      match ds', h4 with
      | [_], _ => rfl) law_FnEngineRun

theorem fnEngineRun_holds : Rows.FnEngineRunSaid :=
  OpenClaim.holds_of_wide 6 Try.f6 rfl rfl rfl rfl rfl rfl rfl ⟨rfl, rfl, rfl, rfl, rfl⟩ rfl rfl rfl rfl rfl fnEngineRun_named Try.func6 fnEngineRun_closed fnEngineRun_inst fnEngineRun_wrap
    (fun os started H enc _ => fnEngineRun_lifted os started H enc)


end Go.Proofs.Yteebkimhfaodnaa
