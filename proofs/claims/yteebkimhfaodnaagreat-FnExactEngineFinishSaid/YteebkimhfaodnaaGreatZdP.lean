/- FnExactEngineFinish: the program's EngineFinish returns what the reference's returns, leaves its arguments as they were and hands back memory of its own; for all arguments. -/
import Derived.Test.YteebkimhfaodnaaGreatRows
import Derived.ProofKit
import Derived.Test.YteebkimhfaodnaaGreatZd1

set_option linter.unusedSimpArgs false
namespace Go.Proofs.YteebkimhfaodnaaGreat
open Go Go.ChangeShapes Go.WideShapes Go.ChangeAt Go.RowKit

theorem law_FnExactEngineFinish (cs : List AV) (h : TyArgs tab Tryz.f5.params.toList cs) : Det Tryz.prog 5 cs (.bool true) := by
  match cs, h with
  | [z0], h =>
    obtain ⟨n00, n01, n02, n03, e, e0, he⟩ := ty_engine h.1
    refine FSpec.args (c_laws_FnExactEngineFinish n00 n01 n02 n03 e he) rfl fun i hi => ?_
    match i, hi with
    | 0, _ => exact e0

set_option maxRecDepth 100000 in
theorem fnExactEngineFinish_lifted (os : Os) (started : os.Started) (H : Type) (enc : TypeId × Value → H) :
    ReturnsInHanded {} Tryz.checked os 5 .any (Rows.fnExactEngineFinishSpec.pre6 enc Tryz.prog Tryz.f5 Rows.fnExactEngineFinishRow.domain false) (Rows.fnExactEngineFinishSpec.post enc Tryz.prog Tryz.f5 false true false false) := by
  refine returnsInHanded_of_change (C := Tryz.checked) own_ started (by kernel_rfl) Tryz.func5
    (ChangeSpec.witness6 (enc := enc) (C := Tryz.checked) false ⟨#[], #[.agg #[.slice none 0 0, .slice none 0 0, .slice none 0 0, .slice none 0 0]], []⟩ 8 (by kernel_rfl) (by kernel_rfl) (by kernel_rfl) (by kernel_rfl)) ?_
  intro W base args ds gs before hval hW _ _
  exact law_calls tab_ok laidOut_ 8 (f := Tryz.f5) hval hW rfl (by kernel_rfl) (by kernel_rfl) rfl Tryz.underlying4
    (fun ds' h => by
      have h4 : ds'.length = 1 := h.trans (by kernel_rfl)
      match ds', h4 with
      | [_], _ => rfl) law_FnExactEngineFinish

theorem fnExactEngineFinish_holds : Rows.FnExactEngineFinishSaid :=
  OpenClaim.holds_of_wide 5 Tryz.f5 rfl rfl rfl rfl rfl rfl rfl ⟨rfl, rfl, rfl, rfl, rfl⟩ rfl rfl rfl rfl rfl fnExactEngineFinish_named Tryz.func5 fnExactEngineFinish_closed fnExactEngineFinish_inst fnExactEngineFinish_wrap
    (fun os started H enc _ => fnExactEngineFinish_lifted os started H enc)


end Go.Proofs.YteebkimhfaodnaaGreat
