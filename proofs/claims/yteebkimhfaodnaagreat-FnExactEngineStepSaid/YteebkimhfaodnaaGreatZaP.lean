/- FnExactEngineStep: the program's EngineStep returns what the reference's returns, leaves its arguments as they were and hands back memory of its own; for all arguments. -/
import Derived.Test.YteebkimhfaodnaaGreatRows
import Derived.ProofKit
import Derived.Test.YteebkimhfaodnaaGreatZa1

set_option linter.unusedSimpArgs false
namespace Go.Proofs.YteebkimhfaodnaaGreat
open Go Go.ChangeShapes Go.WideShapes Go.ChangeAt Go.RowKit

theorem law_FnExactEngineStep (cs : List AV) (h : TyArgs tab Tryz.f3.params.toList cs) : Det Tryz.prog 3 cs (.bool true) := by
  match cs, h with
  | [z0, z1], h =>
    obtain ⟨n00, n01, n02, n03, e, e0, he⟩ := ty_engine h.1
    obtain ⟨n, rfl⟩ := ty_intA h.2.1
    refine FSpec.args (c_laws_FnExactEngineStep n00 n01 n02 n03 e n he) rfl fun i hi => ?_
    match i, hi with
    | 0, _ => exact e0
    | 1, _ => exact .refl _

set_option maxRecDepth 100000 in
theorem fnExactEngineStep_lifted (os : Os) (started : os.Started) (H : Type) (enc : TypeId × Value → H) :
    ReturnsInHanded {} Tryz.checked os 3 .any (Rows.fnExactEngineStepSpec.pre6 enc Tryz.prog Tryz.f3 Rows.fnExactEngineStepRow.domain false) (Rows.fnExactEngineStepSpec.post enc Tryz.prog Tryz.f3 false true false false) := by
  refine returnsInHanded_of_change (C := Tryz.checked) own_ started (by kernel_rfl) Tryz.func3
    (ChangeSpec.witness6 (enc := enc) (C := Tryz.checked) false ⟨#[], #[.agg #[.slice none 0 0, .slice none 0 0, .slice none 0 0, .slice none 0 0], .int .i64 0], []⟩ 8 (by kernel_rfl) (by kernel_rfl) (by kernel_rfl) (by kernel_rfl)) ?_
  intro W base args ds gs before hval hW _ _
  exact law_calls tab_ok laidOut_ 8 (f := Tryz.f3) hval hW rfl (by kernel_rfl) (by kernel_rfl) rfl Tryz.underlying4
    (fun ds' h => by
      have h4 : ds'.length = 2 := h.trans (by kernel_rfl)
      match ds', h4 with
      | [_, _], _ => rfl) law_FnExactEngineStep

theorem fnExactEngineStep_holds : Rows.FnExactEngineStepSaid :=
  OpenClaim.holds_of_wide 3 Tryz.f3 rfl rfl rfl rfl rfl rfl rfl ⟨rfl, rfl, rfl, rfl, rfl⟩ rfl rfl rfl rfl rfl fnExactEngineStep_named Tryz.func3 fnExactEngineStep_closed fnExactEngineStep_inst fnExactEngineStep_wrap
    (fun os started H enc _ => fnExactEngineStep_lifted os started H enc)


end Go.Proofs.YteebkimhfaodnaaGreat
