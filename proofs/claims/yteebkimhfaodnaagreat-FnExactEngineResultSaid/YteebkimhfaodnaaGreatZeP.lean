/- FnExactEngineResult: the program's EngineResult returns what the reference's returns, leaves its arguments as they were and hands back memory of its own; for all arguments. -/
import Derived.Test.YteebkimhfaodnaaGreatRows
import Derived.ProofKit
import Derived.Test.YteebkimhfaodnaaGreatZe1

set_option linter.unusedSimpArgs false
namespace Go.Proofs.YteebkimhfaodnaaGreat
open Go Go.ChangeShapes Go.WideShapes Go.ChangeAt Go.RowKit

theorem law_FnExactEngineResult (cs : List AV) (h : TyArgs tab Tryz.f10.params.toList cs) : Det Tryz.prog 10 cs (.bool true) := by
  match cs, h with
  | [z0], h =>
    obtain ⟨n00, n01, n02, n03, e, e0, he⟩ := ty_engine h.1
    refine FSpec.args (c_laws_FnExactEngineResult n00 n01 n02 n03 e he) rfl fun i hi => ?_
    match i, hi with
    | 0, _ => exact e0

set_option maxRecDepth 100000 in
theorem fnExactEngineResult_lifted (os : Os) (started : os.Started) (H : Type) (enc : TypeId × Value → H) :
    ReturnsInHanded {} Tryz.checked os 10 .any (Rows.fnExactEngineResultSpec.pre6 enc Tryz.prog Tryz.f10 Rows.fnExactEngineResultRow.domain false) (Rows.fnExactEngineResultSpec.post enc Tryz.prog Tryz.f10 false true false false) := by
  refine returnsInHanded_of_change (C := Tryz.checked) own_ started (by kernel_rfl) Tryz.func10
    (ChangeSpec.witness6 (enc := enc) (C := Tryz.checked) false ⟨#[], #[.agg #[.slice none 0 0, .slice none 0 0, .slice none 0 0, .slice none 0 0]], []⟩ 8 (by kernel_rfl) (by kernel_rfl) (by kernel_rfl) (by kernel_rfl)) ?_
  intro W base args ds gs before hval hW _ _
  exact law_calls tab_ok laidOut_ 8 (f := Tryz.f10) hval hW rfl (by kernel_rfl) (by kernel_rfl) rfl Tryz.underlying4
    (fun ds' h => by
      have h4 : ds'.length = 1 := h.trans (by kernel_rfl)
      match ds', h4 with
      | [_], _ => rfl) law_FnExactEngineResult

theorem fnExactEngineResult_holds : Rows.FnExactEngineResultSaid :=
  OpenClaim.holds_of_wide 10 Tryz.f10 rfl rfl rfl rfl rfl rfl rfl ⟨rfl, rfl, rfl, rfl, rfl⟩ rfl rfl rfl rfl rfl fnExactEngineResult_named Tryz.func10 fnExactEngineResult_closed fnExactEngineResult_inst fnExactEngineResult_wrap
    (fun os started H enc _ => fnExactEngineResult_lifted os started H enc)


end Go.Proofs.YteebkimhfaodnaaGreat
