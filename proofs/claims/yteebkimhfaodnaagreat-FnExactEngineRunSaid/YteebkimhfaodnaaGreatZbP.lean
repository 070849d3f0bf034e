/- FnExactEngineRun: the program's EngineRun returns what the reference's returns, leaves its arguments as they were and hands back memory of its own; for all arguments. -/
import Derived.Test.YteebkimhfaodnaaGreatRows
import Derived.ProofKit
import Derived.Test.YteebkimhfaodnaaGreatZb1

set_option linter.unusedSimpArgs false
namespace Go.Proofs.YteebkimhfaodnaaGreat
open Go Go.ChangeShapes Go.WideShapes Go.ChangeAt Go.RowKit

theorem law_FnExactEngineRun (cs : List AV) (h : TyArgs tab Tryz.f4.params.toList cs) : Det Tryz.prog 4 cs (.bool true) := by
  match cs, h with
  | [z0, z1], h =>
    obtain ⟨n00, n01, n02, n03, e, e0, he⟩ := ty_engine h.1
    obtain ⟨n10, sc, e1, hsc⟩ := ty_intsG h.2.1
    refine FSpec.args (c_laws_FnExactEngineRun n00 n01 n02 n03 n10 e sc he hsc) rfl fun i hi => ?_
    match i, hi with
    | 0, _ => exact e0
    | 1, _ => exact e1

set_option maxRecDepth 100000 in
theorem fnExactEngineRun_lifted (os : Os) (started : os.Started) (H : Type) (enc : TypeId × Value → H) :
    ReturnsInHanded {} Tryz.checked os 4 .any (Rows.fnExactEngineRunSpec.pre6 enc Tryz.prog Tryz.f4 Rows.fnExactEngineRunRow.domain false) (Rows.fnExactEngineRunSpec.post enc Tryz.prog Tryz.f4 false true false false) := by
  refine returnsInHanded_of_change (C := Tryz.checked) own_ started (by kernel_rfl) Tryz.func4
    (ChangeSpec.witness6 (enc := enc) (C := Tryz.checked) false ⟨#[], #[.agg #[.slice none 0 0, .slice none 0 0, .slice none 0 0, .slice none 0 0], .slice none 0 0], []⟩ 8 (by kernel_rfl) (by kernel_rfl) (by kernel_rfl) (by kernel_rfl)) ?_
  intro W base args ds gs before hval hW _ _
  exact law_calls tab_ok laidOut_ 8 (f := Tryz.f4) hval hW rfl (by kernel_rfl) (by kernel_rfl) rfl Tryz.underlying4
    (fun ds' h => by
      have h4 : ds'.length = 2 := h.trans (by kernel_rfl)
      match ds', h4 with
      | [_, _], _ => rfl) law_FnExactEngineRun

theorem fnExactEngineRun_holds : Rows.FnExactEngineRunSaid :=
  OpenClaim.holds_of_wide 4 Tryz.f4 rfl rfl rfl rfl rfl rfl rfl ⟨rfl, rfl, rfl, rfl, rfl⟩ rfl rfl rfl rfl rfl fnExactEngineRun_named Tryz.func4 fnExactEngineRun_closed fnExactEngineRun_inst fnExactEngineRun_wrap
    (fun os started H enc _ => fnExactEngineRun_lifted os started H enc)


end Go.Proofs.YteebkimhfaodnaaGreat
