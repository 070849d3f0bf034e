/- FnExactWorldRun: the program's WorldRun returns what the reference's returns, leaves its arguments as they were and hands back memory of its own; for all arguments. -/
import Derived.Test.YtmibclbinebnjaaGreatRows
import Derived.ProofKit
import Derived.Test.YtmibclbinebnjaaGreatZt1

set_option linter.unusedSimpArgs false
namespace Go.Proofs.YtmibclbinebnjaaGreat
open Go Go.ChangeShapes Go.WideShapes Go.ChangeAt Go.RowKit

theorem law_FnExactWorldRun (cs : List AV) (h : TyArgs tab Tryz.f17.params.toList cs) : Det Tryz.prog 17 cs (.bool true) := by
  match cs, h with
  | [z0, z1], h =>
    obtain ⟨n00, n01, n02, n03, n04, w, e0, hw⟩ := ty_world h.1
    obtain ⟨n10, sc, e1, hsc⟩ := ty_ints h.2.1
    refine FSpec.args (c_laws_FnExactWorldRun n00 n01 n02 n03 n04 n10 w sc hw hsc) rfl fun i hi => ?_
    match i, hi with
    | 0, _ => exact e0
    | 1, _ => exact e1

set_option maxRecDepth 100000 in
theorem fnExactWorldRun_lifted (os : Os) (started : os.Started) (H : Type) (enc : TypeId × Value → H) :
    ReturnsInHanded {} Tryz.checked os 17 .any (Rows.fnExactWorldRunSpec.pre6 enc Tryz.prog Tryz.f17 Rows.fnExactWorldRunRow.domain false) (Rows.fnExactWorldRunSpec.post enc Tryz.prog Tryz.f17 false true false false) := by
  refine returnsInHanded_of_change (C := Tryz.checked) own_ started (by kernel_rfl) Tryz.func17
    (ChangeSpec.witness6 (enc := enc) (C := Tryz.checked) false ⟨#[], #[.agg #[.slice none 0 0, .slice none 0 0, .slice none 0 0, .slice none 0 0, .slice none 0 0], .slice none 0 0], []⟩ 8 (by kernel_rfl) (by kernel_rfl) (by kernel_rfl) (by kernel_rfl)) ?_
  intro W base args ds gs before hval hW _ _
  exact law_calls tab_ok laidOut_ 8 (f := Tryz.f17) hval hW rfl (by kernel_rfl) (by kernel_rfl) rfl Tryz.underlying4
    (fun ds' h => by
      have h4 : ds'.length = 2 := h.trans (by kernel_rfl)
      match ds', h4 with
      | [_, _], _ => rfl) law_FnExactWorldRun

theorem fnExactWorldRun_holds : Rows.FnExactWorldRunSaid :=
  OpenClaim.holds_of_wide 17 Tryz.f17 rfl rfl rfl rfl rfl rfl rfl ⟨rfl, rfl, rfl, rfl, rfl⟩ rfl rfl rfl rfl rfl fnExactWorldRun_named Tryz.func17 fnExactWorldRun_closed fnExactWorldRun_inst fnExactWorldRun_wrap
    (fun os started H enc _ => fnExactWorldRun_lifted os started H enc)


end Go.Proofs.YtmibclbinebnjaaGreat
