/- FnExactWorldGrow: the program's WorldGrow returns what the reference's returns, leaves its arguments as they were and hands back memory of its own; for all arguments. -/
import Derived.Test.YtmibclbinebnjaaGreatRows
import Derived.ProofKit
import Derived.Test.YtmibclbinebnjaaGreatZr1

set_option linter.unusedSimpArgs false
namespace Go.Proofs.YtmibclbinebnjaaGreat
open Go Go.ChangeShapes Go.WideShapes Go.ChangeAt Go.RowKit

theorem law_FnExactWorldGrow (cs : List AV) (h : TyArgs tab Tryz.f19.params.toList cs) : Det Tryz.prog 19 cs (.bool true) := by
  match cs, h with
  | [z0, z1, z2, z3], h =>
    obtain ⟨n00, n01, n02, n03, n04, w, e0, hw⟩ := ty_world h.1
    obtain ⟨n, rfl⟩ := ty_intA h.2.1
    obtain ⟨v, rfl⟩ := ty_intA h.2.2.1
    obtain ⟨n30, l, e3, hl⟩ := ty_actions h.2.2.2.1
    refine FSpec.args (c_laws_FnExactWorldGrow n00 n01 n02 n03 n04 n30 w n v l hw hl) rfl fun i hi => ?_
    match i, hi with
    | 0, _ => exact e0
    | 1, _ => exact .refl _
    | 2, _ => exact .refl _
    | 3, _ => exact e3

set_option maxRecDepth 100000 in
theorem fnExactWorldGrow_lifted (os : Os) (started : os.Started) (H : Type) (enc : TypeId × Value → H) :
    ReturnsInHanded {} Tryz.checked os 19 .any (Rows.fnExactWorldGrowSpec.pre6 enc Tryz.prog Tryz.f19 Rows.fnExactWorldGrowRow.domain false) (Rows.fnExactWorldGrowSpec.post enc Tryz.prog Tryz.f19 false true false false) := by
  refine returnsInHanded_of_change (C := Tryz.checked) own_ started (by kernel_rfl) Tryz.func19
    (ChangeSpec.witness6 (enc := enc) (C := Tryz.checked) false ⟨#[], #[.agg #[.slice none 0 0, .slice none 0 0, .slice none 0 0, .slice none 0 0, .slice none 0 0], .int .i64 0, .int .i64 0, .slice none 0 0], []⟩ 8 (by kernel_rfl) (by kernel_rfl) (by kernel_rfl) (by kernel_rfl)) ?_
  intro W base args ds gs before hval hW _ _
  exact law_calls tab_ok laidOut_ 8 (f := Tryz.f19) hval hW rfl (by kernel_rfl) (by kernel_rfl) rfl Tryz.underlying4
    (fun ds' h => by
      have h4 : ds'.length = 4 := h.trans (by kernel_rfl)
      match ds', h4 with
      | [_, _, _, _], _ => rfl) law_FnExactWorldGrow

theorem fnExactWorldGrow_holds : Rows.FnExactWorldGrowSaid :=
  OpenClaim.holds_of_wide 19 Tryz.f19 rfl rfl rfl rfl rfl rfl rfl ⟨rfl, rfl, rfl, rfl, rfl⟩ rfl rfl rfl rfl rfl fnExactWorldGrow_named Tryz.func19 fnExactWorldGrow_closed fnExactWorldGrow_inst fnExactWorldGrow_wrap
    (fun os started H enc _ => fnExactWorldGrow_lifted os started H enc)


end Go.Proofs.YtmibclbinebnjaaGreat
