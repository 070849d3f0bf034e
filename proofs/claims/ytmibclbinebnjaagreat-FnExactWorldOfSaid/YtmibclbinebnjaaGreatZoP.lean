/- FnExactWorldOf: the program's WorldOf returns what the reference's returns, leaves its arguments as they were and hands back memory of its own; for all arguments. -/
import Derived.Test.YtmibclbinebnjaaGreatRows
import Derived.ProofKit
import Derived.Test.YtmibclbinebnjaaGreatZo1

set_option linter.unusedSimpArgs false
namespace Go.Proofs.YtmibclbinebnjaaGreat
open Go Go.ChangeShapes Go.WideShapes Go.ChangeAt Go.RowKit

theorem law_FnExactWorldOf (cs : List AV) (h : TyArgs tab Tryz.f10.params.toList cs) : Det Tryz.prog 10 cs (.bool true) := by
  match cs, h with
  | [z0], h =>
    obtain ⟨n00, n01, n02, t, e0, ht⟩ := ty_tree h.1
    refine FSpec.args (c_laws_FnExactWorldOf n00 n01 n02 t ht) rfl fun i hi => ?_
    match i, hi with
    | 0, _ => exact e0

set_option maxRecDepth 100000 in
theorem fnExactWorldOf_lifted (os : Os) (started : os.Started) (H : Type) (enc : TypeId × Value → H) :
    ReturnsInHanded {} Tryz.checked os 10 .any (Rows.fnExactWorldOfSpec.pre6 enc Tryz.prog Tryz.f10 Rows.fnExactWorldOfRow.domain false) (Rows.fnExactWorldOfSpec.post enc Tryz.prog Tryz.f10 false true false false) := by
  refine returnsInHanded_of_change (C := Tryz.checked) own_ started (by kernel_rfl) Tryz.func10
    (ChangeSpec.witness6 (enc := enc) (C := Tryz.checked) false ⟨#[], #[.agg #[.slice none 0 0, .slice none 0 0, .slice none 0 0]], []⟩ 8 (by kernel_rfl) (by kernel_rfl) (by kernel_rfl) (by kernel_rfl)) ?_
  intro W base args ds gs before hval hW _ _
  exact law_calls tab_ok laidOut_ 8 (f := Tryz.f10) hval hW rfl (by kernel_rfl) (by kernel_rfl) rfl Tryz.underlying4
    (fun ds' h => by
      have h4 : ds'.length = 1 := h.trans (by kernel_rfl)
      match ds', h4 with
      | [_], _ => rfl) law_FnExactWorldOf

theorem fnExactWorldOf_holds : Rows.FnExactWorldOfSaid :=
  OpenClaim.holds_of_wide 10 Tryz.f10 rfl rfl rfl rfl rfl rfl rfl ⟨rfl, rfl, rfl, rfl, rfl⟩ rfl rfl rfl rfl rfl fnExactWorldOf_named Tryz.func10 fnExactWorldOf_closed fnExactWorldOf_inst fnExactWorldOf_wrap
    (fun os started H enc _ => fnExactWorldOf_lifted os started H enc)


end Go.Proofs.YtmibclbinebnjaaGreat
