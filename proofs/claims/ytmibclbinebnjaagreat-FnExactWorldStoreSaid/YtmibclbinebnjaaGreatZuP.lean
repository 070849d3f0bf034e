/- FnExactWorldStore: the program's WorldStore returns what the reference's returns, leaves its arguments as they were and hands back memory of its own; for all arguments. -/
import Derived.Test.YtmibclbinebnjaaGreatRows
import Derived.ProofKit
import Derived.Test.YtmibclbinebnjaaGreatZu1

set_option linter.unusedSimpArgs false
namespace Go.Proofs.YtmibclbinebnjaaGreat
open Go Go.ChangeShapes Go.WideShapes Go.ChangeAt Go.RowKit

theorem law_FnExactWorldStore (cs : List AV) (h : TyArgs tab Tryz.f18.params.toList cs) : Det Tryz.prog 18 cs (.bool true) := by
  match cs, h with
  | [z0], h =>
    obtain ⟨n00, n01, n02, n03, n04, w, e0, hw⟩ := ty_world h.1
    refine FSpec.args (c_laws_FnExactWorldStore n00 n01 n02 n03 n04 w hw) rfl fun i hi => ?_
    match i, hi with
    | 0, _ => exact e0

set_option maxRecDepth 100000 in
theorem fnExactWorldStore_lifted (os : Os) (started : os.Started) (H : Type) (enc : TypeId × Value → H) :
    ReturnsInHanded {} Tryz.checked os 18 .any (Rows.fnExactWorldStoreSpec.pre6 enc Tryz.prog Tryz.f18 Rows.fnExactWorldStoreRow.domain false) (Rows.fnExactWorldStoreSpec.post enc Tryz.prog Tryz.f18 false true false false) := by
  refine returnsInHanded_of_change (C := Tryz.checked) own_ started (by kernel_rfl) Tryz.func18
    (ChangeSpec.witness6 (enc := enc) (C := Tryz.checked) false ⟨#[], #[.agg #[.slice none 0 0, .slice none 0 0, .slice none 0 0, .slice none 0 0, .slice none 0 0]], []⟩ 8 (by kernel_rfl) (by kernel_rfl) (by kernel_rfl) (by kernel_rfl)) ?_
  intro W base args ds gs before hval hW _ _
  exact law_calls tab_ok laidOut_ 8 (f := Tryz.f18) hval hW rfl (by kernel_rfl) (by kernel_rfl) rfl Tryz.underlying4
    (fun ds' h => by
      have h4 : ds'.length = 1 := h.trans (by kernel_rfl)
      match ds', h4 with
      | [_], _ => rfl) law_FnExactWorldStore

theorem fnExactWorldStore_holds : Rows.FnExactWorldStoreSaid :=
  OpenClaim.holds_of_wide 18 Tryz.f18 rfl rfl rfl rfl rfl rfl rfl ⟨rfl, rfl, rfl, rfl, rfl⟩ rfl rfl rfl rfl rfl fnExactWorldStore_named Tryz.func18 fnExactWorldStore_closed fnExactWorldStore_inst fnExactWorldStore_wrap
    (fun os started H enc _ => fnExactWorldStore_lifted os started H enc)


end Go.Proofs.YtmibclbinebnjaaGreat
