/- FnExactWorldValid: the program's WorldValid returns what the reference's returns, and leaves its arguments as they were; for all arguments. -/
import Derived.Test.YtdaemhaecjldaaaRows
import Derived.ProofKit
import Derived.Test.YtdaemhaecjldaaaZw1

set_option linter.unusedSimpArgs false
namespace Go.Proofs.Ytdaemhaecjldaaa
open Go Go.ChangeShapes Go.WideShapes Go.ChangeAt Go.RowKit

theorem law_FnExactWorldValid (cs : List AV) (h : TyArgs tab Try.f12.params.toList cs) : Det Try.prog 12 cs (.bool true) := by
  match cs, h with
  | [a], h =>
    obtain ⟨n1, n2, n3, n4, n5, w, hb, hw⟩ := ty_world h.1
    refine FSpec.args (c_laws_FnExactWorldValid n1 n2 n3 n4 n5 w hw) rfl fun i hi => ?_
    match i, hi with
    | 0, _ => exact hb

set_option maxRecDepth 100000 in
theorem fnExactWorldValid_lifted (os : Os) (started : os.Started) (H : Type) (enc : TypeId × Value → H) :
    ReturnsInHanded {} Try.checked os 12 .any (Rows.fnExactWorldValidSpec.pre6 enc Try.prog Try.f12 Rows.fnExactWorldValidRow.domain false) (Rows.fnExactWorldValidSpec.post enc Try.prog Try.f12 false true false false) := by
  refine returnsInHanded_of_change (C := Try.checked) own_ started (by kernel_rfl) Try.func12
    (ChangeSpec.witness6 (enc := enc) (C := Try.checked) false ⟨#[], #[.agg #[.slice none 0 0, .slice none 0 0, .slice none 0 0, .slice none 0 0, .slice none 0 0]], []⟩ 8 (by kernel_rfl) (by kernel_rfl) (by kernel_rfl) (by kernel_rfl)) ?_
  intro W base args ds gs before hval hW _ _
  exact law_calls tab_ok laidOut_ 8 (f := Try.f12) hval hW rfl (by kernel_rfl) (by kernel_rfl) rfl Try.underlying4
    (fun ds' h => by
      have h4 : ds'.length = 1 := h.trans (by kernel_rfl)
      match ds', h4 with
      | [_], _ => rfl) law_FnExactWorldValid

theorem fnExactWorldValid_holds : Rows.FnExactWorldValidSaid :=
  OpenClaim.holds_of_wide 12 Try.f12 rfl rfl rfl rfl rfl rfl rfl ⟨rfl, rfl, rfl, rfl, rfl⟩ rfl rfl rfl rfl rfl fnExactWorldValid_named Try.func12 fnExactWorldValid_closed fnExactWorldValid_inst fnExactWorldValid_wrap
    (fun os started H enc _ => fnExactWorldValid_lifted os started H enc)


end Go.Proofs.Ytdaemhaecjldaaa
