/- FnExactLeavesOf: the program's LeavesOf returns what the reference's returns, leaves its arguments as they were and hands back memory of its own; for all arguments. -/
import Derived.Test.YtdaemhaecjldaaaRows
import Derived.ProofKit
import Derived.Test.YtdaemhaecjldaaaZl1

set_option linter.unusedSimpArgs false
namespace Go.Proofs.Ytdaemhaecjldaaa
open Go Go.ChangeShapes Go.WideShapes Go.ChangeAt Go.RowKit

theorem law_FnExactLeavesOf (cs : List AV) (h : TyArgs tab Try.f10.params.toList cs) : Det Try.prog 10 cs (.bool true) := by
  match cs, h with
  | [a], h =>
    obtain ⟨n1, n2, n3, t, hb, ht⟩ := ty_tree h.1
    refine FSpec.args (c_laws_FnExactLeavesOf n1 n2 n3 t ht) rfl fun i hi => ?_
    match i, hi with
    | 0, _ => exact hb

set_option maxRecDepth 100000 in
theorem fnExactLeavesOf_lifted (os : Os) (started : os.Started) (H : Type) (enc : TypeId × Value → H) :
    ReturnsInHanded {} Try.checked os 10 .any (Rows.fnExactLeavesOfSpec.pre6 enc Try.prog Try.f10 Rows.fnExactLeavesOfRow.domain false) (Rows.fnExactLeavesOfSpec.post enc Try.prog Try.f10 false true false false) := by
  refine returnsInHanded_of_change (C := Try.checked) own_ started (by kernel_rfl) Try.func10
    (ChangeSpec.witness6 (enc := enc) (C := Try.checked) false ⟨#[], #[.agg #[.slice none 0 0, .slice none 0 0, .slice none 0 0]], []⟩ 8 (by kernel_rfl) (by kernel_rfl) (by kernel_rfl) (by kernel_rfl)) ?_
  intro W base args ds gs before hval hW _ _
  exact law_calls tab_ok laidOut_ 8 (f := Try.f10) hval hW rfl (by kernel_rfl) (by kernel_rfl) rfl Try.underlying4
    (fun ds' h => by
      have h4 : ds'.length = 1 := h.trans (by kernel_rfl)
      match ds', h4 with
      | [_], _ => rfl) law_FnExactLeavesOf

theorem fnExactLeavesOf_holds : Rows.FnExactLeavesOfSaid :=
  OpenClaim.holds_of_wide 10 Try.f10 rfl rfl rfl rfl rfl rfl rfl ⟨rfl, rfl, rfl, rfl, rfl⟩ rfl rfl rfl rfl rfl fnExactLeavesOf_named Try.func10 fnExactLeavesOf_closed fnExactLeavesOf_inst fnExactLeavesOf_wrap
    (fun os started H enc _ => fnExactLeavesOf_lifted os started H enc)


end Go.Proofs.Ytdaemhaecjldaaa
