/- FnExactWorldVote: the program's WorldVote returns what the reference's returns, leaves its arguments as they were and hands back memory of its own; for all arguments. -/
import Derived.Test.YtmibclbinebnjaaGreatRows
import Derived.ProofKit
import Derived.Test.YtmibclbinebnjaaGreatZs1

set_option linter.unusedSimpArgs false
namespace Go.Proofs.YtmibclbinebnjaaGreat
open Go Go.ChangeShapes Go.WideShapes Go.ChangeAt Go.RowKit

theorem law_FnExactWorldVote (cs : List AV) (h : TyArgs tab Tryz.f15.params.toList cs) : Det Tryz.prog 15 cs (.bool true) := by
  match cs, h with
  | [z0, z1, z2], h =>
    obtain ⟨n00, n01, n02, n03, n04, w, e0, hw⟩ := ty_world h.1
    obtain ⟨m, rfl⟩ := ty_intA h.2.1
    obtain ⟨n, rfl⟩ := ty_intA h.2.2.1
    refine FSpec.args (c_laws_FnExactWorldVote n00 n01 n02 n03 n04 w m n hw) rfl fun i hi => ?_
    match i, hi with
    | 0, _ => exact e0
    | 1, _ => exact .refl _
    | 2, _ => exact .refl _

set_option maxRecDepth 100000 in
theorem fnExactWorldVote_lifted (os : Os) (started : os.Started) (H : Type) (enc : TypeId × Value → H) :
    ReturnsInHanded {} Tryz.checked os 15 .any (Rows.fnExactWorldVoteSpec.pre6 enc Tryz.prog Tryz.f15 Rows.fnExactWorldVoteRow.domain false) (Rows.fnExactWorldVoteSpec.post enc Tryz.prog Tryz.f15 false true false false) := by
  refine returnsInHanded_of_change (C := Tryz.checked) own_ started (by kernel_rfl) Tryz.func15
    (ChangeSpec.witness6 (enc := enc) (C := Tryz.checked) false ⟨#[], #[.agg #[.slice none 0 0, .slice none 0 0, .slice none 0 0, .slice none 0 0, .slice none 0 0], .int .i64 0, .int .i64 0], []⟩ 8 (by kernel_rfl) (by kernel_rfl) (by kernel_rfl) (by kernel_rfl)) ?_
  intro W base args ds gs before hval hW _ _
  exact law_calls tab_ok laidOut_ 8 (f := Tryz.f15) hval hW rfl (by kernel_rfl) (by kernel_rfl) rfl Tryz.underlying4
    (fun ds' h => by
      have h4 : ds'.length = 3 := h.trans (by kernel_rfl)
      match ds', h4 with
      | [_, _, _], _ => rfl) law_FnExactWorldVote

theorem fnExactWorldVote_holds : Rows.FnExactWorldVoteSaid :=
  OpenClaim.holds_of_wide 15 Tryz.f15 rfl rfl rfl rfl rfl rfl rfl ⟨rfl, rfl, rfl, rfl, rfl⟩ rfl rfl rfl rfl rfl fnExactWorldVote_named Tryz.func15 fnExactWorldVote_closed fnExactWorldVote_inst fnExactWorldVote_wrap
    (fun os started H enc _ => fnExactWorldVote_lifted os started H enc)


end Go.Proofs.YtmibclbinebnjaaGreat
