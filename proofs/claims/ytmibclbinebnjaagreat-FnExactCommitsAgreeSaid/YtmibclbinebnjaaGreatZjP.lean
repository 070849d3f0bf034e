/- FnExactCommitsAgree: the program's CommitsAgree returns what the reference's returns, leaves its arguments as they were; for all arguments. -/
import Derived.Test.YtmibclbinebnjaaGreatRows
import Derived.ProofKit
import Derived.Test.YtmibclbinebnjaaGreatZj1

set_option linter.unusedSimpArgs false
namespace Go.Proofs.YtmibclbinebnjaaGreat
open Go Go.ChangeShapes Go.WideShapes Go.ChangeAt Go.RowKit

theorem law_FnExactCommitsAgree (cs : List AV) (h : TyArgs tab Tryz.f11.params.toList cs) : Det Tryz.prog 11 cs (.bool true) := by
  match cs, h with
  | [z0, z1], h =>
    obtain ⟨n00, n01, n02, t, e0, ht⟩ := ty_tree h.1
    obtain ⟨n10, cs, e1, hcs⟩ := ty_certs h.2.1
    refine FSpec.args (c_laws_FnExactCommitsAgree n00 n01 n02 n10 t cs ht hcs) rfl fun i hi => ?_
    match i, hi with
    | 0, _ => exact e0
    | 1, _ => exact e1

set_option maxRecDepth 100000 in
theorem fnExactCommitsAgree_lifted (os : Os) (started : os.Started) (H : Type) (enc : TypeId × Value → H) :
    ReturnsInHanded {} Tryz.checked os 11 .any (Rows.fnExactCommitsAgreeSpec.pre6 enc Tryz.prog Tryz.f11 Rows.fnExactCommitsAgreeRow.domain false) (Rows.fnExactCommitsAgreeSpec.post enc Tryz.prog Tryz.f11 false true false false) := by
  refine returnsInHanded_of_change (C := Tryz.checked) own_ started (by kernel_rfl) Tryz.func11
    (ChangeSpec.witness6 (enc := enc) (C := Tryz.checked) false ⟨#[], #[.agg #[.slice none 0 0, .slice none 0 0, .slice none 0 0], .slice none 0 0], []⟩ 8 (by kernel_rfl) (by kernel_rfl) (by kernel_rfl) (by kernel_rfl)) ?_
  intro W base args ds gs before hval hW _ _
  exact law_calls tab_ok laidOut_ 8 (f := Tryz.f11) hval hW rfl (by kernel_rfl) (by kernel_rfl) rfl Tryz.underlying4
    (fun ds' h => by
      have h4 : ds'.length = 2 := h.trans (by kernel_rfl)
      match ds', h4 with
      | [_, _], _ => rfl) law_FnExactCommitsAgree

theorem fnExactCommitsAgree_holds : Rows.FnExactCommitsAgreeSaid :=
  OpenClaim.holds_of_wide 11 Tryz.f11 rfl rfl rfl rfl rfl rfl rfl ⟨rfl, rfl, rfl, rfl, rfl⟩ rfl rfl rfl rfl rfl fnExactCommitsAgree_named Tryz.func11 fnExactCommitsAgree_closed fnExactCommitsAgree_inst fnExactCommitsAgree_wrap
    (fun os started H enc _ => fnExactCommitsAgree_lifted os started H enc)


end Go.Proofs.YtmibclbinebnjaaGreat
