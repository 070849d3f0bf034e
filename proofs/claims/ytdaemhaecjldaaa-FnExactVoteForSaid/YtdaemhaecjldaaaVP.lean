/- FnExactVoteFor: the program's VoteFor returns what the reference's returns, and leaves its arguments as they were; for all arguments. -/
import Derived.Test.YtdaemhaecjldaaaRows
import Derived.ProofKit
import Derived.Test.YtdaemhaecjldaaaV5

set_option linter.unusedSimpArgs false
namespace Go.Proofs.Ytdaemhaecjldaaa
open Go Go.ChangeShapes Go.WideShapes Go.ChangeAt Go.RowKit

theorem law_FnExactVoteFor (cs : List AV) (h : TyArgs tab Try.f8.params.toList cs) : Det Try.prog 8 cs (.bool true) := by
  match cs, h with
  | [a, b, c, d], h =>
    obtain ⟨v, rfl⟩ := ty_voter h.1
    obtain ⟨n1, n2, n3, t, hb, ht⟩ := ty_tree h.2.1
    obtain ⟨n4, bs, hc, hl⟩ := ty_bools h.2.2.1
    obtain ⟨n, rfl⟩ := ty_intA h.2.2.2.1
    refine FSpec.args (c_laws_FnExactVoteFor n1 n2 n3 n4 v t bs n ht hl) rfl fun i hi => ?_
    match i, hi with
    | 0, _ => exact Leq.refl _
    | 1, _ => exact hb
    | 2, _ => exact hc
    | 3, _ => exact Leq.refl _

set_option maxRecDepth 100000 in
theorem fnExactVoteFor_lifted (os : Os) (started : os.Started) (H : Type) (enc : TypeId × Value → H) :
    ReturnsInHanded {} Try.checked os 8 .any (Rows.fnExactVoteForSpec.pre6 enc Try.prog Try.f8 Rows.fnExactVoteForRow.domain false) (Rows.fnExactVoteForSpec.post enc Try.prog Try.f8 false true false false) := by
  refine returnsInHanded_of_change (C := Try.checked) own_ started (by kernel_rfl) Try.func8
    (ChangeSpec.witness6 (enc := enc) (C := Try.checked) false ⟨#[], #[.agg #[.int .i64 0, .int .i64 0], .agg #[.slice none 0 0, .slice none 0 0, .slice none 0 0], .slice none 0 0, .int .i64 0], []⟩ 8 (by kernel_rfl) (by kernel_rfl) (by kernel_rfl) (by kernel_rfl)) ?_
  intro W base args ds gs before hval hW _ _
  exact law_calls tab_ok laidOut_ 8 (f := Try.f8) hval hW rfl (by kernel_rfl) (by kernel_rfl) rfl Try.underlying4
    (fun ds' h => by
      have h4 : ds'.length = 4 := h.trans (by kernel_rfl)
      match ds', h4 with
      | [_, _, _, _], _ => rfl) law_FnExactVoteFor

theorem fnExactVoteFor_holds : Rows.FnExactVoteForSaid :=
  OpenClaim.holds_of_wide 8 Try.f8 rfl rfl rfl rfl rfl rfl rfl ⟨rfl, rfl, rfl, rfl, rfl⟩ rfl rfl rfl rfl rfl fnExactVoteFor_named Try.func8 fnExactVoteFor_closed fnExactVoteFor_inst fnExactVoteFor_wrap
    (fun os started H enc _ => fnExactVoteFor_lifted os started H enc)


end Go.Proofs.Ytdaemhaecjldaaa
