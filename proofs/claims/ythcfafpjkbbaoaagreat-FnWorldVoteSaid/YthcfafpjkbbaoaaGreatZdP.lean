/- The law FnWorldVote, and its closed facts. -/
import Derived.Test.YthcfafpjkbbaoaaGreatRows
import Derived.ProofKit
import Derived.Test.YthcfafpjkbbaoaaGreatZd1

set_option linter.unusedSimpArgs false
namespace Go.Proofs.YthcfafpjkbbaoaaGreat
open Go Go.ChangeShapes Go.WideShapes Go.ChangeAt Go.RowKit

theorem law_FnWorldVote (cs : List AV) (h : TyArgs tab Tryz.f6.params.toList cs) : Det Tryz.prog 6 cs (.bool true) :=
  law_code c_laws_FnWorldVote h

set_option maxRecDepth 100000 in
theorem fnWorldVote_lifted (os : Os) (started : os.Started) (H : Type) (enc : TypeId × Value → H) :
    ReturnsInHanded {} Tryz.checked os 6 .any (Rows.fnWorldVoteSpec.pre6 enc Tryz.prog Tryz.f6 Rows.fnWorldVoteRow.domain false) (Rows.fnWorldVoteSpec.post enc Tryz.prog Tryz.f6 false true false false) := by
  refine returnsInHanded_of_change (C := Tryz.checked) own_ started (by kernel_rfl) Tryz.func6
    (ChangeSpec.witness6 (enc := enc) (C := Tryz.checked) false ⟨#[], #[.slice none 0 0], []⟩ 8 (by kernel_rfl) (by kernel_rfl) (by kernel_rfl) (by kernel_rfl)) ?_
  intro W base args ds gs before hval hW _ _
  exact law_calls tab_ok laidOut_ 8 (f := Tryz.f6) hval hW rfl (by kernel_rfl) (by kernel_rfl) rfl Tryz.underlying4
    (fun ds' h => by
      have h4 : ds'.length = 1 := h.trans (by kernel_rfl)
      match ds', h4 with
      | [_], _ => rfl) law_FnWorldVote

theorem fnWorldVote_holds : Rows.FnWorldVoteSaid :=
  OpenClaim.holds_of_wide 6 Tryz.f6 rfl rfl rfl rfl rfl rfl rfl ⟨rfl, rfl, rfl, rfl, rfl⟩ rfl rfl rfl rfl rfl fnWorldVote_named Tryz.func6 fnWorldVote_closed fnWorldVote_inst fnWorldVote_wrap
    (fun os started H enc _ => fnWorldVote_lifted os started H enc)


end Go.Proofs.YthcfafpjkbbaoaaGreat
