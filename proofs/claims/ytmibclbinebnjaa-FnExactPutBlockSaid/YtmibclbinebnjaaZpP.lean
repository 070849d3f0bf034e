/- FnExactPutBlock: the program's PutBlock returns what the reference's returns, leaves its arguments as they were and hands back memory of its own; for all arguments. -/
import Derived.Test.YtmibclbinebnjaaRows
import Derived.ProofKit
import Derived.Test.YtmibclbinebnjaaZp1

set_option linter.unusedSimpArgs false
namespace Go.Proofs.Ytmibclbinebnjaa
open Go Go.ChangeShapes Go.WideShapes Go.ChangeAt Go.RowKit

theorem law_FnExactPutBlock (cs : List AV) (h : TyArgs tab Try.f8.params.toList cs) : Det Try.prog 8 cs (.bool true) := by
  match cs, h with
  | [z0, z1], h =>
    obtain ⟨n00, n01, n02, t, e0, ht⟩ := ty_tree h.1
    obtain ⟨b, e1, hb⟩ := ty_blockA h.2.1
    refine FSpec.args (c_laws_FnExactPutBlock n00 n01 n02 none t b ht hb) rfl fun i hi => ?_
    match i, hi with
    | 0, _ => exact e0
    | 1, _ => exact e1

set_option maxRecDepth 100000 in
theorem fnExactPutBlock_lifted (os : Os) (started : os.Started) (H : Type) (enc : TypeId × Value → H) :
    ReturnsInHanded {} Try.checked os 8 .any (Rows.fnExactPutBlockSpec.pre6 enc Try.prog Try.f8 Rows.fnExactPutBlockRow.domain false) (Rows.fnExactPutBlockSpec.post enc Try.prog Try.f8 false true false false) := by
  refine returnsInHanded_of_change (C := Try.checked) own_ started (by kernel_rfl) Try.func8
    (ChangeSpec.witness6 (enc := enc) (C := Try.checked) false ⟨#[], #[.agg #[.slice none 0 0, .slice none 0 0, .slice none 0 0], .agg #[.int .i64 0, .int .i64 0, .int .i64 0, .slice none 0 0, .int .i64 0, .int .i64 0]], []⟩ 8 (by kernel_rfl) (by kernel_rfl) (by kernel_rfl) (by kernel_rfl)) ?_
  intro W base args ds gs before hval hW _ _
  exact law_calls tab_ok laidOut_ 8 (f := Try.f8) hval hW rfl (by kernel_rfl) (by kernel_rfl) rfl Try.underlying4
    (fun ds' h => by
      have h4 : ds'.length = 2 := h.trans (by kernel_rfl)
      match ds', h4 with
      | [_, _], _ => rfl) law_FnExactPutBlock

theorem fnExactPutBlock_holds : Rows.FnExactPutBlockSaid :=
  OpenClaim.holds_of_wide 8 Try.f8 rfl rfl rfl rfl rfl rfl rfl ⟨rfl, rfl, rfl, rfl, rfl⟩ rfl rfl rfl rfl rfl fnExactPutBlock_named Try.func8 fnExactPutBlock_closed fnExactPutBlock_inst fnExactPutBlock_wrap
    (fun os started H enc _ => fnExactPutBlock_lifted os started H enc)


end Go.Proofs.Ytmibclbinebnjaa
