/- FnExactCertBlock: the program's CertBlock returns what the reference's returns, and leaves its arguments as they were; for all arguments. -/
import Derived.Test.YtdaemhaecjldaaaRows
import Derived.ProofKit
import Derived.Test.YtdaemhaecjldaaaC1

set_option linter.unusedSimpArgs false
namespace Go.Proofs.Ytdaemhaecjldaaa
open Go Go.ChangeShapes Go.WideShapes Go.ChangeAt Go.RowKit

theorem law_FnExactCertBlock (cs : List AV) (h : TyArgs tab Try.f11.params.toList cs) : Det Try.prog 11 cs (.bool true) := by
  match cs, h with
  | [a, b], h =>
    obtain ⟨n1, n2, n3, t, hb, ht⟩ := ty_tree h.1
    obtain ⟨c, rfl⟩ := ty_cert h.2.1
    refine FSpec.args (c_laws_FnExactCertBlock n1 n2 n3 t c ht) rfl fun i hi => ?_
    match i, hi with
    | 0, _ => exact hb
    | 1, _ => exact Leq.refl _

set_option maxRecDepth 100000 in
theorem fnExactCertBlock_lifted (os : Os) (started : os.Started) (H : Type) (enc : TypeId × Value → H) :
    ReturnsInHanded {} Try.checked os 11 .any (Rows.fnExactCertBlockSpec.pre6 enc Try.prog Try.f11 Rows.fnExactCertBlockRow.domain false) (Rows.fnExactCertBlockSpec.post enc Try.prog Try.f11 false true false false) := by
  refine returnsInHanded_of_change (C := Try.checked) own_ started (by kernel_rfl) Try.func11
    (ChangeSpec.witness6 (enc := enc) (C := Try.checked) false ⟨#[], #[.agg #[.slice none 0 0, .slice none 0 0, .slice none 0 0], .agg #[.int .i64 0, .int .i64 0, .int .i64 0]], []⟩ 8 (by kernel_rfl) (by kernel_rfl) (by kernel_rfl) (by kernel_rfl)) ?_
  intro W base args ds gs before hval hW _ _
  exact law_calls tab_ok laidOut_ 8 (f := Try.f11) hval hW rfl (by kernel_rfl) (by kernel_rfl) rfl Try.underlying4
    (fun ds' h => by
      have h4 : ds'.length = 2 := h.trans (by kernel_rfl)
      match ds', h4 with
      | [_, _], _ => rfl) law_FnExactCertBlock

theorem fnExactCertBlock_holds : Rows.FnExactCertBlockSaid :=
  OpenClaim.holds_of_wide 11 Try.f11 rfl rfl rfl rfl rfl rfl rfl ⟨rfl, rfl, rfl, rfl, rfl⟩ rfl rfl rfl rfl rfl fnExactCertBlock_named Try.func11 fnExactCertBlock_closed fnExactCertBlock_inst fnExactCertBlock_wrap
    (fun os started H enc _ => fnExactCertBlock_lifted os started H enc)


end Go.Proofs.Ytdaemhaecjldaaa
