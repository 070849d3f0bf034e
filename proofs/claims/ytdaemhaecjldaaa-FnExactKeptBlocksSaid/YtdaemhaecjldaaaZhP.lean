/- FnExactKeptBlocks: the program's KeptBlocks returns what the reference's returns, leaves its arguments as they were and hands back memory of its own; for all arguments. -/
import Derived.Test.YtdaemhaecjldaaaRows
import Derived.ProofKit
import Derived.Test.YtdaemhaecjldaaaZh1

set_option linter.unusedSimpArgs false
namespace Go.Proofs.Ytdaemhaecjldaaa
open Go Go.ChangeShapes Go.WideShapes Go.ChangeAt Go.RowKit

theorem law_FnExactKeptBlocks (cs : List AV) (h : TyArgs tab Try.f13.params.toList cs) : Det Try.prog 13 cs (.bool true) := by
  match cs, h with
  | [a, b], h =>
    obtain ⟨n1, n2, n3, t, hb, ht⟩ := ty_tree h.1
    obtain ⟨n, rfl⟩ := ty_intA h.2.1
    refine FSpec.args (c_laws_FnExactKeptBlocks n1 n2 n3 t n ht) rfl fun i hi => ?_
    match i, hi with
    | 0, _ => exact hb
    | 1, _ => exact Leq.refl _

set_option maxRecDepth 100000 in
theorem fnExactKeptBlocks_lifted (os : Os) (started : os.Started) (H : Type) (enc : TypeId × Value → H) :
    ReturnsInHanded {} Try.checked os 13 .any (Rows.fnExactKeptBlocksSpec.pre6 enc Try.prog Try.f13 Rows.fnExactKeptBlocksRow.domain false) (Rows.fnExactKeptBlocksSpec.post enc Try.prog Try.f13 false true false false) := by
  refine returnsInHanded_of_change (C := Try.checked) own_ started (by kernel_rfl) Try.func13
    (ChangeSpec.witness6 (enc := enc) (C := Try.checked) false ⟨#[], #[.agg #[.slice none 0 0, .slice none 0 0, .slice none 0 0], .int .i64 0], []⟩ 8 (by kernel_rfl) (by kernel_rfl) (by kernel_rfl) (by kernel_rfl)) ?_
  intro W base args ds gs before hval hW _ _
  exact law_calls tab_ok laidOut_ 8 (f := Try.f13) hval hW rfl (by kernel_rfl) (by kernel_rfl) rfl Try.underlying4
    (fun ds' h => by
      have h4 : ds'.length = 2 := h.trans (by kernel_rfl)
      match ds', h4 with
      | [_, _], _ => rfl) law_FnExactKeptBlocks

theorem fnExactKeptBlocks_holds : Rows.FnExactKeptBlocksSaid :=
  OpenClaim.holds_of_wide 13 Try.f13 rfl rfl rfl rfl rfl rfl rfl ⟨rfl, rfl, rfl, rfl, rfl⟩ rfl rfl rfl rfl rfl fnExactKeptBlocks_named Try.func13 fnExactKeptBlocks_closed fnExactKeptBlocks_inst fnExactKeptBlocks_wrap
    (fun os started H enc _ => fnExactKeptBlocks_lifted os started H enc)


end Go.Proofs.Ytdaemhaecjldaaa
