/- FnExactNextBlock: the program's NextBlock returns what the reference's returns, leaves its arguments as they were and hands back memory of its own; for all arguments. -/
import Derived.Test.YtdaemhaecjldaaaRows
import Derived.ProofKit
import Derived.Test.YtdaemhaecjldaaaZn2

set_option linter.unusedSimpArgs false
namespace Go.Proofs.Ytdaemhaecjldaaa
open Go Go.ChangeShapes Go.WideShapes Go.ChangeAt Go.RowKit

theorem law_FnExactNextBlock (cs : List AV) (h : TyArgs tab Try.f9.params.toList cs) : Det Try.prog 9 cs (.bool true) := by
  match cs, h with
  | [a, b, c, d], h =>
    obtain ⟨bk, ha, hba⟩ := ty_blockA h.1
    obtain ⟨n1, s, hb, hs⟩ := ty_entries h.2.1
    obtain ⟨v, rfl⟩ := ty_intA h.2.2.1
    obtain ⟨n2, l, hd, hl⟩ := ty_actions h.2.2.2.1
    refine FSpec.args (c_laws_FnExactNextBlock none n1 n2 bk s v l hba hs hl) rfl fun i hi => ?_
    match i, hi with
    | 0, _ => exact ha
    | 1, _ => exact hb
    | 2, _ => exact .refl _
    | 3, _ => exact hd

set_option maxRecDepth 100000 in
theorem fnExactNextBlock_lifted (os : Os) (started : os.Started) (H : Type) (enc : TypeId × Value → H) :
    ReturnsInHanded {} Try.checked os 9 .any (Rows.fnExactNextBlockSpec.pre6 enc Try.prog Try.f9 Rows.fnExactNextBlockRow.domain false) (Rows.fnExactNextBlockSpec.post enc Try.prog Try.f9 false true false false) := by
  refine returnsInHanded_of_change (C := Try.checked) own_ started (by kernel_rfl) Try.func9
    (ChangeSpec.witness6 (enc := enc) (C := Try.checked) false ⟨#[], #[.agg #[.int .i64 0, .int .i64 0, .int .i64 0, .slice none 0 0, .int .i64 0, .int .i64 0], .slice none 0 0, .int .i64 0, .slice none 0 0], []⟩ 8 (by kernel_rfl) (by kernel_rfl) (by kernel_rfl) (by kernel_rfl)) ?_
  intro W base args ds gs before hval hW _ _
  exact law_calls tab_ok laidOut_ 8 (f := Try.f9) hval hW rfl (by kernel_rfl) (by kernel_rfl) rfl Try.underlying4
    (fun ds' h => by
      have h4 : ds'.length = 4 := h.trans (by kernel_rfl)
      match ds', h4 with
      | [_, _, _, _], _ => rfl) law_FnExactNextBlock

theorem fnExactNextBlock_holds : Rows.FnExactNextBlockSaid :=
  OpenClaim.holds_of_wide 9 Try.f9 rfl rfl rfl rfl rfl rfl rfl ⟨rfl, rfl, rfl, rfl, rfl⟩ rfl rfl rfl rfl rfl fnExactNextBlock_named Try.func9 fnExactNextBlock_closed fnExactNextBlock_inst fnExactNextBlock_wrap
    (fun os started H enc _ => fnExactNextBlock_lifted os started H enc)


end Go.Proofs.Ytdaemhaecjldaaa
