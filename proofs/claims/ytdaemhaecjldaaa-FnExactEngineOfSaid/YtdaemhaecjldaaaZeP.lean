/- FnExactEngineOf: the program's EngineOf returns what the reference's returns, leaves its arguments as they were and hands back memory of its own; for all arguments. -/
import Derived.Test.YtdaemhaecjldaaaRows
import Derived.ProofKit
import Derived.Test.YtdaemhaecjldaaaZe1

set_option linter.unusedSimpArgs false
namespace Go.Proofs.Ytdaemhaecjldaaa
open Go Go.ChangeShapes Go.WideShapes Go.ChangeAt Go.RowKit

theorem law_FnExactEngineOf (cs : List AV) (h : TyArgs tab Try.f5.params.toList cs) : Det Try.prog 5 cs (.bool true) := by
  match cs, h with
  | [a, b], h =>
    obtain ⟨n1, s, hb, hs⟩ := ty_entries h.1
    obtain ⟨n2, l, hc, hl⟩ := ty_actions h.2.1
    refine FSpec.args (c_laws_FnExactEngineOf n1 n2 s l hs hl) rfl fun i hi => ?_
    match i, hi with
    | 0, _ => exact hb
    | 1, _ => exact hc

set_option maxRecDepth 100000 in
theorem fnExactEngineOf_lifted (os : Os) (started : os.Started) (H : Type) (enc : TypeId × Value → H) :
    ReturnsInHanded {} Try.checked os 5 .any (Rows.fnExactEngineOfSpec.pre6 enc Try.prog Try.f5 Rows.fnExactEngineOfRow.domain false) (Rows.fnExactEngineOfSpec.post enc Try.prog Try.f5 false true false false) := by
  refine returnsInHanded_of_change (C := Try.checked) own_ started (by kernel_rfl) Try.func5
    (ChangeSpec.witness6 (enc := enc) (C := Try.checked) false ⟨#[], #[.slice none 0 0, .slice none 0 0], []⟩ 8 (by kernel_rfl) (by kernel_rfl) (by kernel_rfl) (by kernel_rfl)) ?_
  intro W base args ds gs before hval hW _ _
  exact law_calls tab_ok laidOut_ 8 (f := Try.f5) hval hW rfl (by kernel_rfl) (by kernel_rfl) rfl Try.underlying4
    (fun ds' h => by
      have h4 : ds'.length = 2 := h.trans (by kernel_rfl)
      match ds', h4 with
      | [_, _], _ => rfl) law_FnExactEngineOf

theorem fnExactEngineOf_holds : Rows.FnExactEngineOfSaid :=
  OpenClaim.holds_of_wide 5 Try.f5 rfl rfl rfl rfl rfl rfl rfl ⟨rfl, rfl, rfl, rfl, rfl⟩ rfl rfl rfl rfl rfl fnExactEngineOf_named Try.func5 fnExactEngineOf_closed fnExactEngineOf_inst fnExactEngineOf_wrap
    (fun os started H enc _ => fnExactEngineOf_lifted os started H enc)


end Go.Proofs.Ytdaemhaecjldaaa
