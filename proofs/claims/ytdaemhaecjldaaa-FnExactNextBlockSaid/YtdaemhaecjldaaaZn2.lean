/- NextBlock, the program's and the reference's (part 2): Ty4, Ty5 -/
import Derived.Test.YtdaemhaecjldaaaZn1

/- Arguments of the laws, by their types: slices of entries, of actions. -/
set_option linter.unusedSimpArgs false
namespace Go.Proofs.Ytdaemhaecjldaaa
open Go Go.RowKit

theorem ty_entries {a : AV} (h : TyArg tab 32 a) : ∃ (n : Option Bool) (xs : List Entry), Leq a (.sl n (rows encE xs)) ∧ xs.length ≤ 9223372036854775807 := by
  obtain ⟨n, xs, h1, _, h2, _⟩ := ty_slice encE (fun _ => True) (h.one_inv tabAt_32 rfl) tabAt_32 rfl fun r hr => by
    obtain ⟨b, rfl⟩ := ty_entry hr
    exact ⟨b, trivial, Leqs.refl _⟩
  exact ⟨n, xs, h2.2 0 (by simp), h1⟩

theorem ty_actions {a : AV} (h : TyArg tab 33 a) : ∃ (n : Option Bool) (xs : List Action), Leq a (.sl n (rows encA xs)) ∧ xs.length ≤ 9223372036854775807 := by
  obtain ⟨n, xs, h1, _, h2, _⟩ := ty_slice encA (fun _ => True) (h.one_inv tabAt_33 rfl) tabAt_33 rfl fun r hr => by
    obtain ⟨b, rfl⟩ := ty_action hr
    exact ⟨b, trivial, Leqs.refl _⟩
  exact ⟨n, xs, h2.2 0 (by simp), h1⟩

end Go.Proofs.Ytdaemhaecjldaaa

/- Arguments of the laws, by their types: blocks. -/
set_option linter.unusedSimpArgs false
namespace Go.Proofs.Ytdaemhaecjldaaa
open Go Go.RowKit

theorem ty_blockA {a : AV} (h : TyArg tab 82 a) : ∃ b : Block, Leq a (.agg (encBk none b)) ∧ b.list.length ≤ 9223372036854775807 := by
  obtain ⟨cs, rfl, h2⟩ := h.agg_inv tabAt_82 rfl
  obtain ⟨b, h3, h4⟩ := ty_block h2
  exact ⟨b, h4.agg, h3⟩

end Go.Proofs.Ytdaemhaecjldaaa

