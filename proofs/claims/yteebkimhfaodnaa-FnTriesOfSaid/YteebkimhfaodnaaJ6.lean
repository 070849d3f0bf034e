/- Shared texts J (part 6): W163, W164, W165, W166, W167, W168, W169, W170, W171, W173, W174, W35, W44, W175, W43, W176, W177, W191, W37, W95, W58, W54, W55, W56, W59, W63, W38, W39, W68, W97, W71, W102, W106, W107, W116, W192, W193, W197, W178, W198, W199 -/
import Derived.Lib.Walk
import Derived.Lib.AppendZerosOnto
import Derived.Lib.SliceRun
import Derived.Test.YteebkimhfaodnaaJ5

set_option linter.unusedSimpArgs false
set_option linter.unusedVariables false

/- Contracts: the order of versions, valid versions. -/
set_option linter.unusedSimpArgs false
set_option linter.unusedVariables false
set_option maxRecDepth 20000
set_option maxHeartbeats 4000000
namespace Go.Proofs.Yteebkimhfaodnaa
open Go Go.RowKit

def orL : List Int → Int
  | [] => 0
  | x :: r => if x = 0 then orL r else x
def versOrd (a b : Version) : Int := orL [IntKind.i64.wrap (a.key - b.key), IntKind.i64.wrap (a.by_ - b.by_)]

theorem versOrd_small {a b : Version} (ha : VOk a) (hb : VOk b) : versOrd a b = if a.key - b.key = 0 then (if a.by_ - b.by_ = 0 then 0 else a.by_ - b.by_) else a.key - b.key := by
  obtain ⟨a1, a2, a3⟩ := ha
  obtain ⟨b1, b2, b3⟩ := hb
  unfold versOrd
  rw [wrap_small _ (by omega) (by omega), wrap_small _ (by omega) (by omega)]
  rfl
theorem versOrd_lt {a b : Version} (ha : VOk a) (hb : VOk b) : versOrd a b < 0 ↔ ltV a b = true := by
  rw [versOrd_small ha hb, ltV_iff]
  split
  · split <;> omega
  · omega
end Go.Proofs.Yteebkimhfaodnaa

/- Contracts: valid versions, the store that remains (the program). -/
set_option linter.unusedSimpArgs false
set_option linter.unusedVariables false
set_option maxRecDepth 20000
set_option maxHeartbeats 4000000
namespace Go.Proofs.Yteebkimhfaodnaa
open Go Go.RowKit


end Go.Proofs.Yteebkimhfaodnaa

/- slices.SortFunc at versions: the order, walked in the exact world. -/
set_option linter.unusedSimpArgs false
set_option linter.unusedVariables false
set_option maxRecDepth 100000
set_option maxHeartbeats 4000000
namespace Go.Proofs.Yteebkimhfaodnaa
open Go Go.RowKit Go.Sort Go.Lib

theorem w_Or (x y : Int) (b c : Nat) (W : World) (h0 : W.cell? ⟨b, 0, none⟩ = some (.int .i64 x)) (h1 : W.cell? ⟨b, 1, none⟩ = some (.int .i64 y)) :
    Calls Try.prog 92 #[.slice (some ⟨b, 0, none⟩) 2 c] W fun e w' => e = .returned (.int .i64 (orL [x, y])) ∧ w' = W := by
  go_enter Try.func92, Try.ntmps92
  go_wp2
  by_cases hx : x = 0
  · subst hx
    by_cases hy : y = 0
    · subst hy
      refine wp_loop_rounds 3 ?_
      rw [rounds_succ]
      go_wp2
      rw [rounds_succ]
      go_wp2
      rw [rounds_succ]
      go_wp2
      go_ret
      exact ⟨rfl, rfl⟩
    · refine wp_loop_rounds 2 ?_
      rw [rounds_succ]
      go_wp2
      rw [rounds_succ]
      go_wp2
      go_ret
      exact ⟨by simp [orL, hy], rfl⟩
  · refine wp_loop_rounds 1 ?_
    rw [rounds_succ]
    go_wp2
    go_ret
    exact ⟨by simp [orL, hx], rfl⟩

theorem cell_two (W : World) (v0 v1 : Value) (ty : TypeId) (n : Nat) (hn : n = W.heap.size) : (W.alloc (.cells #[v0, v1] ty)).cell? ⟨n, 0, none⟩ = some v0 ∧ (W.alloc (.cells #[v0, v1] ty)).cell? ⟨n, 1, none⟩ = some v1 := by
  subst hn
  constructor <;> (simp only [World.cell?, World.alloc, Array.getElem?_push_size]; rfl)
theorem wrap64_is (n : Int) : IntKind.i64.wrap n = wrap64 n := IntWalk.i64_left n
theorem w_versionOrder (x y : Version) (W : World) : Calls Try.prog 68 #[.agg #[.int .i64 x.key, .int .i64 x.by_, .int .i64 x.value], .agg #[.int .i64 y.key, .int .i64 y.by_, .int .i64 y.value]] W fun e w' =>
    e = .returned (.int .i64 (versOrd x y)) ∧ ∃ q os', w' = grow (W.drewN q) os' := by
  unfold versOrd
  have hor := fun a b W' h0 h1 => w_Or (IntKind.i64.wrap (x.key - y.key)) (IntKind.i64.wrap (x.by_ - y.by_)) a b W' h0 h1
  generalize orL [IntKind.i64.wrap (x.key - y.key), IntKind.i64.wrap (x.by_ - y.by_)] = r at hor ⊢
  simp only [wrap64_is] at hor
  go_enter Try.func68, Try.ntmps68
  go_wp2_with (go_at_call 92; refine (hor _ _ _ (cell_two _ _ _ _ _ (by simp)).1 (cell_two _ _ _ _ _ (by simp)).2).mono ?_; rintro e w' ⟨rfl, rfl⟩)
  go_ret
  exact ⟨rfl, 0, _, by rw [alloc_eq_grow, alloc_eq_grow, alloc_eq_grow, grow_grow, grow_grow]; rfl⟩

end Go.Proofs.Yteebkimhfaodnaa

/- slices.SortFunc at versions: the contract in the exact world. -/
set_option linter.unusedSimpArgs false
set_option linter.unusedVariables false
set_option maxRecDepth 100000
set_option maxHeartbeats 4000000
namespace Go.Proofs.Yteebkimhfaodnaa
open Go Go.RowKit Go.Sort Go.Lib

abbrev SV := { v : Version // VOk v }
instance : Inhabited SV := ⟨⟨⟨0, 0, 0⟩, by unfold VOk; decide⟩⟩
def encSV (v : SV) : List Value := [.int .i64 v.1.key, .int .i64 v.1.by_, .int .i64 v.1.value]
def cfV (x y : SV) : Int := versOrd x.1 y.1
theorem ltOf_V (x y : SV) : ltOf cfV x y = ltV x.1 y.1 := by
  unfold ltOf cfV
  rw [Bool.eq_iff_iff, decide_eq_true_eq]
  exact versOrd_lt x.2 y.2
theorem swo_V : SWO (ltOf cfV) where
  irrefl x := by rw [ltOf_V]; rw [ltV_false]; omega
  trans x y z h1 h2 := by rw [ltOf_V] at *; exact ltV_trans h1 h2
  ntrans x y z h1 h2 := by
    rw [ltOf_V] at *
    rw [ltV_false] at *
    omega
theorem cmp_V (blk off size : Nat) (w : World) : CmpLays Try.prog 68 #[] encSV 3 cfV blk off size w := fun _ _ _ _ x y => w_versionOrder x.1 y.1 _

theorem agg_V : (∀ w, (isAgg 67).run Try.prog w = .ok true w) ∧ ∀ w, (Go.sizeOf 67).run Try.prog w = .ok 3 w := by
  have he : elemInfo tab 27 = some ((elemInfo tab 27).get (by decide +kernel)) := (Option.some_get _).symm
  obtain ⟨e, nf, d, z, hue, ok⟩ := elemInfo_und tab_ok he
  obtain rfl : e = 67 := by
    have h2 : Try.prog.underlying 27 = some (.slice 67) := Try.underlying27
    rw [h2] at hue
    cases hue; rfl
  exact ⟨fun w => by rw [ok.run_agg]; rfl, fun w => by rw [ok.run_size]; rfl⟩

theorem w_Sort (blk cap : Nat) (d : Array SV) (w : World) (hH : HoldsK encSV 3 w blk 0 d) (hblk : blk < w.heap.size) (hsz : d.size < 4611686018427387904) :
    Calls Try.prog 67 #[.slice (some ⟨blk, 0, none⟩) d.size cap, .func (.func 68) #[] #[]] w fun e w' =>
      e = .returned (.tuple #[]) ∧ ∃ d' n os, PermIn 0 d.size d d' ∧ SortedIn (ltOf cfV) 0 d.size d' ∧ w' = sortWorldK encSV 3 w blk 0 n d' os := by
  have h := AnyQ.slices_SortFunc Try.sortV 3 agg_V.1 agg_V.2 encSV (fun _ => rfl) (fun x v hv => by simp [encSV] at hv; rcases hv with rfl | rfl | rfl <;> rfl) cfV swo_V 68 #[] blk 0 cap d w Try.call68 (cmp_V blk 0 d.size w) hH hblk hsz
  exact h
theorem w_Sort0 (p : Option Addr) (cap : Nat) (w : World) :
    Calls Try.prog 67 #[.slice p 0 cap, .func (.func 68) #[] #[]] w fun e w' => e = .returned (.tuple #[]) ∧ w' = w :=
  AnyF.slices_SortFunc_none Try.sortV p cap _ w

end Go.Proofs.Yteebkimhfaodnaa

/- Sorted versions: plain. -/
set_option linter.unusedSimpArgs false
set_option linter.unusedVariables false
namespace Go.Proofs.Yteebkimhfaodnaa
open Go Go.RowKit Go.Sort Go.Lib

def outV (d : Array SV) : List Version := d.toList.map Subtype.val
theorem outV_len (d : Array SV) : (outV d).length = d.size := by unfold outV; rw [List.length_map, Array.length_toList]
theorem outV_get (d : Array SV) (i : Nat) (h : i < (outV d).length) : (outV d)[i] = (d[i]!).1 := by
  have h2 : i < d.size := by rw [← outV_len]; exact h
  have h3 : (outV d)[i] = (d.toList[i]'(by simpa using h2)).1 := List.getElem_map ..
  rw [h3, getElem!_pos d i h2, Array.getElem_toList]
def kb (v : Version) : Int × Int := (v.key, v.by_)
theorem sorted_V {d d' : Array SV} (hs : d'.size = d.size) (h : SortedIn (ltOf cfV) 0 d.size d') (hd : ((outV d').map kb).Nodup) : SortV (outV d') := by
  unfold SortV
  have hd2 := List.pairwise_map.1 hd
  rw [List.pairwise_iff_getElem] at hd2 ⊢
  intro i j hi hj hij
  have h2 := hd2 i j hi hj hij
  rw [outV_get, outV_get] at h2 ⊢
  rw [outV_len] at hi hj
  have h1 := h i j (Nat.zero_le _) hij (by omega)
  rw [ltOf_V, ltV_false] at h1
  rw [ltV_iff]
  have h3 : ¬ ((d'[i]!).1.key = (d'[j]!).1.key ∧ (d'[i]!).1.by_ = (d'[j]!).1.by_) := fun e => h2 (by unfold kb; rw [e.1, e.2])
  omega
theorem perm_V {d d' : Array SV} (h : PermIn 0 d.size d d') : d'.size = d.size ∧ (outV d').Perm (outV d) := by
  obtain ⟨h1, _, h3⟩ := h
  refine ⟨h1, ?_⟩
  have e1 : d'.extract 0 d.size = d' := by rw [← h1]; exact Array.extract_size
  have e2 : d.extract 0 d.size = d := Array.extract_size
  rw [e1, e2] at h3
  exact h3.map _
/-- What a sort leaves: the sorted versions with the same members. -/
theorem sort_out {d d' : Array SV} (hp : PermIn 0 d.size d d') (hs : SortedIn (ltOf cfV) 0 d.size d') (hd : ((outV d).map kb).Nodup) : SortV (outV d') ∧ (outV d').length = (outV d).length ∧ ∀ x, x ∈ outV d' ↔ x ∈ outV d := by
  obtain ⟨h1, h2⟩ := perm_V hp
  exact ⟨sorted_V h1 hs ((h2.map kb).nodup_iff.2 hd), h2.length_eq, fun x => h2.mem_iff⟩

end Go.Proofs.Yteebkimhfaodnaa

/- slices.SortFunc at versions, as a contract over a lent row. UNDER WAY. -/
set_option linter.unusedSimpArgs false
set_option linter.unusedVariables false
namespace Go.Proofs.Yteebkimhfaodnaa
open Go Go.RowKit Go.Sort Go.Lib

theorem holds_V {w : World} {b : Nat} {c : Array Value} {ty : TypeId} (hb : w.heap[b]? = some (.cells c ty (0, 0))) (d : Array SV) (h : ∀ i j, i < d.size → j < 3 → c.getD (i * 3 + j) undef = (encSV d[i]!)[j]!) (hc : d.size * 3 ≤ c.size) : HoldsK encSV 3 w b 0 d := by
  intro t ht
  rw [size_flatK] at ht
  have e : (flatK encSV 3 d)[t]! = c.getD t undef := by
    rw [get_flatK _ _ _ _ ht, ← h (t / 3) (t % 3) (by omega) (by omega)]
    congr 1
    omega
  rw [e, Nat.zero_add]
  refine ⟨?_, ?_⟩
  · simp only [World.cell?, hb]
    rw [if_neg (by simp), Array.getD_eq_getD_getElem?, Array.getElem?_eq_getElem (by omega)]
    rfl
  · simp [World.frozen?, hb]

theorem put_block {w : World} {b : Nat} {c : Array Value} {ty : TypeId} (hb : w.heap[b]? = some (.cells c ty (0, 0))) (d' : Array SV) (n : Nat) (os : Array Obj) :
    (sortWorldK encSV 3 w b 0 n d' os).heap[b]? = some (.cells (putCells id 0 (flatK encSV 3 d') c) ty (0, 0)) ∧ (∀ x, x < w.heap.size → x ≠ b → (sortWorldK encSV 3 w b 0 n d' os).heap[x]? = w.heap[x]?) ∧ w.heap.size ≤ (sortWorldK encSV 3 w b 0 n d' os).heap.size := by
  have hlt : b < w.heap.size := (Array.getElem?_eq_some_iff.1 hb).1
  have e : (sortWorldK encSV 3 w b 0 n d' os).heap = w.heap.modify b (onCells (putCells id 0 (flatK encSV 3 d'))) ++ os := rfl
  rw [e]
  refine ⟨?_, fun x hx hne => ?_, by simp⟩
  · rw [Array.getElem?_append_left (by simpa using hlt), Array.getElem?_modify, if_pos rfl, hb]; rfl
  · rw [Array.getElem?_append_left (by simpa using hx), Array.getElem?_modify, if_neg (fun g => hne g.symm)]

theorem put_cell (c : Array Value) (d' : Array SV) (hc : d'.size * 3 ≤ c.size) {i j : Nat} (hi : i < d'.size) (hj : j < 3) : (putCells id 0 (flatK encSV 3 d') c).getD (i * 3 + j) undef = (encSV d'[i]!)[j]! := by
  have ht : i * 3 + j < d'.size * 3 := by omega
  have h1 : i * 3 + j < (putCells id 0 (flatK encSV 3 d') c).size := by unfold putCells; rw [Array.size_mapIdx]; omega
  rw [Array.getD_eq_getD_getElem?, Array.getElem?_eq_getElem h1]
  have h2 : (putCells id 0 (flatK encSV 3 d') c)[i * 3 + j] = if 0 ≤ i * 3 + j ∧ i * 3 + j < 0 + (flatK encSV 3 d').size then id (flatK encSV 3 d')[i * 3 + j - 0]! else c[i * 3 + j]'(by omega) := Array.getElem_mapIdx ..
  rw [h2, if_pos ⟨Nat.zero_le _, by rw [size_flatK]; omega⟩, Nat.sub_zero]
  show (flatK encSV 3 d')[i * 3 + j]! = _
  rw [get_flatK _ _ _ _ ht, show (i * 3 + j) / 3 = i by omega, show (i * 3 + j) % 3 = j by omega]
theorem put_size (c : Array Value) (d' : Array SV) : (putCells id 0 (flatK encSV 3 d') c).size = c.size := by unfold putCells; rw [Array.size_mapIdx]

end Go.Proofs.Yteebkimhfaodnaa

/- slices.SortFunc at versions, as a contract over a lent row. -/
set_option linter.unusedSimpArgs false
set_option linter.unusedVariables false
set_option maxHeartbeats 2000000
namespace Go.Proofs.Yteebkimhfaodnaa
open Go Go.RowKit Go.Sort Go.Lib

def toSV (xs : List Version) (h : ∀ x, x ∈ xs → VOk x) : Array SV := (xs.attach.map fun x => (⟨x.1, h x.1 x.2⟩ : SV)).toArray
theorem toSV_out (xs : List Version) (h : ∀ x, x ∈ xs → VOk x) : outV (toSV xs h) = xs := by
  unfold outV toSV
  simp
theorem rows_cell (xs : List Version) {i j : Nat} (hi : i < xs.length) (hj : j < 3) : ((rows encR xs).getD i []).getD j .top = (encR xs[i]).getD j .top := by rw [rows_get _ _ _ hi]

theorem own_int {w : World} {v : Value} {k : IntKind} {n : Int} {F : Nat → Prop} (h : OwnV w v (.int k n) F) : v = .int k n := by
  cases h; rfl
theorem m_SortFunc (nn : Bool) (xs : List Version) (hok : ∀ x, x ∈ xs → VOk x) (hd : (xs.map kb).Nodup) (hl : xs.length < 2 ^ 32) :
    FSpecM Try.prog 67 [.row 800 xs.length, .fn 68 []] [.osl nn 3 (rows encR xs)]
      (fun r l => r = .tup [] ∧ ∃ ys, l = [.osl nn 3 (rows encR ys)] ∧ SortV ys ∧ ys.length = xs.length ∧ ∀ x, x ∈ ys ↔ x ∈ xs) := by
  refine ⟨Try.call67, fun w S vs lv LF h1 h2 h3 h4 => ?_⟩
  have a0 := h2 0 (by simp)
  have a1 := h2 1 (by simp)
  have e0 : vs.getD 0 undef = lv 0 := by
    revert a0
    generalize vs.getD 0 undef = v
    generalize hb : ([AV.row 800 xs.length, .fn 68 []] : List AV).getD 0 .top = bb
    intro a0
    cases a0 with
    | pure v a h => subst hb; cases h
    | row j nn sz es hj =>
      have : j = 0 := by
        have := congrArg (fun a : AV => match a with | .row i _ => i | _ => 0) hb
        simp at this; omega
      subst this; rfl
    | agg => cases hb
  have e1 : vs.getD 1 undef = .func (.func 68) #[] #[] := by
    revert a1
    generalize vs.getD 1 undef = v
    generalize hb : ([AV.row 800 xs.length, .fn 68 []] : List AV).getD 1 .top = bb
    intro a1
    cases a1 with
    | pure v a h =>
      subst hb
      cases h with
      | fn f vs cs hl h => 
        have : vs = #[] := Array.eq_empty_of_size_eq_zero hl
        subst this; rfl
    | row j nn sz es hj => cases hb
    | agg => cases hb
  have hv : vs = #[lv 0, .func (.func 68) #[] #[]] := by
    have hsz : vs.size = 2 := h1
    apply Array.ext
    · exact hsz
    · intro i g1 g2
      have : i = 0 ∨ i = 1 := by omega
      rcases this with rfl | rfl
      · simpa [Array.getD, hsz] using e0
      · simpa [Array.getD, hsz] using e1
  rw [hv]
  obtain ⟨nn', sz', es', he, hz, hlen, hO⟩ := h3.own 0 _ rfl
  obtain ⟨rfl, rfl, rfl⟩ := AV.osl.inj he
  rcases hO with ⟨o1, o2, o3, o4⟩ | ⟨b, cap, c, ty, FF, o1, o2, o3, o4, o5, o6, o7, o8⟩
  · have hx : xs = [] := by cases xs with
      | nil => rfl
      | cons => cases o2
    subst hx
    rw [o1]
    refine (w_Sort0 none 0 w).mono ?_
    rintro e w' ⟨rfl, rfl⟩
    exact ⟨_, .tup [], _, LF, rfl, ⟨rfl, [], rfl, List.Pairwise.nil, rfl, fun _ => Iff.rfl⟩, ⟨rfl, rfl, rfl, Nat.le_refl _, fun _ _ _ => rfl⟩, .tup #[] [] rfl (fun i hi => absurd hi (by simp)), ⟨⟨rfl, rfl⟩, trivial⟩, h3, fun x hx => .inl hx⟩
  · obtain ⟨d, hdd⟩ : ∃ d, d = toSV xs hok := ⟨_, rfl⟩
    have hout : outV d = xs := by rw [hdd]; exact toSV_out xs hok
    have hds : d.size = xs.length := by rw [← outV_len, hout]
    have hget : ∀ i (hi : i < xs.length), (d[i]!).1 = xs[i] := fun i hi => by
      have := outV_get d i (by rw [hout]; exact hi)
      rw [← this]; congr 1
    have hrl : (rows encR xs).length = xs.length := rows_length ..
    rw [hrl] at o1 o4 o5 o6 o7 o8
    have hcell : ∀ i j, i < d.size → j < 3 → c.getD (i * 3 + j) undef = (encSV d[i]!)[j]! := by
      intro i j hi hj
      rw [hds] at hi
      have h5 := o5 i j hi hj
      rw [rows_cell xs hi hj] at h5
      unfold encSV
      rw [hget i hi]
      have hj3 : j = 0 ∨ j = 1 ∨ j = 2 := by omega
      rcases hj3 with rfl | rfl | rfl <;> exact own_int h5
    have h3c : d.size * 3 ≤ c.size := by rw [o3, hds]; exact Nat.mul_le_mul_right _ o4.1
    have hblt : b < w.heap.size := (Array.getElem?_eq_some_iff.1 o2).1
    rw [o1, ← hds]
    refine (w_Sort b cap d w (holds_V o2 d hcell h3c) hblt (by omega)).mono ?_
    rintro e w' ⟨rfl, d', n, os, hp, hsd, rfl⟩
    obtain ⟨s1, s2, s3⟩ := sort_out hp hsd (by rw [hout]; exact hd)
    rw [hout] at s2 s3
    obtain ⟨p1, p2, p3⟩ := put_block o2 d' n os
    have hd's : d'.size = xs.length := by rw [← outV_len, s2]
    have hyl : (rows encR (outV d')).length = xs.length := by rw [rows_length, s2]
    refine ⟨_, .tup [], [.osl nn 3 (rows encR (outV d'))], fun _ x => x = b, rfl, ⟨rfl, outV d', rfl, s1, s2.trans hds.symm, s3⟩, ⟨rfl, rfl, rfl, p3, fun x hx hm => p2 x hx fun g => hm ⟨0, by simp, (o8 x).2 (.inl g)⟩⟩, .tup #[] [] rfl (fun i hi => absurd hi (by simp)), ⟨⟨rfl, rfl⟩, trivial⟩, ?_, fun x hx => .inl ⟨0, by simp, (o8 x).2 (.inl (by obtain ⟨_, _, g⟩ := hx; exact g))⟩⟩
    refine ⟨fun i a ha => ?_, fun i j x hi hj _ _ => by simp at hi hj; omega⟩
    have hi0 : i = 0 := by
      have := (List.getElem?_eq_some_iff.1 ha).1
      simp at this; exact this
    subst hi0
    have ha : a = .osl nn 3 (rows encR (outV d')) := (Option.some.inj ha).symm
    refine ⟨nn, 3, _, ha, by decide, fun e he => ?_, .inr ⟨b, cap, _, ty, fun _ _ _ => False, ?_, p1, by rw [put_size]; exact o3, ?_, ?_, fun _ _ _ _ _ _ _ _ _ h => h.elim, fun _ _ _ _ h => h, fun x => ⟨.inl, fun h => h.elim id fun ⟨_, _, _, _, h⟩ => h.elim⟩⟩⟩
    · obtain ⟨y, _, rfl⟩ := List.mem_map.1 he; rfl
    · rw [o1, hyl]
    · rw [hyl]
      exact ⟨o4.1, fun g => o4.2 (by have : (rows encR xs).length = 0 := by rw [hrl, ← hyl, g]; rfl
                                     exact List.length_eq_zero_iff.1 this)⟩
    · intro i j hi hj
      rw [hyl] at hi
      have hi' : i < (outV d').length := by rw [s2]; exact hi
      rw [put_cell c d' (by rw [hd's, ← hds]; exact h3c) (by rw [hd's]; exact hi) hj, rows_cell (outV d') hi' hj, outV_get]
      unfold encSV
      have hj3 : j = 0 ∨ j = 1 ∨ j = 2 := by omega
      rcases hj3 with rfl | rfl | rfl <;> exact .int _ _ _ (fun _ h => h)

end Go.Proofs.Yteebkimhfaodnaa

/- Contracts: versions put in (the program). -/
set_option linter.unusedSimpArgs false
set_option linter.unusedVariables false
set_option maxRecDepth 20000
set_option maxHeartbeats 4000000
namespace Go.Proofs.Yteebkimhfaodnaa
open Go Go.RowKit

def wrV (n : Int) (ws : List Entry) : List Version := ws.map fun e => ⟨e.key, n, e.value⟩
theorem c_impl_withWrites (n1 n2 : Option Bool) (l : List Version) (n : Int) (ws : List Entry) (hl : l.length < 2 ^ 20) (hs : SortV l) (hv : ∀ x, x ∈ l → VOk x) (hn : 0 ≤ n ∧ n ≤ 9) (hw : entOk 0 (-1) ws = true) (hwl : ws.length < 2 ^ 20) :
    Det Try.prog 36 [.sl n1 (rows encR l), .int .i64 n, .sl n2 (rows encE ws)] (.osl false 3 (rows encR (putVs l n ws))) := by
  refine fspec_det tab_ok Try.call36 Try.func36 rfl 32 Try.ntmps36 (of_decide_eq_true rfl) fun B => codeK_sound tab_ok _ _ _ ?_
  simp (config := { maxSteps := 4000000 }) only [go_sem, simprocAttr, ↓dnA, Try.f36, rows_length]
  refine CallTo.det (c_impl_without n1 l n (by omega)) fun _ => ?_
  simp (config := { maxSteps := 4000000 }) only [go_sem, simprocAttr, ↓dnA, Try.f36, rows_length]
  have hdl : (dropV n l).length ≤ l.length := List.length_filter_le ..
  obtain ⟨d, hd⟩ : ∃ d, d = dropV n l := ⟨_, rfl⟩
  rw [← hd] at hdl ⊢
  refine semL_for tab_ok (fun i : Nat => ⟨32, [(1, .int .i64 n), (7, .row 600 (d ++ wrV n (ws.take i)).length), (13, .sl n2 (rows encE ws)), (14, .int .i64 ws.length), (15, .int .i64 i)],
      [(600, .row true false 3 (rows encR (d ++ wrV n (ws.take i))))]⟩) (fun i => ws.length - i)
    (fun i => i ≤ ws.length) 0 [(13000, 600)] (Weak.of (by rfl) ?_ ?_ (by rfl)) (by omega) ?_
  · simp (config := { maxSteps := 4000000 }) only [go_sem, simprocAttr, ↓dnA, Try.f36, rows_length, frW, wk2, wk1, wkL, wkB, hpW, List.mem_cons, Prod.mk.injEq, exists_eq_left, exists_eq_right, exists_eq]
    try simp [wrV]
  · simp (config := { maxSteps := 4000000 }) only [go_sem, simprocAttr, ↓dnA, Try.f36, rows_length, frW, wk2, wk1, wkL, wkB, hpW, List.mem_cons, Prod.mk.injEq, exists_eq_left, exists_eq_right, exists_eq]
    try simp [wrV]
  · rintro i hi
    have hlen : (d ++ wrV n (ws.take i)).length = d.length + i := by rw [List.length_append]; unfold wrV; rw [List.length_map, List.length_take]; omega
    by_cases h : i < ws.length
    · have hww : IntKind.i64.wrap ((i : Int) + 1) = ((i + 1 : Nat) : Int) := wsucc h (by omega)
      have hst : d ++ wrV n (ws.take (i + 1)) = (d ++ wrV n (ws.take i)) ++ [⟨ws[i].key, n, ws[i].value⟩] := by unfold wrV; rw [take_snoc _ _ h, List.map_append, List.append_assoc]; rfl
      have htk : (rows encR (d ++ wrV n (ws.take i))).take (d ++ wrV n (ws.take i)).length = rows encR (d ++ wrV n (ws.take i)) := by rw [List.take_of_length_le]; rw [rows_length]; exact Nat.le_refl _
      simp (config := { maxSteps := 4000000 }) only [go_sem, simprocAttr, ↓dnA, Try.f36, rows_length, nlt h, h, rows_get _ _ _ h, encE, nn0, htk, hww]
      repeat refine And.intro (by first | omega | (simp; done) | (simp; omega) | assumption) ?_
      refine ⟨i + 1, [(27, 600)], by omega, by dsimp only; omega, Weak.of (by rfl) ?_ ?_ (by rfl)⟩
      · simp (config := { maxSteps := 4000000 }) only [go_sem, simprocAttr, ↓dnA, Try.f36, rows_length, hst, List.length_append, frW, wk2, wk1, wkL, wkB, hpW, List.mem_cons, Prod.mk.injEq, exists_eq_left, exists_eq_right, exists_eq]
        rw [← rows_snoc]
        try rfl
      · simp (config := { maxSteps := 4000000 }) only [go_sem, simprocAttr, ↓dnA, Try.f36, rows_length, hst, List.length_append, frW, wk2, wk1, wkL, wkB, hpW, List.mem_cons, Prod.mk.injEq, exists_eq_left, exists_eq_right, exists_eq]
        try rfl
    · have hi' : i = ws.length := by omega
      subst hi'
      have hwo := writesOk_ent hw
      have hmem : ∀ x, x ∈ d ++ wrV n ws ↔ x ∈ putVs l n ws := by
        intro x
        rw [putVs_mem, List.mem_append, hd, dropV_mem]
        refine or_congr Iff.rfl ⟨fun hx => ?_, fun hx => ?_⟩
        · obtain ⟨e, he, rfl⟩ := List.mem_map.1 hx; exact ⟨rfl, he⟩
        · refine List.mem_map.2 ⟨_, hx.2, ?_⟩
          obtain ⟨x1, x2, x3⟩ := x
          obtain ⟨rfl, _⟩ := hx
          rfl
      have hok : ∀ x, x ∈ d ++ wrV n ws → VOk x := fun x hx => putVs_ok hv hn hw x ((hmem x).1 hx)
      have hkb : ((d ++ wrV n ws).map kb).Nodup := by
        rw [List.map_append, List.nodup_append, hd]
        refine ⟨List.pairwise_map.2 ((dropV_sort hs).imp fun {a b} hab he => ?_), ?_, ?_⟩
        · rw [ltV_iff] at hab
          unfold kb at he
          rw [Prod.mk.injEq] at he
          omega
        · unfold wrV
          rw [List.map_map]
          refine List.pairwise_map.2 ((List.pairwise_map.1 (ent_nodup hw)).imp fun {a b} hab he => hab ?_)
          exact congrArg Prod.fst he
        · intro a ha b hb he
          obtain ⟨x, hx, rfl⟩ := List.mem_map.1 ha
          obtain ⟨y, hy, rfl⟩ := List.mem_map.1 hb
          obtain ⟨e, _, rfl⟩ := List.mem_map.1 hy
          exact (dropV_mem.1 hx).2 (congrArg Prod.snd he)
      simp (config := { maxSteps := 4000000 }) only [go_sem, simprocAttr, ↓dnA, Try.f36, rows_length, nlf h, List.take_length]
      refine CallMTo.of (m_SortFunc false (d ++ wrV n ws) hok hkb (by rw [List.length_append]; unfold wrV; rw [List.length_map]; omega)) ?_
      rintro r lr ⟨rfl, ys, rfl, s1, s2, s3⟩
      have hys : ys = putVs l n ws := sort_ext s1 (putVs_sort hs hw) fun x => (s3 x).trans (hmem x)
      subst hys
      simp (config := { maxSteps := 4000000 }) only [go_sem, simprocAttr, ↓dnA, Try.f36, rows_length, s2]


end Go.Proofs.Yteebkimhfaodnaa

/- Contracts: valid engines (the program). -/
set_option linter.unusedSimpArgs false
set_option linter.unusedVariables false
set_option maxRecDepth 20000
set_option maxHeartbeats 4000000
namespace Go.Proofs.Yteebkimhfaodnaa
open Go Go.RowKit

theorem allTo_sort' {sl : List Slot} : ∀ n, (∀ k : Nat, k < n → entOk 0 (-1) (sl.getD k slot0).res.writes = true) → SortV (allTo sl n)
  | 0, _ => List.Pairwise.nil
  | n + 1, h => putVs_sort (allTo_sort' n fun k hk => h k (by omega)) (h n (by omega))
theorem allTo_ok' {sl : List Slot} : ∀ n, n ≤ 10 → (∀ k : Nat, k < n → entOk 0 (-1) (sl.getD k slot0).res.writes = true) → ∀ x, x ∈ allTo sl n → VOk x
  | 0, _, _ => fun x hx => by cases hx
  | n + 1, hn, h => putVs_ok (allTo_ok' n (by omega) fun k hk => h k (by omega)) (by omega) (h n (by omega))

theorem c_impl_EngineValid (n1 n2 n3 n4 : Option Bool) (e : Engine) (hs : EngSz (2 ^ 32) e) : Det Try.prog 14 [.agg (encG n1 n2 n3 n4 e)] (.bool (engValid e)) := by
  refine fspec_det tab_ok Try.call14 Try.func14 rfl 83 Try.ntmps14 (of_decide_eq_true rfl) fun B => codeK_sound tab_ok _ _ _ ?_
  have hb := hs.base
  have hll := hs.list
  have hsl := hs.slots
  have hvl := hs.versions
  simp (config := { maxSteps := 4000000 }) only [go_sem, simprocAttr, ↓dnA, Try.f14, rows_length, encG]
  refine CallTo.det (c_impl_StoreValid n1 e.base (by omega)) fun _ => ?_
  cases h1 : storeValid e.base with
  | false =>
    have hno := engValid_no (e := e) fun g => by have := g.base; rw [h1] at this; cases this
    simp (config := { maxSteps := 4000000 }) only [go_sem, simprocAttr, ↓dnA, Try.f14, rows_length, encG, h1, hno]
  | true =>
    simp (config := { maxSteps := 4000000 }) only [go_sem, simprocAttr, ↓dnA, Try.f14, rows_length, encG, h1]
    refine CallTo.det (c_impl_ActionsValid n2 e.list (by omega)) fun _ => ?_
    cases h2 : actionsValid e.list with
    | false =>
      have hno := engValid_no (e := e) fun g => by have := g.list; rw [h2] at this; cases this
      simp (config := { maxSteps := 4000000 }) only [go_sem, simprocAttr, ↓dnA, Try.f14, rows_length, encG, h1, h2, hno]
    | true =>
      have h10 := (actionsValid_ok h2).2
      cases h3 : ((e.slots.length : Int) != (e.list.length : Int)) with
      | true =>
        have hno := engValid_no (e := e) fun g => by have := g.len; rw [this] at h3; simp at h3
        simp (config := { maxSteps := 4000000 }) only [go_sem, simprocAttr, ↓dnA, Try.f14, rows_length, encG, h1, h2, h3, hno]
      | false =>
        have hle : e.slots.length = e.list.length := by have : (e.slots.length : Int) = (e.list.length : Int) := by simpa using h3
                                                        omega
        simp (config := { maxSteps := 4000000 }) only [go_sem, simprocAttr, ↓dnA, Try.f14, rows_length, encG, h1, h2, h3]
        refine semL_nilA 3 600 3 true (by rfl) (by rfl) (by decide) (by decide) ?_
        refine semL_for tab_ok (fun i : Nat => ⟨83, [(1, .loc 1 0), (3, .row 600 (allTo e.slots i).length), (28, .sl n4 (rows encS1 e.slots)), (29, .int .i64 e.slots.length), (30, .int .i64 i)],
            [(1, .var (encG n1 n2 n3 n4 e)), (600, .row true false 3 (rows encR (allTo e.slots i)))]⟩) (fun i => e.slots.length - i)
          (fun i => i ≤ e.slots.length ∧ ∀ j : Nat, j < i → slotOk j (actAt e j) (slotAt e j) = true) 0 [(1, 1), (600, 600)] (Weak.of (by rfl) ?_ ?_ (by rfl)) ⟨by omega, fun j hj => by omega⟩ ?_
        · simp (config := { maxSteps := 4000000 }) only [go_sem, simprocAttr, ↓dnA, Try.f14, rows_length, encG, frW, wk2, wk1, wkL, wkB, hpW, List.mem_cons, Prod.mk.injEq, exists_eq_left, exists_eq_right, exists_eq]
          try rfl
        · simp (config := { maxSteps := 4000000 }) only [go_sem, simprocAttr, ↓dnA, Try.f14, rows_length, encG, frW, wk2, wk1, wkL, wkB, hpW, List.mem_cons, Prod.mk.injEq, exists_eq_left, exists_eq_right, exists_eq]
          try rfl
        · rintro i ⟨hi, hp⟩
          have hent : ∀ k : Nat, k < i → entOk 0 (-1) (e.slots.getD k slot0).res.writes = true := fun k hk => slotOk_ent (actOk_of (act_valid h2 (n := k) (by omega))) (hp k hk)
          by_cases h : i < e.slots.length
          · have hav := actOk_of (act_valid h2 (n := i) (by omega))
            have hw : IntKind.i64.wrap ((i : Int) + 1) = ((i + 1 : Nat) : Int) := wsucc h (by omega)
            have hal := allTo_len' (sl := e.slots) i fun k hk => (slotOk_wlen (hp k hk)).1
            simp (config := { maxSteps := 4000000 }) only [go_sem, simprocAttr, ↓dnA, Try.f14, rows_length, encG, nlt h, h, rows_get _ _ _ h, nn0, encS1, encS]
            repeat refine And.intro (by first | omega | (simp; done) | (simp; omega) | assumption) ?_
            refine CallTo.det (c_impl_slotRight n1 n2 n3 n4 e i hs (by omega) h (by omega) hav) fun _ => ?_
            cases d1 : slotOk i (actAt e i) (slotAt e i) with
            | false =>
              have hno := engValid_no (e := e) fun g => by have := g.slot i h; rw [d1] at this; cases this
              simp (config := { maxSteps := 4000000 }) only [go_sem, simprocAttr, ↓dnA, Try.f14, rows_length, encG, nlt h, h, d1, hno]
            | true =>
              have hg : e.slots[i] = slotAt e i := (slotAt_lt h).symm
              have hwl := (slotOk_wlen d1).1
              have hput := c_impl_withWrites none none (allTo e.slots i) i (slotAt e i).res.writes (by omega) (allTo_sort' i hent) (allTo_ok' i (by omega) hent) (by omega) (slotOk_ent hav d1) (by omega)
              simp (config := { maxSteps := 4000000 }) only [go_sem, simprocAttr, ↓dnA, Try.f14, rows_length, encG, nlt h, h, d1, rows_get _ _ _ h, nn0, hg, encS1, encS]
              refine CallTo.det hput fun _ => ?_
              have hall : ∀ j : Nat, j < i + 1 → slotOk j (actAt e j) (slotAt e j) = true := by
                intro j hj
                by_cases c : j < i
                · exact hp j c
                · rw [show j = i by omega]; exact d1
              simp (config := { maxSteps := 4000000 }) only [go_sem, simprocAttr, ↓dnA, Try.f14, rows_length, encG, nlt h, h, d1, rows_get _ _ _ h, nn0, hg, encS1, encS, hw]
              refine ⟨i + 1, [(1, 1), (45000, 600)], ⟨by omega, hall⟩, by dsimp only; omega, Weak.of (by rfl) ?_ ?_ (by rfl)⟩
              · simp (config := { maxSteps := 4000000 }) only [go_sem, simprocAttr, ↓dnA, Try.f14, rows_length, encG, frW, wk2, wk1, wkL, wkB, hpW, List.mem_cons, Prod.mk.injEq, exists_eq_left, exists_eq_right, exists_eq]
                try rfl
              · simp (config := { maxSteps := 4000000 }) only [go_sem, simprocAttr, ↓dnA, Try.f14, rows_length, encG, frW, wk2, wk1, wkL, wkB, hpW, List.mem_cons, Prod.mk.injEq, exists_eq_left, exists_eq_right, exists_eq]
                try rfl
          · have hi' : i = e.slots.length := by omega
            subst hi'
            obtain ⟨vs, hvs⟩ : ∃ vs, vs = allTo e.slots e.slots.length := ⟨_, rfl⟩
            have hal := allTo_len' (sl := e.slots) e.slots.length fun k hk => (slotOk_wlen (hp k hk)).1
            rw [← hvs] at hal ⊢
            have hnv : vs ≠ e.versions → engValid e = false := fun g => engValid_no fun o => g (by rw [hvs]; exact o.vers.symm)
            simp (config := { maxSteps := 4000000 }) only [go_sem, simprocAttr, ↓dnA, Try.f14, rows_length, encG, nlf h]
            refine CallTo.det (c_slices_Equal_Version none n3 vs e.versions (by omega) (by omega)) fun _ => ?_
            cases d2 : decide (vs = e.versions) with
            | false =>
              have hno := hnv (of_decide_eq_false d2)
              simp (config := { maxSteps := 4000000 }) only [go_sem, simprocAttr, ↓dnA, Try.f14, rows_length, encG, nlf h, d2, hno]
            | true =>
              have hve := of_decide_eq_true d2
              simp (config := { maxSteps := 4000000 }) only [go_sem, simprocAttr, ↓dnA, Try.f14, rows_length, encG, nlf h, d2]
              refine semL_for tab_ok (fun i : Nat => ⟨83, [(1, .loc 1 0), (52, .sl n4 (rows encS1 e.slots)), (53, .int .i64 e.slots.length), (54, .int .i64 i)], [(1, .var (encG n1 n2 n3 n4 e))]⟩) (fun i => e.slots.length - i)
                (fun i => i ≤ e.slots.length ∧ ∀ j : Nat, j < i → chkOk e j) 0 [(1, 1)] (Weak.of (by rfl) ?_ ?_ (by rfl)) ⟨by omega, fun j hj => by omega⟩ ?_
              · simp (config := { maxSteps := 4000000 }) only [go_sem, simprocAttr, ↓dnA, Try.f14, rows_length, encG, frW, wk2, wk1, wkL, wkB, hpW, List.mem_cons, Prod.mk.injEq, exists_eq_left, exists_eq_right, exists_eq]
                try rfl
              · simp (config := { maxSteps := 4000000 }) only [go_sem, simprocAttr, ↓dnA, Try.f14, rows_length, encG, frW, wk2, wk1, wkL, wkB, hpW, List.mem_cons, Prod.mk.injEq, exists_eq_left, exists_eq_right, exists_eq]
                try rfl
              · rintro i ⟨hi, hc⟩
                by_cases h : i < e.slots.length
                · have hw : IntKind.i64.wrap ((i : Int) + 1) = ((i + 1 : Nat) : Int) := wsucc h (by omega)
                  have hg : e.slots[i] = slotAt e i := (slotAt_lt h).symm
                  have hso := hp i h
                  have hnc : ¬ chkOk e i → engValid e = false := fun g => engValid_no fun o => g (o.chk i h)
                  have hcs : chkOk e i → ∀ j : Nat, j < i + 1 → chkOk e j := by
                    intro g j hj
                    by_cases c : j < i
                    · exact hc j c
                    · rw [show j = i by omega]; exact g
                  cases c1 : ((slotAt e i).stage == 2) with
                  | false =>
                    have hck : chkOk e i := fun g => by rw [g] at c1; simp at c1
                    simp (config := { maxSteps := 4000000 }) only [go_sem, simprocAttr, ↓dnA, Try.f14, rows_length, encG, encS1, encS, nlt h, h, rows_get _ _ _ h, hg, nn0, c1, hw]
                    repeat refine And.intro (by first | omega | (simp; done) | (simp; omega) | assumption) ?_
                    refine ⟨i + 1, [(1, 1)], ⟨by omega, hcs hck⟩, by dsimp only; omega, Weak.of (by rfl) ?_ ?_ (by rfl)⟩
                    · simp (config := { maxSteps := 4000000 }) only [go_sem, simprocAttr, ↓dnA, Try.f14, rows_length, encG, frW, wk2, wk1, wkL, wkB, hpW, List.mem_cons, Prod.mk.injEq, exists_eq_left, exists_eq_right, exists_eq]
                      try rfl
                    · simp (config := { maxSteps := 4000000 }) only [go_sem, simprocAttr, ↓dnA, Try.f14, rows_length, encG, frW, wk2, wk1, wkL, wkB, hpW, List.mem_cons, Prod.mk.injEq, exists_eq_left, exists_eq_right, exists_eq]
                      try rfl
                  | true =>
                    have hst : (slotAt e i).stage = 2 := by simpa using c1
                    have hs1 := slotOk_one hso (by omega)
                    have hro := hs1.2.2.1
                    unfold readsOk at hro
                    simp only [Bool.and_eq_true, decide_eq_true_eq] at hro
                    have hkk := hro.1.1.1
                    have hsame := c_impl_current n1 n2 n3 n4 e i hs h1 (by omega) h (actOk_of (act_valid h2 (n := i) (by omega))) hkk
                    by_cases h0 : i = 0
                    · have k0 : decide ((i : Int) > 0) = false := by simp; omega
                      simp (config := { maxSteps := 4000000 }) only [go_sem, simprocAttr, ↓dnA, Try.f14, rows_length, encG, encS1, encS, nlt h, h, rows_get _ _ _ h, hg, nn0, c1, k0]
                      repeat refine And.intro (by first | omega | (simp; done) | (simp; omega) | assumption) ?_
                      refine CallTo.det hsame fun _ => ?_
                      cases c2 : currentE e i (actAt e i) (slotAt e i) with
                      | false =>
                        have hno := hnc fun g => by have := (g hst).2; rw [c2] at this; cases this
                        simp (config := { maxSteps := 4000000 }) only [go_sem, simprocAttr, ↓dnA, Try.f14, rows_length, encG, encS1, encS, nlt h, h, rows_get _ _ _ h, hg, nn0, c1, k0, c2, hno]
                      | true =>
                        simp (config := { maxSteps := 4000000 }) only [go_sem, simprocAttr, ↓dnA, Try.f14, rows_length, encG, encS1, encS, nlt h, h, rows_get _ _ _ h, hg, nn0, c1, k0, c2, hw]
                        refine ⟨i + 1, [(1, 1)], ⟨by omega, hcs fun _ => ⟨.inl h0, c2⟩⟩, by dsimp only; omega, Weak.of (by rfl) ?_ ?_ (by rfl)⟩
                        · simp (config := { maxSteps := 4000000 }) only [go_sem, simprocAttr, ↓dnA, Try.f14, rows_length, encG, frW, wk2, wk1, wkL, wkB, hpW, List.mem_cons, Prod.mk.injEq, exists_eq_left, exists_eq_right, exists_eq]
                          try rfl
                        · simp (config := { maxSteps := 4000000 }) only [go_sem, simprocAttr, ↓dnA, Try.f14, rows_length, encG, frW, wk2, wk1, wkL, wkB, hpW, List.mem_cons, Prod.mk.injEq, exists_eq_left, exists_eq_right, exists_eq]
                          try rfl
                    · have k0 : decide ((i : Int) > 0) = true := by simp; omega
                      have h' : i - 1 < e.slots.length := by omega
                      have hgp : e.slots[i - 1] = slotAt e (i - 1) := (slotAt_lt h').symm
                      have hw1 : IntKind.i64.wrap ((i : Int) - 1) = ((i - 1 : Nat) : Int) := by rw [wrap_small _ (by omega) (by omega)]; omega
                      cases c3 : ((slotAt e (i - 1)).stage != 2) with
                      | true =>
                        have hno := hnc fun g => by
                          rcases (g hst).1 with g1 | g1
                          · exact h0 g1
                          · rw [g1] at c3; simp at c3
                        simp (config := { maxSteps := 4000000 }) only [go_sem, simprocAttr, ↓dnA, Try.f14, rows_length, encG, encS1, encS, nlt h, h, h', rows_get _ _ _ h, rows_get _ _ _ h', hg, hgp, nn0, hw1, c1, k0, c3, hno]
                        omega
                      | false =>
                        have hsp : (slotAt e (i - 1)).stage = 2 := by simpa using c3
                        simp (config := { maxSteps := 4000000 }) only [go_sem, simprocAttr, ↓dnA, Try.f14, rows_length, encG, encS1, encS, nlt h, h, h', rows_get _ _ _ h, rows_get _ _ _ h', hg, hgp, nn0, hw1, c1, k0, c3]
                        repeat refine And.intro (by first | omega | (simp; done) | (simp; omega) | assumption) ?_
                        refine CallTo.det hsame fun _ => ?_
                        cases c2 : currentE e i (actAt e i) (slotAt e i) with
                        | false =>
                          have hno := hnc fun g => by have := (g hst).2; rw [c2] at this; cases this
                          simp (config := { maxSteps := 4000000 }) only [go_sem, simprocAttr, ↓dnA, Try.f14, rows_length, encG, encS1, encS, nlt h, h, h', rows_get _ _ _ h, rows_get _ _ _ h', hg, hgp, nn0, hw1, c1, k0, c2, c3, hno]
                        | true =>
                          simp (config := { maxSteps := 4000000 }) only [go_sem, simprocAttr, ↓dnA, Try.f14, rows_length, encG, encS1, encS, nlt h, h, h', rows_get _ _ _ h, rows_get _ _ _ h', hg, hgp, nn0, hw1, c1, k0, c2, c3, hw]
                          refine ⟨i + 1, [(1, 1)], ⟨by omega, hcs fun _ => ⟨.inr hsp, c2⟩⟩, by dsimp only; omega, Weak.of (by rfl) ?_ ?_ (by rfl)⟩
                          · simp (config := { maxSteps := 4000000 }) only [go_sem, simprocAttr, ↓dnA, Try.f14, rows_length, encG, frW, wk2, wk1, wkL, wkB, hpW, List.mem_cons, Prod.mk.injEq, exists_eq_left, exists_eq_right, exists_eq]
                            try rfl
                          · simp (config := { maxSteps := 4000000 }) only [go_sem, simprocAttr, ↓dnA, Try.f14, rows_length, encG, frW, wk2, wk1, wkL, wkB, hpW, List.mem_cons, Prod.mk.injEq, exists_eq_left, exists_eq_right, exists_eq]
                            try rfl
                · have hi' : i = e.slots.length := by omega
                  subst hi'
                  have hyes := engValid_yes (e := e) ⟨h1, h2, hle, hp, by rw [← hve, hvs], fun j hj => hc j hj⟩
                  simp (config := { maxSteps := 4000000 }) only [go_sem, simprocAttr, ↓dnA, Try.f14, rows_length, encG, nlf h, hyes]



end Go.Proofs.Yteebkimhfaodnaa

/- Contracts: a step of an engine (the program). -/
set_option linter.unusedSimpArgs false
set_option linter.unusedVariables false
set_option maxRecDepth 20000
set_option maxHeartbeats 4000000
namespace Go.Proofs.Yteebkimhfaodnaa
open Go Go.RowKit

theorem cellsI_slF (v : List Int) : (cellsI v).all slFree = true := by
  rw [List.all_eq_true]
  intro x hx
  obtain ⟨y, _, rfl⟩ := List.mem_map.1 hx
  rfl

theorem c_impl_step (e : Engine) (n : Int) (he : EngOk e) : DetB Try.prog 41 [.loc 0 0, .int .i64 n] (encGF e) (.bool (stepE e n).2) (encGF (stepE e n).1) := by
  refine fspec_detB tab_ok Try.call41 Try.func41 rfl 114 Try.ntmps41 (of_decide_eq_true rfl) fun B => semC_ghostX (codeK_sound tab_ok _ _ _ ?_)
  have hs := he.sz
  have h10 := he.len10
  have hll := he.len
  have hin : ∀ x lo hi : Int, Det Try.prog 57 [.int .i64 x, .int .i64 lo, .int .i64 hi] (.bool (inB x lo hi)) := c_impl_in
  have hw0 : IntKind.i64.wrap ((e.slots.length : Int) - 1) = (e.slots.length : Int) - 1 := wrap_small _ (by omega) (by omega)
  simp (config := { maxSteps := 4000000 }) only [go_sem, simprocAttr, ↓dnA, Try.f41, rows_length, encG, encGF, hw0]
  refine CallTo.det (hin _ _ _) fun _ => ?_
  cases c0 : inB n 0 ((e.slots.length : Int) - 1) with
  | false =>
    have hst : stepE e n = (e, false) := by
      unfold stepE
      rw [if_neg (fun g => by have := inB_iff.2 (show 0 ≤ n ∧ n ≤ (e.slots.length : Int) - 1 by omega); rw [c0] at this; cases this)]
    rw [hst]
    simp (config := { maxSteps := 4000000 }) only [go_sem, simprocAttr, ↓dnA, Try.f41, rows_length, encG, encGF, c0]
    refine GhostK.go _ (Ghost.refl _) ?_
    simp (config := { maxSteps := 4000000 }) only [go_sem, simprocAttr, ↓dnA, Try.f41, rows_length, encG, encGF]
  | true =>
    have c0' := inB_iff.1 c0
    obtain ⟨k, rfl⟩ : ∃ k : Nat, n = (k : Int) := ⟨n.toNat, by omega⟩
    have hk : k < e.slots.length := by omega
    have hst : stepE e (k : Int) = stepN e k := by
      unfold stepE
      rw [if_pos (by omega)]; rfl
    rw [hst]
    have hg : e.slots[k] = slotAt e k := (slotAt_lt hk).symm
    have hka : k < e.list.length := by omega
    have hga : e.list[k] = actAt e k := (actAt_lt hka).symm
    have hso := he.slot k hk
    rcases he.stage k with hs0 | hs1 | hs2
    · have d0 : ((slotAt e k).stage == 0) = true := by rw [hs0]; rfl
      cases t0 : ((slotAt e k).tries == 1000) with
      | true =>
        have hN : stepN e k = (e, false) := by unfold stepN; rw [if_pos hs0, if_pos (by simpa using t0)]
        rw [hN]
        simp (config := { maxSteps := 4000000 }) only [go_sem, simprocAttr, ↓dnA, Try.f41, rows_length, encG, encGF, c0, hk, rows_get _ _ _ hk, hg, encS1, encS, nn0, d0, t0]
        repeat refine And.intro (by first | omega | (simp; done) | (simp; omega) | assumption) ?_
        refine GhostK.go _ (Ghost.refl _) ?_
        simp (config := { maxSteps := 4000000 }) only [go_sem, simprocAttr, ↓dnA, Try.f41, rows_length, encG, encGF]
      | false =>
        have hN : stepN e k = (setE e k ⟨1, (slotAt e k).tries + 1, tryW e k (actAt e k), tryE e k (actAt e k)⟩ (putVs e.versions k (tryE e k (actAt e k)).writes), true) := by
          unfold stepN; rw [if_pos hs0, if_neg (by simpa using t0)]
        rw [hN]
        have hact := he.act hk
        have hnow := c_impl_now none none none none e k hs he.base hka hact
        have hb1 := fun k' => he.seen_bd (n := k) (by omega) k'
        have hvo : ValsOk (nowV e k (actAt e k)) := applyW_ok _ _ (valuesL_ok he.base) fun w hw => by
          obtain ⟨q, hq, rfl⟩ := List.mem_map.1 hw
          exact ⟨readsA_bd hact hq, (hb1 q).1⟩
        have hrun := c_impl_run (actAt e k) (nowV e k (actAt e k)) hact hvo
        have hre : runE (actAt e k) (nowV e k (actAt e k)) = tryE e k (actAt e k) := runE_reads hact _ (valuesL_ok he.base).1
        rw [hre] at hrun
        simp (config := { maxSteps := 4000000 }) only [go_sem, simprocAttr, ↓dnA, Try.f41, rows_length, encG, encGF, c0, hk, rows_get _ _ _ hk, hg, encS1, encS, nn0, d0, t0]
        repeat refine And.intro (by first | omega | (simp; done) | (simp; omega) | assumption) ?_
        refine CallTo.det hnow fun _ => ?_
        have cv : (cellsI (nowV e k (actAt e k))).length = 32 := by rw [cellsI_length, hvo.1]
        have ctk := cellsI_take _ 32 hvo.1
        simp (config := { maxSteps := 4000000 }) only [go_sem, simprocAttr, ↓dnA, Try.f41, rows_length, encG, encGF, cellsI_impL, cellsI_impLB, cv, ctk, cellsI_one, cellsI_slF, hk, rows_get _ _ _ hk, hg, encS1, encS, nn0, d0, t0]
        refine semL_ghost (Ghost.weak (t := ⟨114, [(0, .loc 900 0), (1, .int .i64 k), (5, .elt 651 k 0), (6, .loc 6 0), (7, .row 40100 (tryW e k (actAt e k)).length)],
          [(900, .var [.row 901 e.base.length, .row 902 e.list.length, .row 903 e.versions.length, .row 651 e.slots.length]), (6, .var (cellsI (nowV e k (actAt e k)))), (40100, .row true false 1 (rows encI (tryW e k (actAt e k)))),
            (901, .row true false 2 (rows encE e.base)), (902, .row true false 4 (rows encA e.list)), (903, .row true false 3 (rows encR e.versions)), (651, .row true false 6 (rows encS1 e.slots))]⟩)
          (ρ := [(900, 900), (6, 6), (40100, 40100), (901, 901), (902, 902), (903, 903), (904, 651)]) (Weak.of (by rfl) ?_ ?_ (by rfl))) ?_
        · simp (config := { maxSteps := 4000000 }) only [go_sem, simprocAttr, ↓dnA, Try.f41, rows_length, encG, encS1, encS, cellsI_wk, frW, wk2, wk1, wkL, wkB, hpW, List.mem_cons, Prod.mk.injEq, exists_eq_left, exists_eq_right, exists_eq]
          try exact of_eq_true (cellsI_wk _ _)
        · simp (config := { maxSteps := 4000000 }) only [go_sem, simprocAttr, ↓dnA, Try.f41, rows_length, encG, encS1, encS, frW, wk2, wk1, wkL, wkB, hpW, List.mem_cons, Prod.mk.injEq, exists_eq_left, exists_eq_right, exists_eq]
          try rfl
        refine semL_draw tab_ok mixed_ rfl (ord := [(0, []), (1, []), (2, []), (3, []), (4, []), (5, []), (6, []), (7, []), (8, []), (9, []), (10, []), (11, []), (12, []), (13, []), (14, []), (15, [0, 1, 2, 3, 4, 5, 6]), (16, []), (17, []), (18, [])]) (by dsimp only; decide +kernel) ?_
        have hto := he.tries k
        have hwl := slotOk_wlen (try_ok he hk (t := 1) (by omega))
        have hwl1 : (tryE e k (actAt e k)).writes.length ≤ 2 := hwl.1
        have hwt : IntKind.i64.wrap ((slotAt e k).tries + 1) = (slotAt e k).tries + 1 := wrap_small _ (by omega) (by omega)
        have hver := he.versOk
        have hvl := he.vlen
        have hent := slotOk_ent hact (try_ok he hk (t := 1) (by omega))
        simp (config := { maxSteps := 4000000 }) only [go_sem, simprocAttr, ↓dnA, Try.f41, rows_length, encG, encGF, encS1, encS, encFO, hk, rows_get _ _ _ hk, hg, hka, rows_get _ _ _ hka, hga, encA, nn0, cv, ctk, cellsI_noT, cellsI_argL, hwt]
        repeat refine And.intro (by first | omega | (simp; done) | (simp; omega) | assumption) ?_
        refine CallTo.det hrun fun _ => ?_
        simp (config := { maxSteps := 4000000 }) only [go_sem, simprocAttr, ↓dnA, Try.f41, rows_length, encG, encGF, encS1, encS, encFO, hk, rows_get _ _ _ hk, hg, hka, rows_get _ _ _ hka, hga, encA, nn0, cv, ctk, cellsI_noT, cellsI_argL, hwt]
        repeat refine And.intro (by first | omega | (simp; done) | (simp; omega) | assumption) ?_
        refine semL_draw tab_ok mixed_ rfl (ord := [(0, []), (1, []), (2, []), (3, []), (4, []), (5, []), (6, []), (7, []), (8, []), (9, []), (10, []), (11, [0]), (12, []), (13, []), (14, [])]) (by dsimp only; decide +kernel) ?_
        simp (config := { maxSteps := 4000000 }) only [go_sem, simprocAttr, ↓dnA, Try.f41, rows_length, encG, encGF, encS1, encS, encFO, hk, rows_get _ _ _ hk, hg, hka, rows_get _ _ _ hka, hga, encA, nn0, cv, ctk, cellsI_noT, cellsI_argL, hwt]
        repeat refine And.intro (by first | omega | (simp; done) | (simp; omega) | assumption) ?_
        refine CallTo.det (c_impl_withWrites none none e.versions k (tryE e k (actAt e k)).writes (by omega) hver.1 hver.2 (by omega) hent (by omega)) fun _ => ?_
        simp (config := { maxSteps := 4000000 }) only [go_sem, simprocAttr, ↓dnA, Try.f41, rows_length, encG, encGF, encS1, encS, encFO, hk, rows_get _ _ _ hk, hg, hka, rows_get _ _ _ hka, hga, encA, nn0, cv, ctk, cellsI_noT, cellsI_argL, hwt]
        repeat refine And.intro (by first | omega | (simp; done) | (simp; omega) | assumption) ?_
        refine GhostK.go _ (Ghost.closeSlot 58002 _ k ⟨1, (slotAt e k).tries + 1, tryW e k (actAt e k), tryE e k (actAt e k)⟩ (slotAt e k).res.writes hk (by rfl) (by rfl) (by rfl)) ?_
        simp (config := { maxSteps := 4000000 }) only [go_sem, simprocAttr, ↓dnA, Try.f41, rows_length, encGF, setE, List.length_set]
    · have d0 : ((slotAt e k).stage == 0) = false := by rw [hs1]; rfl
      have d1 : ((slotAt e k).stage == 1) = true := by rw [hs1]; rfl
      have hz0 : ¬ (slotAt e k).stage = 0 := by omega
      have hs1' := slotOk_one hso hz0
      have hro := hs1'.2.2.1
      unfold readsOk at hro
      simp only [Bool.and_eq_true, decide_eq_true_eq] at hro
      have hkk := hro.1.1.1
      have hsame := c_impl_current none none none none e k hs he.base hka hk (he.act hk) hkk
      have hset2 : (rows encS1 e.slots).set k [.int .i64 2, .int .i64 (slotAt e k).tries, .sl none (rows encI (slotAt e k).fr), .bool (slotAt e k).res.done, .sl none (rows encE (slotAt e k).res.reads), .sl none (rows encE (slotAt e k).res.writes)] = rows encS1 (e.slots.set k ⟨2, (slotAt e k).tries, (slotAt e k).fr, (slotAt e k).res⟩) := rows_set encS1 _ _ ⟨2, (slotAt e k).tries, (slotAt e k).fr, (slotAt e k).res⟩
      have hset0 : (rows encS1 e.slots).set k [.int .i64 0, .int .i64 (slotAt e k).tries, .sl none [], .bool false, .sl none [], .sl none []] = rows encS1 (e.slots.set k ⟨0, (slotAt e k).tries, [], ⟨false, [], []⟩⟩) := rows_set encS1 _ _ ⟨0, (slotAt e k).tries, [], ⟨false, [], []⟩⟩
      by_cases h0 : k = 0
      · have k0 : decide ((k : Int) > 0) = false := by simp; omega
        have hN : stepN e k = if currentE e k (actAt e k) (slotAt e k) then (setE e k ⟨2, (slotAt e k).tries, (slotAt e k).fr, (slotAt e k).res⟩ e.versions, true) else (setE e k ⟨0, (slotAt e k).tries, [], ⟨false, [], []⟩⟩ (dropV k e.versions), true) := by
          unfold stepN; rw [if_neg hz0, if_pos hs1, if_neg (by omega)]
        rw [hN]
        simp (config := { maxSteps := 4000000 }) only [go_sem, simprocAttr, ↓dnA, Try.f41, rows_length, encG, encGF, c0, hk, rows_get _ _ _ hk, hg, encS1, encS, nn0, d0, d1, k0]
        repeat refine And.intro (by first | omega | (simp; done) | (simp; omega) | assumption) ?_
        refine CallTo.det hsame fun _ => ?_
        cases c2 : currentE e k (actAt e k) (slotAt e k) with
        | true =>
          simp (config := { maxSteps := 4000000 }) only [go_sem, simprocAttr, ↓dnA, Try.f41, rows_length, encG, encGF, c0, hk, rows_get _ _ _ hk, hg, encS1, encS, nn0, d0, d1, c2]
          repeat refine And.intro (by first | omega | (simp; done) | (simp; omega) | assumption) ?_
          refine GhostK.go _ (Ghost.refl _) ?_
          simp (config := { maxSteps := 4000000 }) only [go_sem, simprocAttr, ↓dnA, Try.f41, rows_length, encGF, setE, List.length_set, hset2]
        | false =>
          simp (config := { maxSteps := 4000000 }) only [go_sem, simprocAttr, ↓dnA, Try.f41, rows_length, encG, encGF, c0, hk, rows_get _ _ _ hk, hg, encS1, encS, nn0, d0, d1, c2]
          repeat refine And.intro (by first | omega | (simp; done) | (simp; omega) | assumption) ?_
          refine CallTo.det (c_impl_without none e.versions k (by have := hs.versions; omega)) fun _ => ?_
          simp (config := { maxSteps := 4000000 }) only [go_sem, simprocAttr, ↓dnA, Try.f41, rows_length, encG, encGF, c0, hk, rows_get _ _ _ hk, hg, encS1, encS, nn0, d0, d1, c2]
          refine GhostK.go _ (Ghost.refl _) ?_
          simp (config := { maxSteps := 4000000 }) only [go_sem, simprocAttr, ↓dnA, Try.f41, rows_length, encGF, setE, List.length_set, hset0]
      · have k0 : decide ((k : Int) > 0) = true := by simp; omega
        have hk' : k - 1 < e.slots.length := by omega
        have hgp : e.slots[k - 1] = slotAt e (k - 1) := (slotAt_lt hk').symm
        have hw1 : IntKind.i64.wrap ((k : Int) - 1) = ((k - 1 : Nat) : Int) := by rw [wrap_small _ (by omega) (by omega)]; omega
        cases c3 : ((slotAt e (k - 1)).stage != 2) with
        | true =>
          have hN : stepN e k = (e, false) := by
            unfold stepN; rw [if_neg hz0, if_pos hs1, if_pos ⟨by omega, by simpa using c3⟩]
          rw [hN]
          simp (config := { maxSteps := 4000000 }) only [go_sem, simprocAttr, ↓dnA, Try.f41, rows_length, encG, encGF, c0, hk, hk', rows_get _ _ _ hk, rows_get _ _ _ hk', hg, hgp, encS1, encS, nn0, hw1, d0, d1, k0, c3]
          repeat refine And.intro (by first | omega | (simp; done) | (simp; omega) | assumption) ?_
          refine GhostK.go _ (Ghost.refl _) ?_
          simp (config := { maxSteps := 4000000 }) only [go_sem, simprocAttr, ↓dnA, Try.f41, rows_length, encG, encGF]
        | false =>
          have hN : stepN e k = if currentE e k (actAt e k) (slotAt e k) then (setE e k ⟨2, (slotAt e k).tries, (slotAt e k).fr, (slotAt e k).res⟩ e.versions, true) else (setE e k ⟨0, (slotAt e k).tries, [], ⟨false, [], []⟩⟩ (dropV k e.versions), true) := by
            unfold stepN; rw [if_neg hz0, if_pos hs1, if_neg (fun g => g.2 (by simpa using c3))]
          rw [hN]
          simp (config := { maxSteps := 4000000 }) only [go_sem, simprocAttr, ↓dnA, Try.f41, rows_length, encG, encGF, c0, hk, hk', rows_get _ _ _ hk, rows_get _ _ _ hk', hg, hgp, encS1, encS, nn0, hw1, d0, d1, k0, c3]
          repeat refine And.intro (by first | omega | (simp; done) | (simp; omega) | assumption) ?_
          refine CallTo.det hsame fun _ => ?_
          simp (config := { maxSteps := 4000000 }) only [go_sem, simprocAttr, ↓dnA, Try.f41, rows_length, encG, encGF, c0, hk, rows_get _ _ _ hk, hg, encS1, encS, nn0, d0, d1, hset2]
          refine ⟨fun c2 => ?_, fun c2 => ?_⟩
          · refine GhostK.go _ (Ghost.refl _) ?_
            simp (config := { maxSteps := 4000000 }) only [go_sem, simprocAttr, ↓dnA, Try.f41, rows_length, encGF, setE, List.length_set, c2]
          · refine CallTo.det (c_impl_without none e.versions k (by have := hs.versions; omega)) fun _ => ?_
            simp (config := { maxSteps := 4000000 }) only [go_sem, simprocAttr, ↓dnA, Try.f41, rows_length, encG, encGF, c0, hk, rows_get _ _ _ hk, hg, encS1, encS, nn0, d0, d1, hset0]
            refine GhostK.go _ (Ghost.refl _) ?_
            simp (config := { maxSteps := 4000000 }) only [go_sem, simprocAttr, ↓dnA, Try.f41, rows_length, encGF, setE, List.length_set, hset0, c2]
    · have d0 : ((slotAt e k).stage == 0) = false := by rw [hs2]; rfl
      have d1 : ((slotAt e k).stage == 1) = false := by rw [hs2]; rfl
      have hN : stepN e k = (e, false) := by unfold stepN; rw [if_neg (by omega), if_neg (by omega)]
      rw [hN]
      simp (config := { maxSteps := 4000000 }) only [go_sem, simprocAttr, ↓dnA, Try.f41, rows_length, encG, encGF, c0, hk, rows_get _ _ _ hk, hg, encS1, encS, nn0, d0, d1]
      repeat refine And.intro (by first | omega | (simp; done) | (simp; omega) | assumption) ?_
      refine GhostK.go _ (Ghost.refl _) ?_
      simp (config := { maxSteps := 4000000 }) only [go_sem, simprocAttr, ↓dnA, Try.f41, rows_length, encG, encGF]


end Go.Proofs.Yteebkimhfaodnaa

/- Contracts: EngineStep. -/
set_option linter.unusedSimpArgs false
set_option linter.unusedVariables false
set_option maxRecDepth 20000
set_option maxHeartbeats 4000000
namespace Go.Proofs.Yteebkimhfaodnaa
open Go Go.RowKit

def zeroE : Engine := ⟨[], [], [], []⟩
theorem encGF_zero : encGF zeroE = [.osl false 2 [], .osl false 4 [], .osl false 3 [], .osl false 6 []] := rfl
/-- An engine after a step. -/
noncomputable def stepX (e : Engine) (n : Int) : Engine × Bool := if engValid e then stepE e n else (zeroE, false)
theorem stepX_ok {e : Engine} (h : EngOk e) (n : Int) : stepX e n = stepE e n := by unfold stepX; rw [if_pos (engValid_yes h)]
theorem stepX_no {e : Engine} (h : engValid e = false) (n : Int) : stepX e n = (zeroE, false) := by unfold stepX; rw [if_neg (by rw [h]; simp)]

theorem c_impl_EngineStep (n1 n2 n3 n4 : Option Bool) (e : Engine) (n : Int) (hs : EngSz (2 ^ 32) e) : Det Try.prog 21 [.agg (encG n1 n2 n3 n4 e), .int .i64 n] (.tup [.agg (encGF (stepX e n).1), .bool (stepX e n).2]) := by
  refine fspec_det tab_ok Try.call21 Try.func21 rfl 18 Try.ntmps21 (of_decide_eq_true rfl) fun B => codeK_sound tab_ok _ _ _ ?_
  simp (config := { maxSteps := 4000000 }) only [go_sem, simprocAttr, ↓dnA, Try.f21, rows_length, encG]
  refine CallTo.det (c_impl_EngineValid n1 n2 n3 n4 e hs) fun _ => ?_
  cases c : engValid e with
  | false =>
    rw [stepX_no c]
    simp (config := { maxSteps := 4000000 }) only [go_sem, simprocAttr, ↓dnA, Try.f21, rows_length, encG, encGF_zero, c]
  | true =>
    have he := engValid_iff.1 c
    rw [stepX_ok he]
    simp (config := { maxSteps := 4000000 }) only [go_sem, simprocAttr, ↓dnA, Try.f21, rows_length, encG, c]
    refine CallTo.det (c_impl_Engine_clone n1 n2 n3 n4 e hs) fun _ => ?_
    simp (config := { maxSteps := 4000000 }) only [go_sem, simprocAttr, ↓dnA, Try.f21, rows_length, encG, encGF]
    refine CallTo.detB (c_impl_step e n he) ?_
    simp (config := { maxSteps := 4000000 }) only [go_sem, simprocAttr, ↓dnA, Try.f21, rows_length, encG, encGF]


end Go.Proofs.Yteebkimhfaodnaa

/- Contracts: the laws' marks of blocks and trees. -/
set_option linter.unusedSimpArgs false
set_option linter.unusedVariables false
set_option maxRecDepth 20000
set_option maxHeartbeats 4000000
namespace Go.Proofs.Yteebkimhfaodnaa
open Go Go.RowKit

end Go.Proofs.Yteebkimhfaodnaa

/- Contracts: the laws' marks of engines. -/
set_option linter.unusedSimpArgs false
set_option linter.unusedVariables false
set_option maxRecDepth 20000
set_option maxHeartbeats 4000000
namespace Go.Proofs.Yteebkimhfaodnaa
open Go Go.RowKit

end Go.Proofs.Yteebkimhfaodnaa

/- Contracts: the laws' sizes and copies of engines. -/
set_option linter.unusedSimpArgs false
set_option linter.unusedVariables false
set_option maxRecDepth 20000
set_option maxHeartbeats 4000000
namespace Go.Proofs.Yteebkimhfaodnaa
open Go Go.RowKit

/-- How much a slot, an engine is. -/
def ssz (s : Slot) : Nat := s.fr.length + (s.res.reads.length + s.res.writes.length)
def ssum : List Slot → Nat
  | [] => 0
  | s :: r => ssz s + ssum r
theorem ssum_cons (s : Slot) (r : List Slot) : ssum (s :: r) = ssz s + ssum r := rfl
theorem ssum_mem : ∀ (l : List Slot) (s : Slot), s ∈ l → ssz s ≤ ssum l
  | [], s, h => by cases h
  | c :: r, s, h => by
    unfold ssum
    rcases List.mem_cons.1 h with rfl | h
    · omega
    · have := ssum_mem r s h; omega
def gsz (e : Engine) : Nat := e.base.length + (e.list.length + (e.versions.length + (e.slots.length + ssum e.slots)))

theorem gsz_sz {e : Engine} {n : Nat} (h : gsz e < n) : EngSz n e := by
  unfold gsz at h
  refine ⟨by omega, by omega, by omega, by omega, fun s hs => ?_⟩
  have h1 := ssum_mem _ _ hs
  unfold ssz at h1
  exact ⟨by omega, by omega, by omega⟩


end Go.Proofs.Yteebkimhfaodnaa

/- Contracts: the laws' tests of engines. -/
set_option linter.unusedSimpArgs false
set_option linter.unusedVariables false
set_option maxRecDepth 20000
set_option maxHeartbeats 4000000
namespace Go.Proofs.Yteebkimhfaodnaa
open Go Go.RowKit

end Go.Proofs.Yteebkimhfaodnaa

/- How much engines are: plain. -/
namespace Go.Proofs.Yteebkimhfaodnaa
open Go Go.RowKit

theorem ssum_le {c : Nat} : ∀ l : List Slot, (∀ s, s ∈ l → ssz s ≤ c) → ssum l ≤ c * l.length
  | [], _ => by show 0 ≤ _; omega
  | s :: r, h => by
    have h1 := ssum_le r fun s hs => h s (List.mem_cons_of_mem _ hs)
    have h2 := h s (List.mem_cons_self ..)
    rw [ssum_cons, List.length_cons, Nat.mul_succ]
    omega
theorem gsz_ok {e : Engine} (h : EngOk e) : gsz e ≤ e.base.length + 200 := by
  have h1 := h.len10
  have h2 := h.len
  have h3 := h.vlen
  have h4 : ssum e.slots ≤ 6 * e.slots.length := ssum_le _ fun s hs => by
    obtain ⟨n, hn, rfl⟩ := h.mem hs
    have := slotOk_wlen (h.slot n hn)
    unfold ssz
    omega
  unfold gsz
  omega
theorem base_le (e : Engine) : e.base.length ≤ gsz e := by unfold gsz; omega
end Go.Proofs.Yteebkimhfaodnaa

/- Contracts: EngineRun, EngineFinish. -/
set_option linter.unusedSimpArgs false
set_option linter.unusedVariables false
set_option maxRecDepth 20000
set_option maxHeartbeats 4000000
namespace Go.Proofs.Yteebkimhfaodnaa
open Go Go.RowKit

/-- An engine after the steps of a script. -/
noncomputable def runX_ (e : Engine) (sc : List Int) : Engine × Int := if engValid e = true ∧ sc.length ≤ 200 then runS e sc else (zeroE, -1)
/-- An engine that is finished. -/
noncomputable def finX (e : Engine) : Engine × Int := if engValid e = true ∧ (∀ j, j < e.slots.length → (slotAt e j).tries ≤ 900) then finE e else (zeroE, -1)
theorem runX_gsz (e : Engine) (sc : List Int) : gsz (runX_ e sc).1 ≤ gsz e + 200 := by
  unfold runX_
  split
  · rename_i h
    have he := engValid_iff.1 h.1
    have h1 := gsz_ok (runS_ok sc (p := (e, 0)) he)
    have h2 := (runS_len sc (e, 0)).2.2
    rw [h2] at h1
    have := base_le e
    show gsz (runS e sc).1 ≤ _
    unfold runS
    dsimp only at h1 ⊢
    omega
  · show 0 ≤ _; omega
/-- The state that holds an engine in its own rows. -/
abbrev engB (x : Engine) : List (Nat × ABlk) := [(601, .row true false 2 (rows encE x.base)), (602, .row true false 4 (rows encA x.list)), (603, .row true false 3 (rows encR x.versions)), (604, .row true false 6 (rows encS1 x.slots))]
abbrev engC (x : Engine) : List AV := [.row 601 x.base.length, .row 602 x.list.length, .row 603 x.versions.length, .row 604 x.slots.length]

theorem c_impl_EngineRun (n1 n2 n3 n4 n5 : Option Bool) (e : Engine) (sc : List Int) (hs : EngSz (2 ^ 32) e) (hc : sc.length < 2 ^ 32) : Det Try.prog 17 [.agg (encG n1 n2 n3 n4 e), .sl n5 (rows encI sc)] (.tup [.agg (encGF (runX_ e sc).1), .int .i64 (runX_ e sc).2]) := by
  refine fspec_det tab_ok Try.call17 Try.func17 rfl 34 Try.ntmps17 (of_decide_eq_true rfl) fun B => codeK_sound tab_ok _ _ _ ?_
  simp (config := { maxSteps := 4000000 }) only [go_sem, simprocAttr, ↓dnA, Try.f17, rows_length, encG]
  refine CallTo.det (c_impl_EngineValid n1 n2 n3 n4 e hs) fun _ => ?_
  cases c : engValid e with
  | false =>
    have hr : runX_ e sc = (zeroE, -1) := by unfold runX_; rw [if_neg (fun g => by rw [c] at g; exact absurd g.1 (by simp))]
    rw [hr]
    simp (config := { maxSteps := 4000000 }) only [go_sem, simprocAttr, ↓dnA, Try.f17, rows_length, encG, encGF_zero, c]
  | true =>
    have he := engValid_iff.1 c
    cases c2 : decide ((sc.length : Int) > 200) with
    | true =>
      have hr : runX_ e sc = (zeroE, -1) := by unfold runX_; rw [if_neg (fun g => by have := of_decide_eq_true c2; omega)]
      rw [hr]
      simp (config := { maxSteps := 4000000 }) only [go_sem, simprocAttr, ↓dnA, Try.f17, rows_length, encG, encGF_zero, c, c2]
    | false =>
      have hr : runX_ e sc = runS e sc := by unfold runX_; rw [if_pos ⟨c, by have := of_decide_eq_false c2; omega⟩]
      rw [hr]
      simp (config := { maxSteps := 4000000 }) only [go_sem, simprocAttr, ↓dnA, Try.f17, rows_length, encG, c, c2]
      refine CallTo.det (c_impl_Engine_clone n1 n2 n3 n4 e hs) fun _ => ?_
      simp (config := { maxSteps := 4000000 }) only [go_sem, simprocAttr, ↓dnA, Try.f17, rows_length, encG, encGF, c, c2]
      refine semL_for tab_ok (fun p : Nat × Engine × Int => ⟨34, [(4, .loc 4 0), (6, .loc 6 0), (7, .int .i64 p.2.2), (21, .sl n5 (rows encI sc)), (22, .int .i64 sc.length), (23, .int .i64 p.1)],
          (4, .var [.sl (some false) [], .sl (some false) [], .sl (some false) [], .sl (some false) []]) :: (6, .var (engC p.2.1)) :: engB p.2.1⟩) (fun p => sc.length - p.1)
        (fun p => p.1 ≤ sc.length ∧ p.2 = runS e (sc.take p.1)) (0, e, 0) [(4, 4), (6, 6), (21000, 601), (21001, 602), (21002, 603), (21003, 604)] (Weak.of (by rfl) ?_ ?_ (by rfl)) ⟨by dsimp only; omega, rfl⟩ ?_
      · simp (config := { maxSteps := 4000000 }) only [go_sem, simprocAttr, ↓dnA, Try.f17, rows_length, encG, frW, wk2, wk1, wkL, wkB, hpW, List.mem_cons, Prod.mk.injEq, exists_eq_left, exists_eq_right, exists_eq]
        try rfl
      · simp (config := { maxSteps := 4000000 }) only [go_sem, simprocAttr, ↓dnA, Try.f17, rows_length, encG, frW, wk2, wk1, wkL, wkB, hpW, List.mem_cons, Prod.mk.injEq, exists_eq_left, exists_eq_right, exists_eq]
        try rfl
      · rintro ⟨i, x, m⟩ ⟨hi, hx⟩
        dsimp only at hi hx
        by_cases h : i < sc.length
        · have hw : IntKind.i64.wrap ((i : Int) + 1) = ((i + 1 : Nat) : Int) := wsucc h (by omega)
          have hst := runS_take e sc i h
          rw [← hx] at hst
          have hxo : EngOk x := by
            have := runS_ok (sc.take i) (p := (e, 0)) he
            rw [show (sc.take i).foldl runStep (e, 0) = runS e (sc.take i) from rfl, ← hx] at this
            exact this
          have hcn := runS_cnt (sc.take i) e
          rw [← hx, List.length_take] at hcn
          dsimp only at hcn
          have hw2 : IntKind.i64.wrap (m + 1) = m + 1 := wrap_small _ (by omega) (by omega)
          simp (config := { maxSteps := 4000000 }) only [go_sem, simprocAttr, ↓dnA, Try.f17, rows_length, encG, nlt h, h, rows_get _ _ _ h, encI, nn0]
          refine CallTo.detB (c_impl_step x sc[i] hxo) ?_
          have hst2 : runS e (sc.take (i + 1)) = ((stepE x sc[i]).1, m + if (stepE x sc[i]).2 then 1 else 0) := hst
          generalize stepE x sc[i] = y at hst2 ⊢
          obtain ⟨y, ok⟩ := y
          dsimp only at hst2 ⊢
          cases ok with
          | true =>
            simp (config := { maxSteps := 4000000 }) only [go_sem, simprocAttr, ↓dnA, Try.f17, rows_length, encG, encGF, nlt h, h, rows_get _ _ _ h, encI, nn0, hw, hw2]
            refine ⟨(i + 1, y, m + 1), [(4, 4), (6, 6), (29500, 601), (29501, 602), (29502, 603), (29503, 604)], ⟨by dsimp only; omega, by dsimp only; rw [hst2]; simp⟩, by dsimp only; omega, Weak.of (by rfl) ?_ ?_ (by rfl)⟩
            · simp (config := { maxSteps := 4000000 }) only [go_sem, simprocAttr, ↓dnA, Try.f17, rows_length, encG, frW, wk2, wk1, wkL, wkB, hpW, List.mem_cons, Prod.mk.injEq, exists_eq_left, exists_eq_right, exists_eq]
              try rfl
            · simp (config := { maxSteps := 4000000 }) only [go_sem, simprocAttr, ↓dnA, Try.f17, rows_length, encG, frW, wk2, wk1, wkL, wkB, hpW, List.mem_cons, Prod.mk.injEq, exists_eq_left, exists_eq_right, exists_eq]
              try rfl
          | false =>
            simp (config := { maxSteps := 4000000 }) only [go_sem, simprocAttr, ↓dnA, Try.f17, rows_length, encG, encGF, nlt h, h, rows_get _ _ _ h, encI, nn0, hw, hw2]
            refine ⟨(i + 1, y, m), [(4, 4), (6, 6), (29500, 601), (29501, 602), (29502, 603), (29503, 604)], ⟨by dsimp only; omega, by dsimp only; rw [hst2]; simp⟩, by dsimp only; omega, Weak.of (by rfl) ?_ ?_ (by rfl)⟩
            · simp (config := { maxSteps := 4000000 }) only [go_sem, simprocAttr, ↓dnA, Try.f17, rows_length, encG, frW, wk2, wk1, wkL, wkB, hpW, List.mem_cons, Prod.mk.injEq, exists_eq_left, exists_eq_right, exists_eq]
              try rfl
            · simp (config := { maxSteps := 4000000 }) only [go_sem, simprocAttr, ↓dnA, Try.f17, rows_length, encG, frW, wk2, wk1, wkL, wkB, hpW, List.mem_cons, Prod.mk.injEq, exists_eq_left, exists_eq_right, exists_eq]
              try rfl
        · have hi' : i = sc.length := by omega
          subst hi'
          rw [List.take_length] at hx
          rw [← hx]
          simp (config := { maxSteps := 4000000 }) only [go_sem, simprocAttr, ↓dnA, Try.f17, rows_length, encG, encGF, nlf h]

theorem c_spec_EngineRun (n1 n2 n3 n4 n5 : Option Bool) (e : Engine) (sc : List Int) (hs : EngSz (2 ^ 32) e) (hc : sc.length < 2 ^ 32) : Det Try.prog 23 [.agg (encG n1 n2 n3 n4 e), .sl n5 (rows encI sc)] (.tup [.agg (encGF (runX_ e sc).1), .int .i64 (runX_ e sc).2]) := by
  refine fspec_det tab_ok Try.call23 Try.func23 rfl 43 Try.ntmps23 (of_decide_eq_true rfl) fun B => codeK_sound tab_ok _ _ _ ?_
  simp (config := { maxSteps := 4000000 }) only [go_sem, simprocAttr, ↓dnA, Try.f23, rows_length, encG]
  refine CallTo.det (c_spec_EngineValid n1 n2 n3 n4 e hs) fun _ => ?_
  cases c : engValid e with
  | false =>
    have hr : runX_ e sc = (zeroE, -1) := by unfold runX_; rw [if_neg (fun g => by rw [c] at g; exact absurd g.1 (by simp))]
    rw [hr]
    simp (config := { maxSteps := 4000000 }) only [go_sem, simprocAttr, ↓dnA, Try.f23, rows_length, encG, encGF_zero, c]
  | true =>
    have he := engValid_iff.1 c
    cases c2 : decide ((sc.length : Int) > 200) with
    | true =>
      have hr : runX_ e sc = (zeroE, -1) := by unfold runX_; rw [if_neg (fun g => by have := of_decide_eq_true c2; omega)]
      rw [hr]
      simp (config := { maxSteps := 4000000 }) only [go_sem, simprocAttr, ↓dnA, Try.f23, rows_length, encG, encGF_zero, c, c2]
    | false =>
      have hr : runX_ e sc = runS e sc := by unfold runX_; rw [if_pos ⟨c, by have := of_decide_eq_false c2; omega⟩]
      rw [hr]
      simp (config := { maxSteps := 4000000 }) only [go_sem, simprocAttr, ↓dnA, Try.f23, rows_length, encG, c, c2]
      refine CallTo.det (c_spec_l10Copy n1 n2 n3 n4 e hs) fun _ => ?_
      simp (config := { maxSteps := 4000000 }) only [go_sem, simprocAttr, ↓dnA, Try.f23, rows_length, encG, encGF, c, c2]
      refine semL_for tab_ok (fun p : Nat × Engine × Int => ⟨43, [(1, .sl n5 (rows encI sc)), (4, .loc 4 0), (6, .int .i64 p.2.2), (7, .loc 7 0), (8, .int .i64 p.1)],
          (4, .var [.sl (some false) [], .sl (some false) [], .sl (some false) [], .sl (some false) []]) :: (7, .var (engC p.2.1)) :: engB p.2.1⟩) (fun p => sc.length - p.1)
        (fun p => p.1 ≤ sc.length ∧ p.2 = runS e (sc.take p.1)) (0, e, 0) [(4, 4), (7, 7), (22000, 601), (22001, 602), (22002, 603), (22003, 604)] (Weak.of (by rfl) ?_ ?_ (by rfl)) ⟨by dsimp only; omega, rfl⟩ ?_
      · simp (config := { maxSteps := 4000000 }) only [go_sem, simprocAttr, ↓dnA, Try.f23, rows_length, encG, frW, wk2, wk1, wkL, wkB, hpW, List.mem_cons, Prod.mk.injEq, exists_eq_left, exists_eq_right, exists_eq]
        try rfl
      · simp (config := { maxSteps := 4000000 }) only [go_sem, simprocAttr, ↓dnA, Try.f23, rows_length, encG, frW, wk2, wk1, wkL, wkB, hpW, List.mem_cons, Prod.mk.injEq, exists_eq_left, exists_eq_right, exists_eq]
        try rfl
      · rintro ⟨i, x, m⟩ ⟨hi, hx⟩
        dsimp only at hi hx
        by_cases h : i < sc.length
        · have hw : IntKind.i64.wrap ((i : Int) + 1) = ((i + 1 : Nat) : Int) := wsucc h (by omega)
          have hst := runS_take e sc i h
          rw [← hx] at hst
          have hxo : EngOk x := by
            have := runS_ok (sc.take i) (p := (e, 0)) he
            rw [show (sc.take i).foldl runStep (e, 0) = runS e (sc.take i) from rfl, ← hx] at this
            exact this
          have hcn := runS_cnt (sc.take i) e
          rw [← hx, List.length_take] at hcn
          dsimp only at hcn
          have hw2 : IntKind.i64.wrap (m + 1) = m + 1 := wrap_small _ (by omega) (by omega)
          simp (config := { maxSteps := 4000000 }) only [go_sem, simprocAttr, ↓dnA, Try.f23, rows_length, encG, nlt h, h, rows_get _ _ _ h, encI, nn0]
          refine semL_draw tab_ok mixed_ rfl (ord := [(0, []), (1, []), (2, []), (3, []), (4, []), (5, []), (6, []), (7, []), (8, []), (9, [0, 1, 2, 3, 4, 6, 7, 8]), (10, [8]), (11, [])]) (by dsimp only; decide +kernel) ?_
          simp (config := { maxSteps := 4000000 }) only [go_sem, simprocAttr, ↓dnA, Try.f23, rows_length, encG, nlt h, h, rows_get _ _ _ h, encI, nn0]
          refine CallTo.det (c_spec_l11Step none none none none x sc[i] hxo) fun _ => ?_
          have hst2 : runS e (sc.take (i + 1)) = ((stepE x sc[i]).1, m + if (stepE x sc[i]).2 then 1 else 0) := hst
          generalize stepE x sc[i] = y at hst2 ⊢
          obtain ⟨y, ok⟩ := y
          dsimp only at hst2 ⊢
          cases ok with
          | true =>
            simp (config := { maxSteps := 4000000 }) only [go_sem, simprocAttr, ↓dnA, Try.f23, rows_length, encG, encGF, nlt h, h, rows_get _ _ _ h, encI, nn0, hw, hw2]
            refine ⟨(i + 1, y, m + 1), [(4, 4), (7, 7), (35000, 601), (35001, 602), (35002, 603), (35003, 604)], ⟨by dsimp only; omega, by dsimp only; rw [hst2]; simp⟩, by dsimp only; omega, Weak.of (by rfl) ?_ ?_ (by rfl)⟩
            · simp (config := { maxSteps := 4000000 }) only [go_sem, simprocAttr, ↓dnA, Try.f23, rows_length, encG, frW, wk2, wk1, wkL, wkB, hpW, List.mem_cons, Prod.mk.injEq, exists_eq_left, exists_eq_right, exists_eq]
              try rfl
            · simp (config := { maxSteps := 4000000 }) only [go_sem, simprocAttr, ↓dnA, Try.f23, rows_length, encG, frW, wk2, wk1, wkL, wkB, hpW, List.mem_cons, Prod.mk.injEq, exists_eq_left, exists_eq_right, exists_eq]
              try rfl
          | false =>
            simp (config := { maxSteps := 4000000 }) only [go_sem, simprocAttr, ↓dnA, Try.f23, rows_length, encG, encGF, nlt h, h, rows_get _ _ _ h, encI, nn0, hw, hw2]
            refine ⟨(i + 1, y, m), [(4, 4), (7, 7), (35000, 601), (35001, 602), (35002, 603), (35003, 604)], ⟨by dsimp only; omega, by dsimp only; rw [hst2]; simp⟩, by dsimp only; omega, Weak.of (by rfl) ?_ ?_ (by rfl)⟩
            · simp (config := { maxSteps := 4000000 }) only [go_sem, simprocAttr, ↓dnA, Try.f23, rows_length, encG, frW, wk2, wk1, wkL, wkB, hpW, List.mem_cons, Prod.mk.injEq, exists_eq_left, exists_eq_right, exists_eq]
              try rfl
            · simp (config := { maxSteps := 4000000 }) only [go_sem, simprocAttr, ↓dnA, Try.f23, rows_length, encG, frW, wk2, wk1, wkL, wkB, hpW, List.mem_cons, Prod.mk.injEq, exists_eq_left, exists_eq_right, exists_eq]
              try rfl
        · have hi' : i = sc.length := by omega
          subst hi'
          rw [List.take_length] at hx
          rw [← hx]
          simp (config := { maxSteps := 4000000 }) only [go_sem, simprocAttr, ↓dnA, Try.f23, rows_length, encG, encGF, nlf h]


/-- A round of the finish. -/
structure FinL (e : Engine) (k : Nat) (x : Engine) (m : Int) : Prop where
  st : FinSt 900 e k x m
  fu : ∃ f, mu k x < f ∧ (loopF f (k, x, m)).2 = finE e
theorem FinL.start {e : Engine} (h : EngOk e) (ht : ∀ j, j < e.slots.length → (slotAt e j).tries ≤ 900) : FinL e 0 e 0 := ⟨.start h ht, 60, mu_start h, rfl⟩
theorem FinL.next {e x : Engine} {k : Nat} {m : Int} (h : FinL e k x m) (hk : k < x.slots.length) (h2 : (slotAt x k).stage = 2) : FinL e (k + 1) x m := by
  obtain ⟨h1, f, hf, hl⟩ := h
  have := mu_next (e := x) hk
  obtain ⟨f, rfl⟩ : ∃ f', f = f' + 1 := ⟨f - 1, by omega⟩
  rw [loopF_next hk h2] at hl
  exact ⟨h1.next hk h2, f, by omega, hl⟩
theorem FinL.one {e x : Engine} {k : Nat} {m : Int} (h : FinL e k x m) (hk : k < x.slots.length) (h2 : (slotAt x k).stage ≠ 2) : FinL e k (stepN x k).1 (m + 1) ∧ mu k (stepN x k).1 < mu k x := by
  obtain ⟨h1, f, hf, hl⟩ := h
  have := mu_one (by omega) h1 hk h2
  obtain ⟨f, rfl⟩ : ∃ f', f = f' + 1 := ⟨f - 1, by omega⟩
  rw [loopF_one hk h2] at hl
  exact ⟨⟨h1.one (by omega) hk h2, f, by omega, hl⟩, this⟩
theorem FinL.done {e x : Engine} {k : Nat} {m : Int} (h : FinL e k x m) (hk : ¬ k < x.slots.length) : finE e = (x, m) := by
  obtain ⟨h1, f, hf, hl⟩ := h
  obtain ⟨f, rfl⟩ : ∃ f', f = f' + 1 := ⟨f - 1, by omega⟩
  rw [loopF_end hk] at hl
  exact hl.symm
theorem FinL.bd {e x : Engine} {k : Nat} {m : Int} (h : FinL e k x m) : 0 ≤ m ∧ m ≤ 3 * (k : Int) + 3 := by
  have := h.st.cnt
  refine ⟨this.1, ?_⟩
  have h2 := this.2
  split at h2 <;> omega
theorem stepE_nat {x : Engine} {k : Nat} (hk : k < x.slots.length) : stepE x (k : Int) = stepN x k := by
  unfold stepE
  rw [if_pos (by omega)]; rfl

theorem c_impl_EngineFinish (n1 n2 n3 n4 : Option Bool) (e : Engine) (hs : EngSz (2 ^ 32) e) : Det Try.prog 18 [.agg (encG n1 n2 n3 n4 e)] (.tup [.agg (encGF (finX e).1), .int .i64 (finX e).2]) := by
  refine fspec_det tab_ok Try.call18 Try.func18 rfl 47 Try.ntmps18 (of_decide_eq_true rfl) fun B => codeK_sound tab_ok _ _ _ ?_
  simp (config := { maxSteps := 4000000 }) only [go_sem, simprocAttr, ↓dnA, Try.f18, rows_length, encG]
  refine CallTo.det (c_impl_EngineValid n1 n2 n3 n4 e hs) fun _ => ?_
  cases c : engValid e with
  | false =>
    have hr : finX e = (zeroE, -1) := by unfold finX; rw [if_neg (fun g => by rw [c] at g; exact absurd g.1 (by simp))]
    rw [hr]
    simp (config := { maxSteps := 4000000 }) only [go_sem, simprocAttr, ↓dnA, Try.f18, rows_length, encG, encGF_zero, c]
  | true =>
    have he := engValid_iff.1 c
    have h10 := he.len10
    simp (config := { maxSteps := 4000000 }) only [go_sem, simprocAttr, ↓dnA, Try.f18, rows_length, encG, c]
    refine semL_for tab_ok (fun i : Nat => ⟨47, [(1, .loc 1 0), (2, .loc 2 0), (14, .sl n4 (rows encS1 e.slots)), (15, .int .i64 e.slots.length), (16, .int .i64 i)],
        [(1, .var (encG n1 n2 n3 n4 e)), (2, .var [.sl (some false) [], .sl (some false) [], .sl (some false) [], .sl (some false) []])]⟩) (fun i => e.slots.length - i)
      (fun i => i ≤ e.slots.length ∧ ∀ j, j < i → (slotAt e j).tries ≤ 900) 0 [(1, 1), (2, 2)] (Weak.of (by rfl) ?_ ?_ (by rfl)) ⟨by omega, fun j hj => by omega⟩ ?_
    · simp (config := { maxSteps := 4000000 }) only [go_sem, simprocAttr, ↓dnA, Try.f18, rows_length, encG, frW, wk2, wk1, wkL, wkB, hpW, List.mem_cons, Prod.mk.injEq, exists_eq_left, exists_eq_right, exists_eq]
      try rfl
    · simp (config := { maxSteps := 4000000 }) only [go_sem, simprocAttr, ↓dnA, Try.f18, rows_length, encG, frW, wk2, wk1, wkL, wkB, hpW, List.mem_cons, Prod.mk.injEq, exists_eq_left, exists_eq_right, exists_eq]
      try rfl
    · rintro i ⟨hi, hp⟩
      by_cases h : i < e.slots.length
      · have hw : IntKind.i64.wrap ((i : Int) + 1) = ((i + 1 : Nat) : Int) := wsucc h (by omega)
        have hg : e.slots[i] = slotAt e i := (slotAt_lt h).symm
        cases d : decide ((slotAt e i).tries > 900) with
        | true =>
          have hr : finX e = (zeroE, -1) := by unfold finX; rw [if_neg (fun g => by have := g.2 i h; have := of_decide_eq_true d; omega)]
          rw [hr]
          simp (config := { maxSteps := 4000000 }) only [go_sem, simprocAttr, ↓dnA, Try.f18, rows_length, encG, encGF_zero, nlt h, h, rows_get _ _ _ h, hg, encS1, encS, nn0, d]
        | false =>
          have d' := of_decide_eq_false d
          simp (config := { maxSteps := 4000000 }) only [go_sem, simprocAttr, ↓dnA, Try.f18, rows_length, encG, encGF_zero, nlt h, h, rows_get _ _ _ h, hg, encS1, encS, nn0, d, hw]
          refine ⟨i + 1, [(1, 1), (2, 2)], ⟨by omega, fun j hj => ?_⟩, by dsimp only; omega, Weak.of (by rfl) ?_ ?_ (by rfl)⟩
          · by_cases q : j < i
            · exact hp j q
            · rw [show j = i by omega]; omega
          · simp (config := { maxSteps := 4000000 }) only [go_sem, simprocAttr, ↓dnA, Try.f18, rows_length, encG, frW, wk2, wk1, wkL, wkB, hpW, List.mem_cons, Prod.mk.injEq, exists_eq_left, exists_eq_right, exists_eq]
            try rfl
          · simp (config := { maxSteps := 4000000 }) only [go_sem, simprocAttr, ↓dnA, Try.f18, rows_length, encG, frW, wk2, wk1, wkL, wkB, hpW, List.mem_cons, Prod.mk.injEq, exists_eq_left, exists_eq_right, exists_eq]
            try rfl
      · have hi' : i = e.slots.length := by omega
        subst hi'
        have hr : finX e = finE e := by unfold finX; rw [if_pos ⟨c, hp⟩]
        rw [hr]
        simp (config := { maxSteps := 4000000 }) only [go_sem, simprocAttr, ↓dnA, Try.f18, rows_length, encG, nlf h]
        refine CallTo.det (c_impl_Engine_clone n1 n2 n3 n4 e hs) fun _ => ?_
        simp (config := { maxSteps := 4000000 }) only [go_sem, simprocAttr, ↓dnA, Try.f18, rows_length, encG, encGF]
        refine semL_for tab_ok (fun p : Nat × Engine × Int => ⟨47, [(2, .loc 2 0), (6, .loc 6 0), (7, .int .i64 p.2.2), (29, .int .i64 e.slots.length), (30, .int .i64 p.1)],
            (2, .var [.sl (some false) [], .sl (some false) [], .sl (some false) [], .sl (some false) []]) :: (6, .var (engC p.2.1)) :: engB p.2.1⟩) (fun p => e.slots.length - p.1)
          (fun p => p.1 ≤ e.slots.length ∧ FinL e p.1 p.2.1 p.2.2) (0, e, 0) [(2, 2), (6, 6), (27000, 601), (27001, 602), (27002, 603), (27003, 604)] (Weak.of (by rfl) ?_ ?_ (by rfl)) ⟨by dsimp only; omega, .start he hp⟩ ?_
        · simp (config := { maxSteps := 4000000 }) only [go_sem, simprocAttr, ↓dnA, Try.f18, rows_length, encG, frW, wk2, wk1, wkL, wkB, hpW, List.mem_cons, Prod.mk.injEq, exists_eq_left, exists_eq_right, exists_eq]
          try rfl
        · simp (config := { maxSteps := 4000000 }) only [go_sem, simprocAttr, ↓dnA, Try.f18, rows_length, encG, frW, wk2, wk1, wkL, wkB, hpW, List.mem_cons, Prod.mk.injEq, exists_eq_left, exists_eq_right, exists_eq]
          try rfl
        · rintro ⟨k, x, m⟩ ⟨hk, hx⟩
          dsimp only at hk hx
          have hxl := hx.st.len
          by_cases h : k < e.slots.length
          · have hw : IntKind.i64.wrap ((k : Int) + 1) = ((k + 1 : Nat) : Int) := wsucc h (by omega)
            simp (config := { maxSteps := 4000000 }) only [go_sem, simprocAttr, ↓dnA, Try.f18, rows_length, encG, nlt h, h, nn0]
            refine semL_for tab_ok (fun p : Engine × Int => ⟨47, [(2, .loc 2 0), (6, .loc 6 0), (7, .int .i64 p.2), (8, .int .i64 k), (29, .int .i64 e.slots.length), (30, .int .i64 k)],
                (2, .var [.sl (some false) [], .sl (some false) [], .sl (some false) [], .sl (some false) []]) :: (6, .var (engC p.1)) :: engB p.1⟩) (fun p => mu k p.1)
              (fun p => FinL e k p.1 p.2) (x, m) [(2, 2), (6, 6), (601, 601), (602, 602), (603, 603), (604, 604)] (Weak.of (by rfl) ?_ ?_ (by rfl)) hx ?_
            · simp (config := { maxSteps := 4000000 }) only [go_sem, simprocAttr, ↓dnA, Try.f18, rows_length, encG, frW, wk2, wk1, wkL, wkB, hpW, List.mem_cons, Prod.mk.injEq, exists_eq_left, exists_eq_right, exists_eq]
              try rfl
            · simp (config := { maxSteps := 4000000 }) only [go_sem, simprocAttr, ↓dnA, Try.f18, rows_length, encG, frW, wk2, wk1, wkL, wkB, hpW, List.mem_cons, Prod.mk.injEq, exists_eq_left, exists_eq_right, exists_eq]
              try rfl
            · rintro ⟨y, m⟩ hy
              dsimp only at hy
              have hyl := hy.st.len
              have hky : k < y.slots.length := by omega
              have hg : y.slots[k] = slotAt y k := (slotAt_lt hky).symm
              have hmb := hy.bd
              have hw2 : IntKind.i64.wrap (m + 1) = m + 1 := wrap_small _ (by omega) (by omega)
              cases d : ((slotAt y k).stage != 2) with
              | true =>
                have hn := hy.one hky (by simpa using d)
                simp (config := { maxSteps := 4000000 }) only [go_sem, simprocAttr, ↓dnA, Try.f18, rows_length, encG, hky, rows_get _ _ _ hky, hg, encS1, encS, nn0, d]
                repeat refine And.intro (by first | omega | (simp; done) | (simp; omega) | assumption) ?_
                refine CallTo.detB (c_impl_step y k hy.st.ok) ?_
                rw [stepE_nat hky]
                generalize stepN y k = z at hn ⊢
                obtain ⟨z, ok⟩ := z
                dsimp only at hn ⊢
                simp (config := { maxSteps := 4000000 }) only [go_sem, simprocAttr, ↓dnA, Try.f18, rows_length, encG, encGF, hw2]
                refine ⟨(z, m + 1), [(2, 2), (6, 6), (42500, 601), (42501, 602), (42502, 603), (42503, 604)], hn.1, hn.2, Weak.of (by rfl) ?_ ?_ (by rfl)⟩
                · simp (config := { maxSteps := 4000000 }) only [go_sem, simprocAttr, ↓dnA, Try.f18, rows_length, encG, frW, wk2, wk1, wkL, wkB, hpW, List.mem_cons, Prod.mk.injEq, exists_eq_left, exists_eq_right, exists_eq]
                  try rfl
                · simp (config := { maxSteps := 4000000 }) only [go_sem, simprocAttr, ↓dnA, Try.f18, rows_length, encG, frW, wk2, wk1, wkL, wkB, hpW, List.mem_cons, Prod.mk.injEq, exists_eq_left, exists_eq_right, exists_eq]
                  try rfl
              | false =>
                have hn := hy.next hky (by simpa using d)
                simp (config := { maxSteps := 4000000 }) only [go_sem, simprocAttr, ↓dnA, Try.f18, rows_length, encG, hky, rows_get _ _ _ hky, hg, encS1, encS, nn0, d, hw]
                repeat refine And.intro (by first | omega | (simp; done) | (simp; omega) | assumption) ?_
                refine ⟨(k + 1, y, m), [(2, 2), (6, 6), (601, 601), (602, 602), (603, 603), (604, 604)], ⟨by dsimp only; omega, hn⟩, by dsimp only; omega, Weak.of (by rfl) ?_ ?_ (by rfl)⟩
                · simp (config := { maxSteps := 4000000 }) only [go_sem, simprocAttr, ↓dnA, Try.f18, rows_length, encG, frW, wk2, wk1, wkL, wkB, hpW, List.mem_cons, Prod.mk.injEq, exists_eq_left, exists_eq_right, exists_eq]
                  try rfl
                · simp (config := { maxSteps := 4000000 }) only [go_sem, simprocAttr, ↓dnA, Try.f18, rows_length, encG, frW, wk2, wk1, wkL, wkB, hpW, List.mem_cons, Prod.mk.injEq, exists_eq_left, exists_eq_right, exists_eq]
                  try rfl
          · have hd := hx.done (by omega)
            rw [hd]
            have hke : k = e.slots.length := by omega
            subst hke
            simp (config := { maxSteps := 4000000 }) only [go_sem, simprocAttr, ↓dnA, Try.f18, rows_length, encG, encGF, nlf h]


end Go.Proofs.Yteebkimhfaodnaa

/- Contracts: drawn scripts. -/
set_option linter.unusedSimpArgs false
set_option linter.unusedVariables false
set_option maxRecDepth 20000
set_option maxHeartbeats 4000000
namespace Go.Proofs.Yteebkimhfaodnaa
open Go Go.RowKit

def ScriptQ (nb : Option Bool) (bs : List Int) (p : Int) (r : AV) (b : List AV) : Prop := ∃ (xs : List Int) (q : Int), r = .osl true 1 (rows encI xs) ∧ b = rd nb bs q ∧ p ≤ q ∧ q ≤ p + 40 ∧ xs.length ≤ 16

theorem c_spec_l20Script (nb : Option Bool) (bs : List Int) (p n : Int) (h : RdOk bs p) (hp : p ≤ 999990000) (hn : 0 ≤ n ∧ n ≤ 1000000) : FSpec Try.prog 46 [.loc 0 0, .int .i64 n] true (rd nb bs p) (ScriptQ nb bs p) := by
  refine fspec_rel tab_ok Try.call46 Try.func46 rfl 27 Try.ntmps46 (of_decide_eq_true rfl) fun B => codeK_sound tab_ok _ _ _ ?_
  unfold rd
  simp (config := { maxSteps := 4000000 }) only [go_sem, simprocAttr, ↓dnA, Try.f46, rows_length]
  refine CallTo.of (c_spec_pick nb bs p 16 h) ?_
  rintro r b ⟨x, rfl, rfl, hx⟩
  unfold rd
  simp (config := { maxSteps := 4000000 }) only [go_sem, simprocAttr, ↓dnA, Try.f46, rows_length]
  obtain ⟨c0, rfl⟩ : ∃ c0 : Nat, x = (c0 : Int) := ⟨x.toNat, by omega⟩
  refine semL_for tab_ok (fun s : List Int × Nat × Int => ⟨27, [(0, .loc 900 0), (1, .int .i64 n), (5, .row 600 s.1.length), (6, .int .i64 s.2.1)], [(900, .var (rd nb bs s.2.2)), (600, .row true true 1 (rows encI s.1))]⟩) (fun s => s.2.1)
    (fun s => s.1.length + s.2.1 ≤ 15 ∧ p ≤ s.2.2 ∧ s.2.2 + 2 * s.2.1 ≤ p + 31) ([], c0, p + 1) [(900, 900), (7, 600)] (Weak.of (by rfl) ?_ ?_ (by rfl)) (by dsimp only; simp only [List.length_nil]; omega) ?_
  · simp (config := { maxSteps := 4000000 }) only [go_sem, simprocAttr, ↓dnA, Try.f46, rows_length, rd, frW, wk2, wk1, wkL, wkB, hpW, List.mem_cons, Prod.mk.injEq, exists_eq_left, exists_eq_right, exists_eq]
    try rfl
  · simp (config := { maxSteps := 4000000 }) only [go_sem, simprocAttr, ↓dnA, Try.f46, rows_length, rd, frW, wk2, wk1, wkL, wkB, hpW, List.mem_cons, Prod.mk.injEq, exists_eq_left, exists_eq_right, exists_eq]
    try rfl
  · rintro ⟨xs, c, q⟩ ⟨i1, i2, i3⟩
    dsimp only at i1 i2 i3 ⊢
    have hq := h.step (q := q) (by omega) (by omega)
    have hq1 := h.step (q := q + 1) (by omega) (by omega)
    have htk : (rows encI xs).take xs.length = rows encI xs := by rw [List.take_of_length_le]; rw [rows_length]; omega
    by_cases hc : 0 < c
    · have hd : decide ((c : Int) > 0) = true := by simp; omega
      have hw : IntKind.i64.wrap ((c : Int) - 1) = ((c - 1 : Nat) : Int) := by rw [wrap_small _ (by omega) (by omega)]; omega
      simp (config := { maxSteps := 4000000 }) only [go_sem, simprocAttr, ↓dnA, Try.f46, rows_length, rd, hd, hw, htk]
      refine CallTo.of (c_spec_pick nb bs q _ hq) ?_
      rintro r b ⟨a, rfl, rfl, ha⟩
      simp (config := { maxSteps := 4000000 }) only [go_sem, simprocAttr, ↓dnA, Try.f46, rows_length, rd, hd, hw, htk]
      refine CallTo.of (c_spec_pick nb bs (q + 1) 24 hq1) ?_
      rintro r b ⟨z, rfl, rfl, hz⟩
      simp (config := { maxSteps := 4000000 }) only [go_sem, simprocAttr, ↓dnA, Try.f46, rows_length, rd, hd, hw, htk]
      repeat refine And.intro (by first | omega | (simp; done) | (simp; omega) | assumption) ?_
      refine ⟨(xs ++ [IntKind.i64.wrap (a - IntKind.i64.wrap (z.tdiv 23))], c - 1, q + 1 + 1), [(900, 900), (25, 600)], ⟨by dsimp only; simp only [List.length_append, List.length_cons, List.length_nil]; omega, by dsimp only; omega, by dsimp only; omega⟩, by dsimp only; omega, Weak.of (by rfl) ?_ ?_ (by rfl)⟩
      · simp (config := { maxSteps := 4000000 }) only [go_sem, simprocAttr, ↓dnA, Try.f46, rows_length, rd, List.length_append, frW, wk2, wk1, wkL, wkB, hpW, List.mem_cons, Prod.mk.injEq, exists_eq_left, exists_eq_right, exists_eq]
        rw [← rows_snoc]; rfl
      · simp (config := { maxSteps := 4000000 }) only [go_sem, simprocAttr, ↓dnA, Try.f46, rows_length, rd, List.length_append, frW, wk2, wk1, wkL, wkB, hpW, List.mem_cons, Prod.mk.injEq, exists_eq_left, exists_eq_right, exists_eq]
    · obtain rfl : c = 0 := by omega
      simp (config := { maxSteps := 4000000 }) only [go_sem, simprocAttr, ↓dnA, Try.f46, rows_length, rd, htk]
      exact .same ⟨xs, q, rfl, rfl, by omega, by omega, by omega⟩

end Go.Proofs.Yteebkimhfaodnaa

/- Contracts: the way to a block. -/
set_option linter.unusedSimpArgs false
set_option linter.unusedVariables false
set_option maxRecDepth 20000
set_option maxHeartbeats 4000000
namespace Go.Proofs.Yteebkimhfaodnaa
open Go Go.RowKit

/-- The numbers of the blocks from one back to the first, at most f of them. -/
def backF (t : Tree) : Nat → Int → List Int
  | 0, _ => []
  | f + 1, n => if n < 0 then [] else n :: backF t f (t.bef n.toNat)
def back (t : Tree) (n : Int) : List Int := backF t (n.toNat + 1) n
def pathL (t : Tree) (n : Int) : List Int := (back t n).reverse

end Go.Proofs.Yteebkimhfaodnaa

/- Contracts: copies of blocks and trees. -/
set_option linter.unusedSimpArgs false
set_option linter.unusedVariables false
set_option maxRecDepth 20000
set_option maxHeartbeats 4000000
namespace Go.Proofs.Yteebkimhfaodnaa
open Go Go.RowKit

end Go.Proofs.Yteebkimhfaodnaa

/- Contracts: trees of one store, their copies, the values behind a block. -/
set_option linter.unusedSimpArgs false
set_option linter.unusedVariables false
set_option maxRecDepth 20000
set_option maxHeartbeats 4000000
namespace Go.Proofs.Yteebkimhfaodnaa
open Go Go.RowKit

/-- The values behind the blocks of a way. -/
def wayV (t : Tree) (v : List Int) (p : List Int) : List Int := p.foldl (fun v i => (runAllE v (t.blk i.toNat).list).1) v
def afterV (t : Tree) (n : Int) : List Int := wayV t (valuesL t.base) (pathL t n)
def storeAt (t : Tree) (n : Int) : List Entry := storeL (afterV t n)

end Go.Proofs.Yteebkimhfaodnaa

/- slices.Grow of nil. -/
set_option linter.unusedSimpArgs false
set_option linter.unusedVariables false
set_option maxRecDepth 100000
set_option maxHeartbeats 4000000
namespace Go.Proofs.Yteebkimhfaodnaa
open Go Go.RowKit

end Go.Proofs.Yteebkimhfaodnaa

/- Contracts: the sums of effects. -/
set_option linter.unusedSimpArgs false
set_option linter.unusedVariables false
set_option maxRecDepth 20000
set_option maxHeartbeats 4000000
namespace Go.Proofs.Yteebkimhfaodnaa
open Go Go.RowKit

end Go.Proofs.Yteebkimhfaodnaa

/- Contracts: the block behind a block. -/
set_option linter.unusedSimpArgs false
set_option linter.unusedVariables false
set_option maxRecDepth 20000
set_option maxHeartbeats 4000000
namespace Go.Proofs.Yteebkimhfaodnaa
open Go Go.RowKit

end Go.Proofs.Yteebkimhfaodnaa

/- Contracts: putting blocks, growing trees. -/
set_option linter.unusedSimpArgs false
set_option linter.unusedVariables false
set_option maxRecDepth 20000
set_option maxHeartbeats 4000000
namespace Go.Proofs.Yteebkimhfaodnaa
open Go Go.RowKit

end Go.Proofs.Yteebkimhfaodnaa

/- Trees that grow from one store: plain lemmas. -/
set_option linter.unusedSimpArgs false
set_option linter.unusedVariables false
set_option maxRecDepth 20000
set_option maxHeartbeats 4000000
namespace Go.Proofs.Yteebkimhfaodnaa
open Go Go.RowKit

end Go.Proofs.Yteebkimhfaodnaa

/- Contracts: leaves, and the blocks that are kept. -/
set_option linter.unusedSimpArgs false
set_option linter.unusedVariables false
set_option maxRecDepth 20000
set_option maxHeartbeats 4000000
namespace Go.Proofs.Yteebkimhfaodnaa
open Go Go.RowKit

end Go.Proofs.Yteebkimhfaodnaa

/- Contracts: FnExactLeavesOf. -/
set_option linter.unusedSimpArgs false
set_option linter.unusedVariables false
set_option maxRecDepth 20000
set_option maxHeartbeats 4000000
namespace Go.Proofs.Yteebkimhfaodnaa
open Go Go.RowKit

end Go.Proofs.Yteebkimhfaodnaa

/- How much a tree is: plain. -/
set_option linter.unusedSimpArgs false
set_option linter.unusedVariables false
set_option maxRecDepth 20000
set_option maxHeartbeats 4000000
namespace Go.Proofs.Yteebkimhfaodnaa
open Go Go.RowKit

end Go.Proofs.Yteebkimhfaodnaa

/- Contracts: the reference's store behind a block. -/
set_option linter.unusedSimpArgs false
set_option linter.unusedVariables false
set_option maxRecDepth 20000
set_option maxHeartbeats 4000000
namespace Go.Proofs.Yteebkimhfaodnaa
open Go Go.RowKit

end Go.Proofs.Yteebkimhfaodnaa

/- Contracts: the reference's copies of trees, putting blocks. -/
set_option linter.unusedSimpArgs false
set_option linter.unusedVariables false
set_option maxRecDepth 20000
set_option maxHeartbeats 4000000
namespace Go.Proofs.Yteebkimhfaodnaa
open Go Go.RowKit

end Go.Proofs.Yteebkimhfaodnaa

/- Contracts: drawn trees in a line. -/
set_option linter.unusedSimpArgs false
set_option linter.unusedVariables false
set_option maxRecDepth 20000
set_option maxHeartbeats 4000000
namespace Go.Proofs.Yteebkimhfaodnaa
open Go Go.RowKit

end Go.Proofs.Yteebkimhfaodnaa

/- Regions with an operation that waits for none of several calls; pieces of code that lead to one of some states. -/
set_option linter.unusedSimpArgs false
set_option linter.unusedVariables false
set_option maxRecDepth 20000
set_option maxHeartbeats 4000000
namespace Go.Proofs.Yteebkimhfaodnaa
open Go Go.RowKit

section
variable {P : Program} {T : Tab} {B : Base} {ops : Array Oper}

def rkL (l : List Nat) (i : Nat) : Nat := l.getD i 0

/-- The region with the operation b at its place i beside the operations cs. -/
def slotsOk (T : Tab) (n : Nat) (b : Nat) : List Nat → Array Oper → List (List Nat × List (Nat × List Nat)) → Bool
  | [], ops, [o] => drawOkS (rkL o.1) T ops n o.2
  | c :: r, ops, o :: q => drawOkS (rkL o.1) T (addDep ops c b) n o.2 && slotsOk T n b r (addDep ops b c) q
  | _, _, _ => false
def slotsK (P : Program) (T : Tab) (ops : List Oper) (Φ : AState → Prop) (s : AState) : List (List Nat × List (Nat × List Nat)) → Prop
  | [] => True
  | o :: q => drawK P T ops Φ o.2 s ∧ slotsK P T ops Φ s q

theorem slots_run (hT : TabOk P T) {Kx : Exit → AState → Prop} {X : Ctx} {s : AState} {x : Act} {w : World} {n : Nat} (hn : s.nt = n) (hXB : X.base = B) (hR : R X s x w) (b : Nat) {l : List Nat} : ∀ (cs : List Nat) (ops : Array Oper) (os : List (List Nat × List (Nat × List Nat))),
    (cs.all fun c => b != c) = true → slotsOk T n b cs ops os = true → slotsK P T ops.toList (Kx .normal) s os → ValE ops (Array.replicate ops.size false) l →
    wpOps P ops (fun e a w => Post B (Kx e) a w) l x { w with drawn := w.drawn + 1 }
  | [], ops, [], _, h, _, _ => by cases h
  | [], ops, [o], _, h, hk, hv => by
    have e := draw_start (B := B) (Kx := Kx) hT hn (show drawOkS (rkL o.1) T ops n o.2 = true from h) hXB hR hk.1
    exact val_run _ _ _ _ _ hv e
  | [], ops, _ :: _ :: _, _, h, _, _ => by cases h
  | c :: r, ops, [], _, h, _, _ => by cases h
  | c :: r, ops, o :: q, hb, h, hk, hv => by
    have hb := hb
    rw [List.all_cons, Bool.and_eq_true] at hb
    have hbc : b ≠ c := by simpa using hb.1
    have h : (drawOkS (rkL o.1) T (addDep ops c b) n o.2 && slotsOk T n b r (addDep ops b c) q) = true := h
    rw [Bool.and_eq_true] at h
    obtain ⟨k1, k2⟩ := hk
    have hsz : ∀ (ops : Array Oper) b a, (addDep ops b a).size = ops.size := fun ops b a => by unfold addDep; simp
    have kk : ∀ (os : List (List Nat × List (Nat × List Nat))), slotsK P T ops.toList (Kx .normal) s os → slotsK P T (addDep ops b c).toList (Kx .normal) s os := by
      intro os
      induction os with
      | nil => intro h; exact h
      | cons y z ih => intro h; exact ⟨by rw [drawK_addDep]; exact h.1, ih h.2⟩
    rcases val_two hbc _ _ (by simp) hv with hv | hv
    · have e1 := draw_start (B := B) (Kx := Kx) hT hn h.1 hXB hR (by rw [drawK_addDep]; exact k1)
      rw [hsz] at e1
      exact wpOps_addDep _ _ _ (val_run _ _ _ _ _ hv e1)
    · have hv : ValE (addDep ops b c) (Array.replicate (addDep ops b c).size false) l := by rw [hsz]; exact hv
      exact wpOps_addDep _ _ _ (slots_run hT hn hXB hR b r (addDep ops b c) q hb.2 h.2 (kk q k2) hv)

/-- A region in which the operation b may come at any place beside the operations cs, each of which waits for the one before it. -/
theorem semL_slots (hT : TabOk P T) {Kx : Exit → AState → Prop} {s : AState} {id n : Nat} (b : Nat) (cs : List Nat) {os : List (List Nat × List (Nat × List Nat))} (hm : P.follows .mixedOrders = true) (hn : s.nt = n) (hb : (cs.all fun c => b != c) = true)
    (hk : slotsOk T n b cs ops os = true) (h : slotsK P T ops.toList (Kx .normal) s os) : @SemL P B (.region id ops true) s ⟨Kx⟩ := by
  intro X x w hXB hR
  refine wp_region_draw fun t => ?_
  simp only [Region.schedule, hm, Bool.true_or, if_true]
  have hv := go_val (ops := ops) ops.size t (Array.replicate ops.size false) (by simp) (by
    rw [Array.toList_replicate]
    generalize ops.size = m
    induction m with
    | zero => exact Nat.le_refl _
    | succ m ih => rw [List.replicate_succ]; simp only [cntF]; simp; omega)
  exact slots_run hT hn hXB hR b cs ops os hb hk h hv

/-- Nested values of an own row may be read as immutable ones. -/
theorem Ghost.disown {s : AState} (id : Nat) {nn : Bool} {sz : Nat} {es : List (List AV)} (hb : s.blk id = .row true nn sz es) : Ghost s { s with hp := (id, .row false nn sz es) :: s.hp } := fun X a w h => by
  obtain ⟨X', h1, _, _, h2⟩ := h.disown hb
  exact ⟨X', h1, h2⟩
end

end Go.Proofs.Yteebkimhfaodnaa

/- Contracts: drawn trees. -/
set_option linter.unusedSimpArgs false
set_option linter.unusedVariables false
set_option maxRecDepth 20000
set_option maxHeartbeats 4000000
namespace Go.Proofs.Yteebkimhfaodnaa
open Go Go.RowKit

end Go.Proofs.Yteebkimhfaodnaa

/- Results that are owned, taken as read only; drawn trees and lines so. -/
set_option linter.unusedSimpArgs false
set_option linter.unusedVariables false
set_option maxRecDepth 20000
set_option maxHeartbeats 4000000
namespace Go.Proofs.Yteebkimhfaodnaa
open Go Go.RowKit

def pureC : AV → AV
  | .osl _ _ es => .sl none es
  | a => a

theorem reads_pureC {w : World} {S : Nat → Prop} {v : Value} {a : AV} (h : Reads w S v a) : Reads w S v (pureC a) := by
  cases a <;> first | exact h | cases h

theorem OwnS.readsN {w : World} {v : Value} {nn : Bool} {sz : Nat} {es : List (List AV)} {F : Nat → Prop} (h : OwnS w v nn sz es F) : Reads w F v (.sl none es) := by
  obtain ⟨h1, h2, h3⟩ := h
  rcases h3 with ⟨rfl, rfl, _, _⟩ | ⟨b, cap, c, ty, FF, rfl, hb, hc, hcap, hO, hd, hnb, hF⟩
  · exact .nil none (by simp)
  · exact (OwnV.slice b cap sz none es c ty FF F (by simp) h2 h1 hcap.1 hcap.2 hb hc hO hd hnb hF).reads

theorem pure_getD (cs : List AV) (i : Nat) : (cs.map pureC).getD i .top = pureC (cs.getD i .top) := by
  rw [List.getD_eq_getElem?_getD, List.getD_eq_getElem?_getD, List.getElem?_map]
  cases cs[i]? <;> rfl

/-- An aggregate of owned slices may be taken as one that is only read. -/
theorem FSpec.pureAgg {P : Program} {k : FuncId} {args : List AV} {hb : Bool} {bx : List AV} {Q Q' : AV → List AV → Prop} (h : FSpec P k args hb bx Q) (hq : ∀ r b, Q r b → ∃ cs, r = .agg cs ∧ Q' (.agg (cs.map pureC)) b) : FSpec P k args hb bx Q' := by
  refine ⟨h.1, fun w S vs b BF h1 h2 h3 h4 => (h.2 w S vs b BF h1 h2 h3 h4).mono ?_⟩
  rintro e w' ⟨v, r, bx1, F, BF', rfl, hQ, g1, g2, g3, g4, g5⟩
  obtain ⟨cs, rfl, hQ'⟩ := hq _ _ hQ
  have hS : ∀ x, (¬ F x ∧ ¬ BoxM hb b bx1 BF' x ∧ (S x ∨ BoxM hb b bx BF x ∨ w.heap.size ≤ x)) → (¬ False ∧ ¬ BoxM hb b bx1 BF' x ∧ (S x ∨ BoxM hb b bx BF x ∨ w.heap.size ≤ x)) := fun x hx => ⟨fun e => e, hx.2⟩
  have hF : ∀ x, F x → (¬ False ∧ ¬ BoxM hb b bx1 BF' x ∧ (S x ∨ BoxM hb b bx BF x ∨ w.heap.size ≤ x)) := fun x hx => ⟨fun e => e, g4 x hx, .inr (g5 x (.inl hx)).1⟩
  refine ⟨v, .agg (cs.map pureC), bx1, fun _ => False, BF', rfl, hQ', g1, ?_, fun e => (g3 e).mono hS, fun x e => e.elim, fun x e => ?_⟩
  · generalize ha : AV.agg cs = a at g2
    cases g2 with
    | part v a F h =>
      cases h with
      | cell v a F h =>
        cases h with
        | pure a F h hF' =>
          subst ha
          refine .part _ _ _ (.cell _ _ _ (.pure _ _ _ ?_ (fun _ e => e)))
          cases h with
          | agg vs cs hl h =>
            refine .agg vs _ (by simpa using hl) fun i hi => ?_
            rw [pure_getD]
            exact (reads_pureC (h i (by simpa using hi))).mono hS
        | osl nn sz es F h => cases ha
      | agg vs cs' FF F hl h hFF =>
        injection ha with ha
        subst ha
        refine .part _ _ _ (.agg vs _ (fun _ _ => False) _ (by simpa using hl) ⟨fun i hi => ?_, fun i j x _ _ e => e.elim⟩ (fun x => ⟨fun e => e.elim, fun ⟨i, _, e⟩ => e.elim⟩))
        have hi' : i < cs.length := by simpa using hi
        have hc := h.cell i hi'
        have hFi : ∀ x, FF i x → F x := fun x hx => (hFF x).2 ⟨i, hi', hx⟩
        rw [pure_getD]
        generalize cs.getD i .top = a at hc
        generalize FF i = G at hc hFi
        cases hc with
        | pure a F h hF' => exact .pure _ _ _ ((reads_pureC h).mono hS) (fun _ e => e)
        | osl nn sz es F h => exact .pure _ _ _ (h.readsN.mono fun x hx => hF x (hFi x hx)) (fun _ e => e)
    | tup => cases ha
    | box => cases ha
  · rcases e with e | e
    · exact e.elim
    · exact g5 x (.inr e)

end Go.Proofs.Yteebkimhfaodnaa

/- Contracts: drawn engines. -/
set_option linter.unusedSimpArgs false
set_option linter.unusedVariables false
set_option maxRecDepth 20000
set_option maxHeartbeats 4000000
namespace Go.Proofs.Yteebkimhfaodnaa
open Go Go.RowKit

theorem engineOf_gsz (s : List Entry) (l : List Action) : gsz (engineOf s l) ≤ s.length + 2 * l.length := by
  have h0 : ∀ n : Nat, ssum (List.replicate n slot0) = 0 := by
    intro n
    induction n with
    | zero => rfl
    | succ n ih => rw [List.replicate_succ, ssum_cons, ih]; rfl
  unfold engineOf
  split
  · unfold gsz
    dsimp only
    rw [h0, List.length_replicate, List.length_nil]
    omega
  · show 0 ≤ _; omega

/-- A slot whose reads are out is put back whole. -/
theorem slot_cells4 (s : Slot) (ws : List Entry) (l : Nat) (h : l ≠ 4) : (encS1 ⟨s.stage, s.tries, s.fr, ⟨s.res.done, ws, s.res.writes⟩⟩).getD l .top = (encS1 s).getD l .top := by
  unfold encS1 encS
  match l, h with
  | 0, _ => rfl
  | 1, _ => rfl
  | 2, _ => rfl
  | 3, _ => rfl
  | 5, _ => rfl
  | l + 6, _ => rfl
theorem slots_same4 {sl : List Slot} {k : Nat} (hk : k < sl.length) (ws : List Entry) (i l : Nat) (hne : ¬ (i = k ∧ l = 4)) :
    ((rows encS1 (sl.set k ⟨sl[k].stage, sl[k].tries, sl[k].fr, ⟨sl[k].res.done, ws, sl[k].res.writes⟩⟩)).getD i []).getD l .top = ((rows encS1 sl).getD i []).getD l .top := by
  by_cases hi : i < sl.length
  · rw [rows_get _ _ _ (by rw [List.length_set]; exact hi), rows_get _ _ _ hi, List.getElem_set]
    by_cases e : k = i
    · subst e
      rw [if_pos rfl]
      exact slot_cells4 sl[k] ws l fun g => hne ⟨rfl, g⟩
    · rw [if_neg e]
  · have g : ∀ L : List (List AV), L.length ≤ i → L.getD i [] = [] := fun L hL => by rw [List.getD_eq_getElem?_getD, List.getElem?_eq_none hL]; rfl
    rw [g _ (by rw [rows_length, List.length_set]; omega), g _ (by rw [rows_length]; omega)]
theorem Ghost.closeReads {s : AState} (id id2 n k : Nat) {nn nn2 : Bool} {sl : List Slot} (ws : List Entry) (hk : k < sl.length)
    (hb : s.blk id = .hole nn 6 (rows encS1 sl) k 4 (.row id2 n)) (hb2 : s.blk id2 = .row true nn2 2 (rows encE ws)) (hn : n = ws.length) :
    Ghost s { s with hp := (id, .row true nn 6 (rows encS1 (sl.set k ⟨sl[k].stage, sl[k].tries, sl[k].fr, ⟨sl[k].res.done, ws, sl[k].res.writes⟩⟩))) :: (id2, .dead) :: s.hp } := by
  refine Ghost.close id id2 k 4 _ hb hb2 (by rw [rows_length]; exact hn) (by rw [rows_length, List.length_set, rows_length]) (fun e he => ?_) (fun i l _ _ hne => slots_same4 hk ws i l hne) ?_
  · obtain ⟨x, _, rfl⟩ := List.mem_map.1 he; rfl
  · rw [rows_get _ _ _ (by rw [List.length_set]; exact hk), List.getElem_set_self]; rfl

def EngQ0 (nb : Option Bool) (bs : List Int) (p : Int) (r : AV) (b : List AV) : Prop := ∃ (e : Engine) (q : Int) (cs : List AV), r = .agg cs ∧ cs.map pureC = encG none none none none e ∧ b = rd nb bs q ∧ p ≤ q ∧ q ≤ p + 600 ∧ EngSz 1000 e
def EngQ (nb : Option Bool) (bs : List Int) (p : Int) (r : AV) (b : List AV) : Prop := ∃ (e : Engine) (q : Int), r = .agg (encG none none none none e) ∧ b = rd nb bs q ∧ p ≤ q ∧ q ≤ p + 600 ∧ EngSz 1000 e

theorem c_spec_l20Engine0 (nb : Option Bool) (bs : List Int) (p n : Int) (h : RdOk bs p) (hp : p ≤ 999980000) (hn : 0 ≤ n ∧ n ≤ 1000000) : FSpec Try.prog 42 [.loc 0 0, .int .i64 n] true (rd nb bs p) (EngQ0 nb bs p) := by
  refine fspec_rel tab_ok Try.call42 Try.func42 rfl 90 Try.ntmps42 (of_decide_eq_true rfl) fun B => codeK_sound tab_ok _ _ _ ?_
  unfold rd
  simp (config := { maxSteps := 4000000 }) only [go_sem, simprocAttr, ↓dnA, Try.f42, rows_length]
  refine CallTo.of (c_spec_l20Store nb bs p 0 h (by omega) (by omega)) ?_
  rintro r b ⟨s, q1, rfl, rfl, hq1, hq1', hs⟩
  have hr1 := h.step (q := q1) (by omega) (by omega)
  unfold rd
  simp (config := { maxSteps := 4000000 }) only [go_sem, simprocAttr, ↓dnA, Try.f42, rows_length]
  refine CallTo.of (c_spec_l20Actions nb bs q1 0 hr1 (by omega) (by omega)) ?_
  rintro r b ⟨l, q2, rfl, rfl, hq2, hq2', hl⟩
  have hr2 := h.step (q := q2) (by omega) (by omega)
  unfold rd
  simp (config := { maxSteps := 4000000 }) only [go_sem, simprocAttr, ↓dnA, Try.f42, rows_length]
  refine CallTo.det (c_spec_EngineOf (some true) (some true) s l (by omega) (by omega)) fun _ => ?_
  have hg0 := engineOf_gsz s l
  generalize engineOf s l = x0 at hg0 ⊢
  have hz0 : EngSz (2 ^ 32) x0 := gsz_sz (by omega)
  have hz0l := hz0.list
  simp (config := { maxSteps := 4000000 }) only [go_sem, simprocAttr, ↓dnA, Try.f42, rows_length, encGF]
  refine semL_draw tab_ok mixed_ rfl (ord := [(0, []), (1, []), (2, []), (3, []), (4, []), (5, [0]), (6, []), (7, []), (8, []), (9, []), (10, [9])]) (by dsimp only; decide +kernel) ?_
  simp (config := { maxSteps := 4000000 }) only [go_sem, simprocAttr, ↓dnA, Try.f42, rows_length, encGF]
  have hll : (x0.list.length : Int) ≤ 1000000 := by have := hg0; unfold gsz at this; omega
  refine CallTo.of (c_spec_l20Script nb bs q2 (x0.list.length : Int) hr2 (by omega) (by omega)) ?_
  rintro r b ⟨sc, q3, rfl, rfl, hq3, hq3', hsc⟩
  have hr3 := h.step (q := q3) (by omega) (by omega)
  unfold rd
  simp (config := { maxSteps := 4000000 }) only [go_sem, simprocAttr, ↓dnA, Try.f42, rows_length, encG, encGF]
  refine CallTo.det (c_spec_EngineRun none none none none (some true) x0 sc hz0 (by omega)) fun _ => ?_
  have hg1 := runX_gsz x0 sc
  generalize runX_ x0 sc = y at hg1 ⊢
  obtain ⟨x, m⟩ := y
  dsimp only at hg1 ⊢
  have hx : EngSz 900 x := gsz_sz (by omega)
  simp (config := { maxSteps := 4000000 }) only [go_sem, simprocAttr, ↓dnA, Try.f42, rows_length, encG, encGF]
  refine CallTo.of (c_spec_odd nb bs q3 n hr3 hn) ?_
  rintro r b ⟨o, q4, rfl, rfl, hq4, hq4'⟩
  have hr4 := h.step (q := q4) (by omega) (by omega)
  unfold rd
  have hx1 := hx.base
  have hx2 := hx.list
  have hx3 := hx.versions
  have hx4 := hx.slots
  have hxs : EngSz 1000 x := ⟨by omega, by omega, by omega, by omega, fun s hs => ⟨by have := (hx.each s hs).fr; omega, by have := (hx.each s hs).reads; omega, by have := (hx.each s hs).writes; omega⟩⟩
  cases o with
  | false =>
    simp (config := { maxSteps := 4000000 }) only [go_sem, simprocAttr, ↓dnA, Try.f42, rows_length, encG, encGF]
    exact .same ⟨x, q4, _, rfl, rfl, rfl, by omega, by omega, hxs⟩
  | true =>
    by_cases hsl : 0 < x.slots.length
    · have hsd : decide ((x.slots.length : Int) > 0) = true := by simp; omega
      simp (config := { maxSteps := 4000000 }) only [go_sem, simprocAttr, ↓dnA, Try.f42, rows_length, encG, encGF, hsd]
      refine CallTo.of (c_spec_pick nb bs q4 (x.slots.length : Int) hr4) ?_
      rintro r b ⟨k, rfl, rfl, hk0⟩
      obtain ⟨k, rfl⟩ : ∃ k' : Nat, k = (k' : Int) := ⟨k.toNat, by omega⟩
      have hk : k < x.slots.length := by omega
      have hr5 := h.step (q := q4 + 1) (by omega) (by omega)
      have hsz := hx.each _ (List.getElem_mem hk)
      unfold rd
      simp (config := { maxSteps := 4000000 }) only [go_sem, simprocAttr, ↓dnA, Try.f42, rows_length, encG, encGF]
      refine CallTo.of (c_spec_pick nb bs (q4 + 1) 5 hr5) ?_
      rintro r b ⟨z, rfl, rfl, hz⟩
      have hr6 := h.step (q := q4 + 1 + 1) (by omega) (by omega)
      unfold rd
      have hset : ∀ t : Slot, SlotSz 1000 t → EngSz 1000 ⟨x.base, x.list, x.versions, x.slots.set k t⟩ := fun t ht => ⟨by dsimp only; omega, by dsimp only; omega, by dsimp only; omega, by dsimp only; rw [List.length_set]; omega, fun s hs => by
        rcases List.mem_or_eq_of_mem_set hs with g | g
        · exact hxs.each s g
        · rw [g]; exact ht⟩
      have hz5 : z = 0 ∨ z = 1 ∨ z = 2 ∨ z = 3 ∨ z = 4 := by omega
      rcases hz5 with rfl | rfl | rfl | rfl | rfl
      · simp (config := { maxSteps := 4000000 }) only [go_sem, simprocAttr, ↓dnA, Try.f42, rows_length, encG, encGF]
        refine semL_draw tab_ok mixed_ rfl (ord := [(0, []), (1, []), (2, []), (3, []), (4, [0, 1, 2]), (5, []), (6, []), (7, [])]) (by dsimp only; decide +kernel) ?_
        simp (config := { maxSteps := 4000000 }) only [go_sem, simprocAttr, ↓dnA, Try.f42, rows_length, encG, encGF]
        refine CallTo.of (c_spec_pick nb bs (q4 + 1 + 1) 4 hr6) ?_
        rintro r b ⟨y, rfl, rfl, hy⟩
        unfold rd
        have hrs : (rows encS1 x.slots).set k [.int .i64 y, .int .i64 x.slots[k].tries, .sl none (rows encI x.slots[k].fr), .bool x.slots[k].res.done, .sl none (rows encE x.slots[k].res.reads), .sl none (rows encE x.slots[k].res.writes)] = rows encS1 (x.slots.set k ⟨y, x.slots[k].tries, x.slots[k].fr, x.slots[k].res⟩) := rows_set encS1 _ _ ⟨y, x.slots[k].tries, x.slots[k].fr, x.slots[k].res⟩
        simp (config := { maxSteps := 4000000 }) only [go_sem, simprocAttr, ↓dnA, Try.f42, rows_length, encG, encGF, hk, rows_get _ _ _ hk, encS1, encS, nn0, spliceL, List.length_set, hrs]
        repeat refine And.intro (by first | omega | (simp; done) | (simp; omega) | assumption) ?_
        exact .same ⟨⟨x.base, x.list, x.versions, x.slots.set k ⟨y, x.slots[k].tries, x.slots[k].fr, x.slots[k].res⟩⟩, q4 + 1 + 1 + 1, _, rfl, rfl, rfl, by omega, by omega, hset _ ⟨by have := hsz.fr; dsimp only; omega, by have := hsz.reads; dsimp only; omega, by have := hsz.writes; dsimp only; omega⟩⟩
      · simp (config := { maxSteps := 4000000 }) only [go_sem, simprocAttr, ↓dnA, Try.f42, rows_length, encG, encGF]
        refine semL_slots tab_ok 3 [5] mixed_ rfl (by decide) (os := [([0, 1, 2, 4, 3, 5, 6, 7, 8, 9, 10], [(0, []), (1, []), (2, []), (4, []), (3, [0, 1, 2, 4]), (5, [0, 1, 2]), (6, []), (7, []), (8, []), (9, []), (10, [])]), ([0, 1, 2, 5, 3, 4, 6, 7, 8, 9, 10], [(0, []), (1, []), (2, []), (4, []), (5, [0, 1, 2]), (3, [0, 1, 2]), (6, []), (7, []), (8, []), (9, []), (10, [])])]) (by dsimp only; decide +kernel) ?_
        refine ⟨?_, ?_, trivial⟩
        all_goals
          simp (config := { maxSteps := 4000000 }) only [go_sem, simprocAttr, ↓dnA, Try.f42, rows_length, encG, encGF]
          refine CallTo.of (c_spec_pick nb bs (q4 + 1 + 1) 4 hr6) ?_
          rintro r b ⟨y, rfl, rfl, hy⟩
          unfold rd
          have hrs : ∀ v : Int, (rows encS1 x.slots).set k [.int .i64 x.slots[k].stage, .int .i64 v, .sl none (rows encI x.slots[k].fr), .bool x.slots[k].res.done, .sl none (rows encE x.slots[k].res.reads), .sl none (rows encE x.slots[k].res.writes)] = rows encS1 (x.slots.set k ⟨x.slots[k].stage, v, x.slots[k].fr, x.slots[k].res⟩) := fun v => rows_set encS1 _ _ ⟨x.slots[k].stage, v, x.slots[k].fr, x.slots[k].res⟩
          have hss : ∀ v : Int, SlotSz 1000 ⟨x.slots[k].stage, v, x.slots[k].fr, x.slots[k].res⟩ := fun v => ⟨by have := hsz.fr; dsimp only; omega, by have := hsz.reads; dsimp only; omega, by have := hsz.writes; dsimp only; omega⟩
          have hy4 : y = 0 ∨ y = 1 ∨ y = 2 ∨ y = 3 := by omega
          rcases hy4 with rfl | rfl | rfl | rfl
          · simp (config := { maxSteps := 4000000 }) only [go_sem, simprocAttr, ↓dnA, Try.f42, rows_length, encG, encGF, hk, rows_get _ _ _ hk, encS1, encS, nn0, spliceL, List.length_set, hrs, tn0, tn1, tn2]
            repeat refine And.intro (by first | omega | (simp; done) | (simp; omega) | assumption) ?_
            exact .same ⟨⟨x.base, x.list, x.versions, x.slots.set k ⟨x.slots[k].stage, 0, x.slots[k].fr, x.slots[k].res⟩⟩, q4 + 1 + 1 + 1, _, rfl, rfl, rfl, by omega, by omega, hset _ (hss _)⟩
          · simp (config := { maxSteps := 4000000 }) only [go_sem, simprocAttr, ↓dnA, Try.f42, rows_length, encG, encGF, hk, rows_get _ _ _ hk, encS1, encS, nn0, spliceL, List.length_set, hrs, tn0, tn1, tn2]
            repeat refine And.intro (by first | omega | (simp; done) | (simp; omega) | assumption) ?_
            exact .same ⟨⟨x.base, x.list, x.versions, x.slots.set k ⟨x.slots[k].stage, 1001, x.slots[k].fr, x.slots[k].res⟩⟩, q4 + 1 + 1 + 1, _, rfl, rfl, rfl, by omega, by omega, hset _ (hss _)⟩
          · simp (config := { maxSteps := 4000000 }) only [go_sem, simprocAttr, ↓dnA, Try.f42, rows_length, encG, encGF, hk, rows_get _ _ _ hk, encS1, encS, nn0, spliceL, List.length_set, hrs, tn0, tn1, tn2]
            repeat refine And.intro (by first | omega | (simp; done) | (simp; omega) | assumption) ?_
            exact .same ⟨⟨x.base, x.list, x.versions, x.slots.set k ⟨x.slots[k].stage, 1000, x.slots[k].fr, x.slots[k].res⟩⟩, q4 + 1 + 1 + 1, _, rfl, rfl, rfl, by omega, by omega, hset _ (hss _)⟩
          · simp (config := { maxSteps := 4000000 }) only [go_sem, simprocAttr, ↓dnA, Try.f42, rows_length, encG, encGF, hk, rows_get _ _ _ hk, encS1, encS, nn0, spliceL, List.length_set, hrs, tn0, tn1, tn2, tn3]
            repeat refine And.intro (by first | omega | (simp; done) | (simp; omega) | assumption) ?_
            exact .same ⟨⟨x.base, x.list, x.versions, x.slots.set k ⟨x.slots[k].stage, 900, x.slots[k].fr, x.slots[k].res⟩⟩, q4 + 1 + 1 + 1, _, rfl, rfl, rfl, by omega, by omega, hset _ (hss _)⟩
      · have htk : (rows encR x.versions).take x.versions.length = rows encR x.versions := by rw [List.take_of_length_le]; rw [rows_length]; omega
        have hl : rows encR x.versions ++ [[AV.int .i64 31, AV.int .i64 9, AV.int .i64 1]] = rows encR (x.versions ++ [⟨31, 9, 1⟩]) := by rw [← rows_snoc]; rfl
        have hl2 : (x.versions ++ [(⟨31, 9, 1⟩ : Version)]).length = x.versions.length + 1 := by simp
        simp (config := { maxSteps := 4000000 }) only [go_sem, simprocAttr, ↓dnA, Try.f42, rows_length, encG, encGF, htk, hl, hl2]
        repeat refine And.intro (by first | omega | (simp; done) | (simp; omega) | assumption) ?_
        exact .same ⟨⟨x.base, x.list, x.versions ++ [⟨31, 9, 1⟩], x.slots⟩, q4 + 1 + 1, _, rfl, rfl, rfl, by omega, by omega, ⟨by dsimp only; omega, by dsimp only; omega, by dsimp only; rw [hl2]; omega, by dsimp only; omega, hxs.each⟩⟩
      · simp (config := { maxSteps := 4000000 }) only [go_sem, simprocAttr, ↓dnA, Try.f42, rows_length, encG, encGF]
        refine semL_ghostX ?_
        refine semL_ghost (Ghost.open 20003 670 k 4 2 (nn := false) (sz := 6) (es := rows encS1 x.slots) (q := none) (zs := rows encE x.slots[k].res.reads) (by rfl) (by rw [rows_length]; exact hk) (by decide) (by rw [rows_get _ _ _ hk]; rfl) (by decide) (fun e he => by obtain ⟨y, _, rfl⟩ := List.mem_map.1 he; rfl) (by rfl) (by decide)) ?_
        have htk : (rows encE x.slots[k].res.reads).take x.slots[k].res.reads.length = rows encE x.slots[k].res.reads := by rw [List.take_of_length_le]; rw [rows_length]; omega
        have hl : rows encE x.slots[k].res.reads ++ [[AV.int .i64 0, AV.int .i64 0]] = rows encE (x.slots[k].res.reads ++ [⟨0, 0⟩]) := by rw [← rows_snoc]; rfl
        have hl2 : (x.slots[k].res.reads ++ [(⟨0, 0⟩ : Entry)]).length = x.slots[k].res.reads.length + 1 := by simp
        refine semL_draw tab_ok mixed_ rfl (ord := [(0, []), (1, []), (2, []), (3, []), (4, []), (5, []), (6, []), (7, []), (8, []), (9, []), (10, []), (11, [0, 1, 2, 3, 4, 5, 6, 7, 8, 9]), (12, [0, 1, 2]), (13, []), (14, []), (15, []), (16, [])]) (by dsimp only; decide +kernel) ?_
        simp (config := { maxSteps := 4000000 }) only [go_sem, simprocAttr, ↓dnA, Try.f42, rows_length, encG, encGF, hk, nn0, htk, hl, hl2]
        have hrr := hsz.reads
        repeat refine And.intro (by first | omega | (simp; done) | (simp; omega) | assumption) ?_
        refine GhostK.go _ (Ghost.closeReads 20003 85 _ k (x.slots[k].res.reads ++ [⟨0, 0⟩]) hk (by rfl) (by rfl) hl2.symm) ?_
        simp (config := { maxSteps := 4000000 }) only [go_sem, simprocAttr, ↓dnA, Try.f42, rows_length, encG, encGF, List.length_set]
        exact .same ⟨⟨x.base, x.list, x.versions, x.slots.set k ⟨x.slots[k].stage, x.slots[k].tries, x.slots[k].fr, ⟨x.slots[k].res.done, x.slots[k].res.reads ++ [⟨0, 0⟩], x.slots[k].res.writes⟩⟩⟩, q4 + 1 + 1, _, rfl, rfl, rfl, by omega, by omega, hset _ ⟨by have := hsz.fr; dsimp only; omega, by dsimp only; rw [hl2]; omega, by have := hsz.writes; dsimp only; omega⟩⟩
      · have hd : List.drop 1 (List.take x.slots.length (rows encS1 x.slots)) = rows encS1 (x.slots.drop 1) := by
          rw [List.take_of_length_le (by rw [rows_length]; omega), rows_drop]
        simp (config := { maxSteps := 4000000 }) only [go_sem, simprocAttr, ↓dnA, Try.f42, rows_length, encG, encGF]
        refine ⟨by omega, fun g => ?_, ?_⟩
        · rw [rows_get _ _ _ hsl]; rfl
        rw [hd]
        exact .same ⟨⟨x.base, x.list, x.versions, x.slots.drop 1⟩, q4 + 1 + 1, _, rfl, rfl, rfl, by omega, by omega, ⟨by dsimp only; omega, by dsimp only; omega, by dsimp only; omega, by dsimp only; rw [List.length_drop]; omega, fun s hs => hxs.each s (List.mem_of_mem_drop hs)⟩⟩
    · have hsd : decide ((x.slots.length : Int) > 0) = false := decide_eq_false (by omega)
      simp (config := { maxSteps := 4000000 }) only [go_sem, simprocAttr, ↓dnA, Try.f42, rows_length, encG, encGF, hsd]
      exact .same ⟨x, q4, _, rfl, rfl, rfl, by omega, by omega, hxs⟩

theorem c_spec_l20Engine (nb : Option Bool) (bs : List Int) (p n : Int) (h : RdOk bs p) (hp : p ≤ 999980000) (hn : 0 ≤ n ∧ n ≤ 1000000) : FSpec Try.prog 42 [.loc 0 0, .int .i64 n] true (rd nb bs p) (EngQ nb bs p) := by
  refine (c_spec_l20Engine0 nb bs p n h hp hn).pureAgg ?_
  rintro r b ⟨e, q, cs, rfl, hc, rfl, h1, h2, h3⟩
  exact ⟨cs, rfl, e, q, by rw [hc], rfl, h1, h2, h3⟩

def DrawEQ (r : AV) (b : List AV) : Prop := ∃ e : Engine, r = .agg (encG none none none none e) ∧ EngSz 1000 e
theorem c_spec_DrawTriesOf (nb : Option Bool) (bs : List Int) (h : CodeOk bs) : FSpec Try.prog 19 [.sl nb (rows encB bs)] false [] DrawEQ := by
  refine fspec_rel tab_ok Try.call19 Try.func19 rfl 6 Try.ntmps19 (of_decide_eq_true rfl) fun B => codeK_sound tab_ok _ _ _ ?_
  simp (config := { maxSteps := 4000000 }) only [go_sem, simprocAttr, ↓dnA, Try.f19, rows_length]
  refine CallTo.of (c_spec_l20Open nb bs h) ?_
  rintro r b rfl
  unfold rd
  simp (config := { maxSteps := 4000000 }) only [go_sem, simprocAttr, ↓dnA, Try.f19, rows_length]
  have h0 := code_take h
  refine CallTo.of (c_spec_l20Engine nb _ 0 6 h0 (by omega) (by omega)) ?_
  rintro r b ⟨e, q, rfl, rfl, hq1, hq2, hs⟩
  unfold rd
  simp (config := { maxSteps := 4000000 }) only [go_sem, simprocAttr, ↓dnA, Try.f19, rows_length, encG]
  exact .same ⟨e, rfl, hs⟩
end Go.Proofs.Yteebkimhfaodnaa

/- FnEngineStep. -/
set_option linter.unusedSimpArgs false
set_option linter.unusedVariables false
set_option maxRecDepth 20000
set_option maxHeartbeats 4000000
namespace Go.Proofs.Yteebkimhfaodnaa
open Go Go.RowKit

theorem EngSz.mono {m n : Nat} {e : Engine} (h : EngSz m e) (hmn : m ≤ n) : EngSz n e := ⟨by have := h.base; omega, by have := h.list; omega, by have := h.versions; omega, by have := h.slots; omega, fun s hss => ⟨by have := (h.each s hss).fr; omega, by have := (h.each s hss).reads; omega, by have := (h.each s hss).writes; omega⟩⟩
theorem okSz {e : Engine} (h : EngOk e) : EngSz 1000 e := gsz_sz (by have := gsz_ok h; have := store_len h.base; omega)
theorem stepX_sz (e : Engine) (n : Int) : EngSz 1000 (stepX e n).1 := by
  cases c : engValid e with
  | false => rw [stepX_no c]; exact ⟨by decide, by decide, by decide, by decide, fun s hs => by cases hs⟩
  | true => rw [stepX_ok (engValid_iff.1 c)]; exact okSz (stepE_ok (engValid_iff.1 c) n)

end Go.Proofs.Yteebkimhfaodnaa

/- Contracts: TriesOf; FnTriesOf. -/
set_option linter.unusedSimpArgs false
set_option linter.unusedVariables false
set_option maxRecDepth 20000
set_option maxHeartbeats 4000000
namespace Go.Proofs.Yteebkimhfaodnaa
open Go Go.RowKit

/-- How often all actions of an engine were tried; -1 for invalid engines. -/
noncomputable def triesX (e : Engine) : Int := if engValid e then triesE e else -1
def triesTo (e : Engine) (i : Nat) : Int := ((e.slots.take i).map Slot.tries).sum
theorem triesTo_succ (e : Engine) (i : Nat) (h : i < e.slots.length) : triesTo e (i + 1) = triesTo e i + (slotAt e i).tries := by
  unfold triesTo
  rw [take_snoc _ _ h, List.map_append, List.sum_append, slotAt_lt h]
  simp
theorem triesTo_bd {e : Engine} (he : EngOk e) : ∀ i, i ≤ e.slots.length → 0 ≤ triesTo e i ∧ triesTo e i ≤ 1000 * (i : Int)
  | 0, _ => by unfold triesTo; simp
  | i + 1, h => by
    have h1 := triesTo_bd he i (by omega)
    have h2 := he.tries i
    rw [triesTo_succ e i (by omega)]
    omega
theorem triesTo_all (e : Engine) : triesTo e e.slots.length = triesE e := by unfold triesTo triesE; rw [List.take_length]

theorem c_impl_tries (n1 n2 n3 n4 : Option Bool) (e : Engine) (he : EngOk e) : Det Try.prog 40 [.agg (encG n1 n2 n3 n4 e)] (.int .i64 (triesE e)) := by
  refine fspec_det tab_ok Try.call40 Try.func40 rfl 19 Try.ntmps40 (of_decide_eq_true rfl) fun B => codeK_sound tab_ok _ _ _ ?_
  have h10 := he.len10
  simp (config := { maxSteps := 4000000 }) only [go_sem, simprocAttr, ↓dnA, Try.f40, rows_length, encG]
  refine semL_for tab_ok (fun i : Nat => ⟨19, [(3, .int .i64 (triesTo e i)), (7, .sl n4 (rows encS1 e.slots)), (8, .int .i64 e.slots.length), (9, .int .i64 i)], []⟩) (fun i => e.slots.length - i)
    (fun i => i ≤ e.slots.length) 0 [] (Weak.of (by rfl) ?_ ?_ (by rfl)) (by omega) ?_
  · trivial
  · simp (config := { maxSteps := 4000000 }) only [go_sem, simprocAttr, ↓dnA, Try.f40, rows_length, encG, frW, wk2, wk1, wkL, wkB, hpW, List.mem_cons, Prod.mk.injEq, exists_eq_left, exists_eq_right, exists_eq]
    try rfl
  · rintro i hi
    by_cases h : i < e.slots.length
    · have hw : IntKind.i64.wrap ((i : Int) + 1) = ((i + 1 : Nat) : Int) := wsucc h (by omega)
      have hg : e.slots[i] = slotAt e i := (slotAt_lt h).symm
      have hst := triesTo_succ e i h
      have hb := triesTo_bd he i hi
      have hti := he.tries i
      have hw2 : IntKind.i64.wrap (triesTo e i + (slotAt e i).tries) = triesTo e i + (slotAt e i).tries := wrap_small _ (by omega) (by omega)
      simp (config := { maxSteps := 4000000 }) only [go_sem, simprocAttr, ↓dnA, Try.f40, rows_length, encG, nlt h, h, rows_get _ _ _ h, hg, encS1, encS, nn0, hw, hw2]
      refine ⟨i + 1, [], by omega, by dsimp only; omega, Weak.of (by rfl) ?_ ?_ (by rfl)⟩
      · trivial
      · simp (config := { maxSteps := 4000000 }) only [go_sem, simprocAttr, ↓dnA, Try.f40, rows_length, encG, hst, frW, wk2, wk1, wkL, wkB, hpW, List.mem_cons, Prod.mk.injEq, exists_eq_left, exists_eq_right, exists_eq]
        try rfl
    · have hi' : i = e.slots.length := by omega
      subst hi'
      have hall := triesTo_all e
      simp (config := { maxSteps := 4000000 }) only [go_sem, simprocAttr, ↓dnA, Try.f40, rows_length, encG, nlf h, hall]

theorem c_impl_TriesOf (n1 n2 n3 n4 : Option Bool) (e : Engine) (hs : EngSz (2 ^ 32) e) : Det Try.prog 16 [.agg (encG n1 n2 n3 n4 e)] (.int .i64 (triesX e)) := by
  refine fspec_det tab_ok Try.call16 Try.func16 rfl 8 Try.ntmps16 (of_decide_eq_true rfl) fun B => codeK_sound tab_ok _ _ _ ?_
  unfold triesX
  simp (config := { maxSteps := 4000000 }) only [go_sem, simprocAttr, ↓dnA, Try.f16, rows_length, encG]
  refine CallTo.det (c_impl_EngineValid n1 n2 n3 n4 e hs) fun _ => ?_
  cases c : engValid e with
  | false => simp (config := { maxSteps := 4000000 }) only [go_sem, simprocAttr, ↓dnA, Try.f16, rows_length, encG, c]
  | true =>
    simp (config := { maxSteps := 4000000 }) only [go_sem, simprocAttr, ↓dnA, Try.f16, rows_length, encG, c]
    refine CallTo.det (c_impl_tries n1 n2 n3 n4 e (engValid_iff.1 c)) fun _ => ?_
    simp (config := { maxSteps := 4000000 }) only [go_sem, simprocAttr, ↓dnA, Try.f16, rows_length, encG, c]

theorem c_spec_TriesOf (n1 n2 n3 n4 : Option Bool) (e : Engine) (hs : EngSz (2 ^ 32) e) : Det Try.prog 20 [.agg (encG n1 n2 n3 n4 e)] (.int .i64 (triesX e)) := by
  refine fspec_det tab_ok Try.call20 Try.func20 rfl 24 Try.ntmps20 (of_decide_eq_true rfl) fun B => codeK_sound tab_ok _ _ _ ?_
  unfold triesX
  simp (config := { maxSteps := 4000000 }) only [go_sem, simprocAttr, ↓dnA, Try.f20, rows_length, encG]
  refine CallTo.det (c_spec_EngineValid n1 n2 n3 n4 e hs) fun _ => ?_
  cases c : engValid e with
  | false => simp (config := { maxSteps := 4000000 }) only [go_sem, simprocAttr, ↓dnA, Try.f20, rows_length, encG, c]
  | true =>
    have he := engValid_iff.1 c
    have h10 := he.len10
    simp (config := { maxSteps := 4000000 }) only [go_sem, simprocAttr, ↓dnA, Try.f20, rows_length, encG, c]
    refine semL_for tab_ok (fun i : Nat => ⟨24, [(1, .loc 1 0), (3, .int .i64 (triesTo e i)), (4, .int .i64 i)], [(1, .var (encG n1 n2 n3 n4 e))]⟩) (fun i => e.slots.length - i)
      (fun i => i ≤ e.slots.length) 0 [(1, 1)] (Weak.of (by rfl) ?_ ?_ (by rfl)) (by omega) ?_
    · simp (config := { maxSteps := 4000000 }) only [go_sem, simprocAttr, ↓dnA, Try.f20, rows_length, encG, frW, wk2, wk1, wkL, wkB, hpW, List.mem_cons, Prod.mk.injEq, exists_eq_left, exists_eq_right, exists_eq]
      try rfl
    · simp (config := { maxSteps := 4000000 }) only [go_sem, simprocAttr, ↓dnA, Try.f20, rows_length, encG, frW, wk2, wk1, wkL, wkB, hpW, List.mem_cons, Prod.mk.injEq, exists_eq_left, exists_eq_right, exists_eq]
      try rfl
    · rintro i hi
      by_cases h : i < e.slots.length
      · have hw : IntKind.i64.wrap ((i : Int) + 1) = ((i + 1 : Nat) : Int) := wsucc h (by omega)
        have hg : e.slots[i] = slotAt e i := (slotAt_lt h).symm
        have hst := triesTo_succ e i h
        have hb := triesTo_bd he i hi
        have hti := he.tries i
        have hw2 : IntKind.i64.wrap (triesTo e i + (slotAt e i).tries) = triesTo e i + (slotAt e i).tries := wrap_small _ (by omega) (by omega)
        simp (config := { maxSteps := 4000000 }) only [go_sem, simprocAttr, ↓dnA, Try.f20, rows_length, encG, nlt h, h, rows_get _ _ _ h, hg, encS1, encS, nn0, hw, hw2]
        refine ⟨i + 1, [(1, 1)], by omega, by dsimp only; omega, Weak.of (by rfl) ?_ ?_ (by rfl)⟩
        · simp (config := { maxSteps := 4000000 }) only [go_sem, simprocAttr, ↓dnA, Try.f20, rows_length, encG, frW, wk2, wk1, wkL, wkB, hpW, List.mem_cons, Prod.mk.injEq, exists_eq_left, exists_eq_right, exists_eq]
          try rfl
        · simp (config := { maxSteps := 4000000 }) only [go_sem, simprocAttr, ↓dnA, Try.f20, rows_length, encG, hst, frW, wk2, wk1, wkL, wkB, hpW, List.mem_cons, Prod.mk.injEq, exists_eq_left, exists_eq_right, exists_eq]
          try rfl
      · have hi' : i = e.slots.length := by omega
        subst hi'
        have hall := triesTo_all e
        simp (config := { maxSteps := 4000000 }) only [go_sem, simprocAttr, ↓dnA, Try.f20, rows_length, encG, nlf h, hall]

/-- What the number of tries tells. -/
inductive TriesIs (e : Engine) : Int → Prop where
  | bad : TriesIs e (-1)
  | good (m : Int) (he : EngOk e) (hm : m = triesE e) (h0 : 0 ≤ m) (h1 : m ≤ 10000) : TriesIs e m
theorem triesX_is (e : Engine) : TriesIs e (triesX e) := by
  unfold triesX
  split
  · rename_i h
    have he := engValid_iff.1 h
    have := triesE_bd he
    exact .good _ he rfl this.1 this.2
  · exact .bad
def manyTo (e : Engine) (i : Nat) : Nat := manyE (e.slots.take i)
theorem manyTo_succ (e : Engine) (i : Nat) (h : i < e.slots.length) : manyTo e (i + 1) = manyTo e i + (if (slotAt e i).stage != 0 then 1 else 0) := by
  unfold manyTo manyE
  rw [take_snoc _ _ h, List.filter_append, List.length_append, slotAt_lt h]
  congr 1
  rw [List.filter_cons]
  split <;> simp

theorem c_laws_FnTriesOf (nb : Option Bool) (bs : List Int) (h : ∀ b, b ∈ bs → 0 ≤ b ∧ b ≤ 255) : Det Try.prog 5 [.sl nb (rows encB bs)] (.bool true) := by
  refine fspec_det tab_ok Try.call5 Try.func5 rfl 68 Try.ntmps5 (of_decide_eq_true rfl) fun B => codeK_sound tab_ok _ _ _ ?_
  simp (config := { maxSteps := 4000000 }) only [go_sem, simprocAttr, ↓dnA, Try.f5, rows_length]
  intro hl
  have hc : CodeOk bs := ⟨h, by simp at hl; omega⟩
  refine CallTo.of (c_spec_DrawTriesOf nb bs hc) ?_
  rintro r b ⟨e, rfl, hs⟩
  have hs32 : EngSz (2 ^ 32) e := hs.mono (by omega)
  have hI := c_impl_TriesOf none none none none e hs32
  have hS := c_spec_TriesOf none none none none e hs32
  have hti := triesX_is e
  generalize triesX e = m at hI hS hti
  have hmm : (m != m) = false := by simp
  simp (config := { maxSteps := 4000000 }) only [go_sem, simprocAttr, ↓dnA, Try.f5, rows_length, encG]
  refine CallTo.det hI fun _ => ?_
  simp (config := { maxSteps := 4000000 }) only [go_sem, simprocAttr, ↓dnA, Try.f5, rows_length, encG]
  refine CallTo.det hS fun _ => ?_
  cases hti with
  | bad =>
    have z1 : decide ((-1 : Int) < 0) = true := rfl
    have z2 : ((-1 : Int) == -1) = true := rfl
    simp (config := { maxSteps := 4000000 }) only [go_sem, simprocAttr, ↓dnA, Try.f5, rows_length, encG, hmm, z1, z2]
    refine CallTo.det c_laws_alive fun _ => ?_
    simp (config := { maxSteps := 4000000 }) only [go_sem, simprocAttr, ↓dnA, Try.f5, rows_length, encG]
  | good _ he hm h0 h1 =>
    have z1 : decide (m < 0) = false := decide_eq_false (by omega)
    have hel := hs.slots
    simp (config := { maxSteps := 4000000 }) only [go_sem, simprocAttr, ↓dnA, Try.f5, rows_length, encG, hmm, z1]
    refine semL_for tab_ok (fun i : Nat => ⟨68, [(3, .loc 3 0), (4, .int .i64 m), (5, .int .i64 (manyTo e i)), (6, .int .i64 i)], [(3, .var (encG none none none none e))]⟩) (fun i => e.slots.length - i)
      (fun i => i ≤ e.slots.length ∧ manyTo e i ≤ i) 0 [(3, 3)] (Weak.of (by rfl) ?_ ?_ (by rfl)) ⟨by omega, Nat.le_refl _⟩ ?_
    · simp (config := { maxSteps := 4000000 }) only [go_sem, simprocAttr, ↓dnA, Try.f5, rows_length, encG, frW, wk2, wk1, wkL, wkB, hpW, List.mem_cons, Prod.mk.injEq, exists_eq_left, exists_eq_right, exists_eq]
      try rfl
    · simp (config := { maxSteps := 4000000 }) only [go_sem, simprocAttr, ↓dnA, Try.f5, rows_length, encG, frW, wk2, wk1, wkL, wkB, hpW, List.mem_cons, Prod.mk.injEq, exists_eq_left, exists_eq_right, exists_eq]
      try rfl
    · rintro i ⟨hi, hmi⟩
      by_cases hh : i < e.slots.length
      · have hw : IntKind.i64.wrap ((i : Int) + 1) = ((i + 1 : Nat) : Int) := wsucc hh (by omega)
        have hg : e.slots[i] = slotAt e i := (slotAt_lt hh).symm
        have hst := manyTo_succ e i hh
        have hw2 : IntKind.i64.wrap ((manyTo e i : Int) + 1) = ((manyTo e i + 1 : Nat) : Int) := by rw [wrap_small _ (by omega) (by omega)]; omega
        cases d : ((slotAt e i).stage != 0) with
        | true =>
          rw [d, if_pos rfl] at hst
          simp (config := { maxSteps := 4000000 }) only [go_sem, simprocAttr, ↓dnA, Try.f5, rows_length, encG, nlt hh, hh, rows_get _ _ _ hh, hg, encS1, encS, nn0, d, hw, hw2]
          refine ⟨i + 1, [(3, 3)], ⟨by omega, by omega⟩, by dsimp only; omega, Weak.of (by rfl) ?_ ?_ (by rfl)⟩
          · simp (config := { maxSteps := 4000000 }) only [go_sem, simprocAttr, ↓dnA, Try.f5, rows_length, encG, frW, wk2, wk1, wkL, wkB, hpW, List.mem_cons, Prod.mk.injEq, exists_eq_left, exists_eq_right, exists_eq]
            try rfl
          · simp (config := { maxSteps := 4000000 }) only [go_sem, simprocAttr, ↓dnA, Try.f5, rows_length, encG, hst, frW, wk2, wk1, wkL, wkB, hpW, List.mem_cons, Prod.mk.injEq, exists_eq_left, exists_eq_right, exists_eq]
            try rfl
        | false =>
          rw [d, if_neg (by simp), Nat.add_zero] at hst
          simp (config := { maxSteps := 4000000 }) only [go_sem, simprocAttr, ↓dnA, Try.f5, rows_length, encG, nlt hh, hh, rows_get _ _ _ hh, hg, encS1, encS, nn0, d, hw]
          refine ⟨i + 1, [(3, 3)], ⟨by omega, by omega⟩, by dsimp only; omega, Weak.of (by rfl) ?_ ?_ (by rfl)⟩
          · simp (config := { maxSteps := 4000000 }) only [go_sem, simprocAttr, ↓dnA, Try.f5, rows_length, encG, frW, wk2, wk1, wkL, wkB, hpW, List.mem_cons, Prod.mk.injEq, exists_eq_left, exists_eq_right, exists_eq]
            try rfl
          · simp (config := { maxSteps := 4000000 }) only [go_sem, simprocAttr, ↓dnA, Try.f5, rows_length, encG, hst, frW, wk2, wk1, wkL, wkB, hpW, List.mem_cons, Prod.mk.injEq, exists_eq_left, exists_eq_right, exists_eq]
            try rfl
      · have hi' : i = e.slots.length := by omega
        subst hi'
        have hmany : (manyTo e e.slots.length : Int) ≤ m := by
          unfold manyTo
          rw [List.take_length, hm]
          exact he.many
        have z3 : decide (m ≥ (manyTo e e.slots.length : Int)) = true := decide_eq_true hmany
        have hES := c_impl_EngineStep none none none none e 0 hs32
        have hxs := stepX_sz e 0
        have hxx := stepX_ok he 0
        have hxo := stepE_ok he 0
        have htt := tries_step0 (e := e)
        rw [hxx] at hES hxs
        generalize stepE e 0 = y at hES hxs hxo htt
        obtain ⟨x, ok⟩ := y
        dsimp only at hES hxs hxo htt
        have hT := c_impl_TriesOf none none none none x (hxs.mono (by omega))
        have hTx : triesX x = triesE x := by unfold triesX; rw [if_pos (engValid_yes hxo)]
        rw [hTx] at hT
        simp (config := { maxSteps := 4000000 }) only [go_sem, simprocAttr, ↓dnA, Try.f5, rows_length, encG, nlf hh, encGF]
        refine CallTo.det hES fun _ => ?_
        cases ok with
        | false => simp (config := { maxSteps := 4000000 }) only [go_sem, simprocAttr, ↓dnA, Try.f5, rows_length, encG, encGF, z3]
        | true =>
          have ht2 := htt rfl
          have z4 : decide (triesE x ≥ m) = true := decide_eq_true (by omega)
          have hw4 : IntKind.i64.wrap (m + 1) = m + 1 := wrap_small _ (by omega) (by omega)
          have z5 : decide (triesE x ≤ m + 1) = true := decide_eq_true (by omega)
          simp (config := { maxSteps := 4000000 }) only [go_sem, simprocAttr, ↓dnA, Try.f5, rows_length, encG, encGF, z3]
          refine CallTo.det hT fun _ => ?_
          simp (config := { maxSteps := 4000000 }) only [go_sem, simprocAttr, ↓dnA, Try.f5, rows_length, encG, encGF, z3, z4]
          refine CallTo.det hT fun _ => ?_
          simp (config := { maxSteps := 4000000 }) only [go_sem, simprocAttr, ↓dnA, Try.f5, rows_length, encG, encGF, z3, z4, hw4, z5]

end Go.Proofs.Yteebkimhfaodnaa

/- Contracts: engines that are done, their results. -/
set_option linter.unusedSimpArgs false
set_option linter.unusedVariables false
set_option maxRecDepth 20000
set_option maxHeartbeats 4000000
namespace Go.Proofs.Yteebkimhfaodnaa
open Go Go.RowKit

/-- All actions are checked. -/
def doneE (e : Engine) : Bool := e.slots.all fun s => s.stage == 2
theorem doneE_any (e : Engine) : (!(e.slots.any fun s => s.stage != 2)) = doneE e := by
  unfold doneE
  rw [List.not_any_eq_all_not]
  congr 1
  funext s
  simp [bne]
noncomputable def doneX (e : Engine) : Bool := engValid e && doneE e

theorem c_impl_done1 (s : Slot) : Det Try.prog 72 [.agg (encS1 s)] (.bool (s.stage != 2)) := by
  refine fspec_det tab_ok Try.call72 Try.func72 rfl 6 Try.ntmps72 (of_decide_eq_true rfl) fun B => codeK_sound tab_ok _ _ _ ?_
  simp (config := { maxSteps := 4000000 }) only [go_sem, simprocAttr, ↓dnA, Try.f72, encS1, encS]

theorem c_slices_IndexFunc_Slot (n1 : Option Bool) (xs : List Slot) (k : FuncId) (p : Slot → Bool) (hx : xs.length < 2 ^ 62) (hm : mutB k = false) (hp : ∀ x, x ∈ xs → Det Try.prog k [.agg (encS1 x)] (.bool (p x))) :
    Det Try.prog 95 [.sl n1 (rows encS1 xs), .fn k []] (.int .i64 (idxF p xs 0)) := by
  simp only [mutB] at hm
  refine fspec_det tab_ok Try.call95 Try.func95 rfl 19 Try.ntmps95 (of_decide_eq_true rfl) fun B => codeK_sound tab_ok _ _ _ ?_
  simp (config := { maxSteps := 4000000 }) only [go_sem, simprocAttr, ↓dnA, Try.f95, encS1, encS, rows_length, hm]
  refine semL_for tab_ok (fun i : Nat => ⟨19, [(0, .sl n1 (rows encS1 xs)), (1, .fn k []), (7, .int .i64 xs.length), (8, .int .i64 i)], []⟩) (fun i => xs.length - i)
    (fun i => i ≤ xs.length ∧ idxF p (xs.drop i) i = idxF p xs 0) 0 [] (Weak.of rfl trivial ?_ rfl) ⟨by omega, rfl⟩ ?_
  · simp (config := { maxSteps := 4000000 }) only [go_sem, simprocAttr, ↓dnA, Try.f95, encS1, encS, frW, wk2, wk1, wkL, wkB, hpW, List.mem_cons, Prod.mk.injEq, exists_eq_left, exists_eq_right, exists_eq]
  · rintro i ⟨hi, hp'⟩
    by_cases h : i < xs.length
    · simp (config := { maxSteps := 4000000 }) only [go_sem, simprocAttr, ↓dnA, Try.f95, encS1, encS, rows_length, rows_get _ _ _ h, encS1, nlt h, nn0, hm]
      refine CallTo.det (hp _ (List.getElem_mem h)) fun _ => ?_
      rw [drop_cons xs i h] at hp'
      simp (config := { maxSteps := 4000000 }) only [go_sem, simprocAttr, ↓dnA, Try.f95, encS1, encS, rows_length, rows_get _ _ _ h, encS1, nlt h, hm]
      refine ⟨fun h => ?_, fun h' => ?_⟩
      · rw [← hp']; simp [idxF, h]
      · refine ⟨i + 1, [], ⟨by omega, ?_⟩, by dsimp only; omega, Weak.of rfl trivial ?_ rfl⟩
        · rw [← hp']; simp [idxF, h']
        · simp (config := { maxSteps := 4000000 }) only [go_sem, simprocAttr, ↓dnA, Try.f95, encS1, encS, wsucc h hx, frW, wk2, wk1, wkL, wkB, hpW, List.mem_cons, Prod.mk.injEq, exists_eq_left, exists_eq_right, exists_eq]
    · have : i = xs.length := by omega
      subst this
      rw [List.drop_length] at hp'
      simp (config := { maxSteps := 4000000 }) only [go_sem, simprocAttr, ↓dnA, Try.f95, encS1, encS, nlf h, hm]
      rw [← hp']
      rfl

theorem c_slices_ContainsFunc_Slot (n1 : Option Bool) (xs : List Slot) (k : FuncId) (p : Slot → Bool) (hx : xs.length < 2 ^ 62) (hm : mutB k = false) (hp : ∀ x, x ∈ xs → Det Try.prog k [.agg (encS1 x)] (.bool (p x))) :
    Det Try.prog 71 [.sl n1 (rows encS1 xs), .fn k []] (.bool (xs.any p)) := by
  refine fspec_det tab_ok Try.call71 Try.func71 rfl 9 Try.ntmps71 (of_decide_eq_true rfl) fun B => codeK_sound tab_ok _ _ _ ?_
  simp (config := { maxSteps := 4000000 }) only [go_sem, simprocAttr, ↓dnA, Try.f71, encS1, encS]
  refine CallTo.det (c_slices_IndexFunc_Slot _ _ _ _ hx hm hp) fun _ => ?_
  simp (config := { maxSteps := 4000000 }) only [go_sem, simprocAttr, ↓dnA, Try.f71, encS1, encS, idxF_any]


theorem c_impl_done (n1 n2 n3 n4 : Option Bool) (e : Engine) (hs : EngSz (2 ^ 32) e) : Det Try.prog 39 [.agg (encG n1 n2 n3 n4 e)] (.bool (doneE e)) := by
  refine fspec_det tab_ok Try.call39 Try.func39 rfl 7 Try.ntmps39 (of_decide_eq_true rfl) fun B => codeK_sound tab_ok _ _ _ ?_
  have hl := hs.slots
  simp (config := { maxSteps := 4000000 }) only [go_sem, simprocAttr, ↓dnA, Try.f39, rows_length, encG]
  refine CallTo.det (c_slices_ContainsFunc_Slot n4 e.slots _ (fun s => s.stage != 2) (by omega) rfl fun s _ => c_impl_done1 s) fun _ => ?_
  rw [← doneE_any]
  simp (config := { maxSteps := 4000000 }) only [go_sem, simprocAttr, ↓dnA, Try.f39, rows_length, encG]

theorem c_impl_EngineDone (n1 n2 n3 n4 : Option Bool) (e : Engine) (hs : EngSz (2 ^ 32) e) : Det Try.prog 15 [.agg (encG n1 n2 n3 n4 e)] (.bool (doneX e)) := by
  refine fspec_det tab_ok Try.call15 Try.func15 rfl 9 Try.ntmps15 (of_decide_eq_true rfl) fun B => codeK_sound tab_ok _ _ _ ?_
  simp (config := { maxSteps := 4000000 }) only [go_sem, simprocAttr, ↓dnA, Try.f15, rows_length, encG]
  refine CallTo.det (c_impl_EngineValid n1 n2 n3 n4 e hs) fun _ => ?_
  unfold doneX
  cases c : engValid e with
  | false => simp (config := { maxSteps := 4000000 }) only [go_sem, simprocAttr, ↓dnA, Try.f15, rows_length, encG, c]
  | true =>
    simp (config := { maxSteps := 4000000 }) only [go_sem, simprocAttr, ↓dnA, Try.f15, rows_length, encG, c]
    refine CallTo.det (c_impl_done n1 n2 n3 n4 e hs) fun _ => ?_
    simp (config := { maxSteps := 4000000 }) only [go_sem, simprocAttr, ↓dnA, Try.f15, rows_length, encG, c]


end Go.Proofs.Yteebkimhfaodnaa

/- FnEngineOf, FnEngineReverse. -/
set_option linter.unusedSimpArgs false
set_option linter.unusedVariables false
set_option maxRecDepth 20000
set_option maxHeartbeats 4000000
namespace Go.Proofs.Yteebkimhfaodnaa
open Go Go.RowKit

theorem c_spec_DrawEngineOf (nb : Option Bool) (bs : List Int) (h : CodeOk bs) : FSpec Try.prog 7 [.sl nb (rows encB bs)] false [] DrawRunQ := by
  refine fspec_rel tab_ok Try.call7 Try.func7 rfl 8 Try.ntmps7 (of_decide_eq_true rfl) fun B => codeK_sound tab_ok _ _ _ ?_
  simp (config := { maxSteps := 4000000 }) only [go_sem, simprocAttr, ↓dnA, Try.f7, rows_length]
  refine CallTo.of (c_spec_DrawRunSerial nb bs h) ?_
  rintro r b ⟨s, l, rfl, hs, hl⟩
  simp (config := { maxSteps := 4000000 }) only [go_sem, simprocAttr, ↓dnA, Try.f7, rows_length]
  exact .same ⟨s, l, rfl, hs, hl⟩

theorem engineOf_bad {s : List Entry} {l : List Action} (h : (storeValid s && actionsValid l) = false) : engineOf s l = zeroE := by
  unfold engineOf; rw [h]; rfl
/-- A new engine is one of a valid store and valid actions. -/
theorem engineOf_as (s : List Entry) (l : List Action) : ∃ s' l', storeValid s' = true ∧ actionsValid l' = true ∧ engineOf s l = engineOf s' l' ∧ l'.length ≤ 10 ∧ (engineOf s l).slots.length = l'.length := by
  cases c : (storeValid s && actionsValid l) with
  | true =>
    rw [Bool.and_eq_true] at c
    exact ⟨s, l, c.1, c.2, rfl, (actionsValid_ok c.2).2, by rw [engineOf_is c.1 c.2]; exact List.length_replicate⟩
  | false => exact ⟨[], [], by decide, by decide, engineOf_bad c, by simp, by rw [engineOf_bad c]; rfl⟩
theorem engineOf_okA (s : List Entry) (l : List Action) : EngOk (engineOf s l) := by
  obtain ⟨s', l', h1, h2, h3, _⟩ := engineOf_as s l
  rw [h3]; exact engineOf_ok h1 h2

theorem c_laws_FnEngineOf (nb : Option Bool) (bs : List Int) (h : ∀ b, b ∈ bs → 0 ≤ b ∧ b ≤ 255) : Det Try.prog 3 [.sl nb (rows encB bs)] (.bool true) := by
  refine fspec_det tab_ok Try.call3 Try.func3 rfl 59 Try.ntmps3 (of_decide_eq_true rfl) fun B => codeK_sound tab_ok _ _ _ ?_
  simp (config := { maxSteps := 4000000 }) only [go_sem, simprocAttr, ↓dnA, Try.f3, rows_length]
  intro hl
  have hc : CodeOk bs := ⟨h, by simp at hl; omega⟩
  refine CallTo.of (c_spec_DrawEngineOf nb bs hc) ?_
  rintro r b ⟨s, l, rfl, hs, hll⟩
  have hI := c_impl_EngineOf (some true) (some true) s l (by omega) (by omega)
  have hS := c_spec_EngineOf (some true) (some true) s l (by omega) (by omega)
  have hok := engineOf_okA s l
  have hes : EngSz 1000 (engineOf s l) := okSz hok
  have hbad := engineOf_bad (s := s) (l := l)
  have hgood : storeValid s = true → actionsValid l = true → engineOf s l = ⟨s, l, [], List.replicate l.length slot0⟩ := fun h1 h2 => engineOf_is h1 h2
  generalize engineOf s l = x at hI hS hok hes hbad hgood
  have hx32 : EngSz (2 ^ 32) x := hes.mono (by omega)
  have hx62 : EngSz (2 ^ 62) x := hes.mono (by omega)
  simp (config := { maxSteps := 4000000 }) only [go_sem, simprocAttr, ↓dnA, Try.f3, rows_length]
  refine CallTo.det hI fun _ => ?_
  simp (config := { maxSteps := 4000000 }) only [go_sem, simprocAttr, ↓dnA, Try.f3, rows_length, encGF]
  refine semL_draw tab_ok mixed_ rfl (ord := [(0, []), (1, []), (2, []), (3, [0]), (4, []), (5, [])]) (by dsimp only; decide +kernel) ?_
  simp (config := { maxSteps := 4000000 }) only [go_sem, simprocAttr, ↓dnA, Try.f3, rows_length, encGF]
  refine CallTo.det hS fun _ => ?_
  simp (config := { maxSteps := 4000000 }) only [go_sem, simprocAttr, ↓dnA, Try.f3, rows_length, encGF]
  refine CallTo.det (c_laws_sameEngine none none none none none none none none x hx62) fun _ => ?_
  simp (config := { maxSteps := 4000000 }) only [go_sem, simprocAttr, ↓dnA, Try.f3, rows_length, encGF]
  refine CallTo.det (c_spec_StoreValid (some true) s (by omega)) fun _ => ?_
  have z : ((0 : Int) == 0) = true := rfl
  cases c1 : storeValid s with
  | false =>
    have hb := hbad (by rw [c1]; rfl)
    subst hb
    have zl : (zeroE.slots.length : Int) = 0 := rfl
    have zb : (zeroE.base.length : Int) = 0 := rfl
    simp (config := { maxSteps := 4000000 }) only [go_sem, simprocAttr, ↓dnA, Try.f3, rows_length, encGF, c1, zl, zb, z]
    refine CallTo.det c_laws_alive fun _ => ?_
    simp (config := { maxSteps := 4000000 }) only [go_sem, simprocAttr, ↓dnA, Try.f3, rows_length, encGF]
  | true =>
    simp (config := { maxSteps := 4000000 }) only [go_sem, simprocAttr, ↓dnA, Try.f3, rows_length, encGF, c1]
    refine CallTo.det (c_spec_ActionsValid (some true) l (by omega)) fun _ => ?_
    cases c2 : actionsValid l with
    | false =>
      have hb := hbad (by rw [c1, c2]; rfl)
      subst hb
      have zl : (zeroE.slots.length : Int) = 0 := rfl
      have zb : (zeroE.base.length : Int) = 0 := rfl
      simp (config := { maxSteps := 4000000 }) only [go_sem, simprocAttr, ↓dnA, Try.f3, rows_length, encGF, c1, c2, zl, zb, z]
      refine CallTo.det c_laws_alive fun _ => ?_
      simp (config := { maxSteps := 4000000 }) only [go_sem, simprocAttr, ↓dnA, Try.f3, rows_length, encGF]
    | true =>
      have hx := hgood c1 c2
      have hd : doneX x = ((l.length : Int) == 0) := by
        unfold doneX
        rw [engValid_yes hok, Bool.true_and, hx]
        unfold doneE
        cases l with
        | nil => rfl
        | cons a l =>
          have : ((((a :: l).length : Nat) : Int) == 0) = false := by simp; omega
          rw [this]
          rfl
      have ht : triesX x = 0 := by
        unfold triesX
        rw [if_pos (engValid_yes hok), hx]
        show ((List.replicate l.length slot0).map Slot.tries).sum = 0
        rw [List.map_replicate]
        generalize l.length = n
        induction n with
        | zero => rfl
        | succ n ih => rw [List.replicate_succ, List.sum_cons, ih]; rfl
      have hEV := c_impl_EngineValid none none none none x hx32
      have hED := c_impl_EngineDone none none none none x hx32
      have hET := c_impl_TriesOf none none none none x hx32
      rw [engValid_yes hok] at hEV
      rw [hd] at hED
      rw [ht] at hET
      have hdd : (((l.length : Int) == 0) == ((l.length : Int) == 0)) = true := by simp
      simp (config := { maxSteps := 4000000 }) only [go_sem, simprocAttr, ↓dnA, Try.f3, rows_length, encGF, c1, c2]
      refine CallTo.det hEV fun _ => ?_
      simp (config := { maxSteps := 4000000 }) only [go_sem, simprocAttr, ↓dnA, Try.f3, rows_length, encGF, c1, c2]
      refine CallTo.det hED fun _ => ?_
      simp (config := { maxSteps := 4000000 }) only [go_sem, simprocAttr, ↓dnA, Try.f3, rows_length, encGF, c1, c2, hdd]
      refine CallTo.det hET fun _ => ?_
      simp (config := { maxSteps := 4000000 }) only [go_sem, simprocAttr, ↓dnA, Try.f3, rows_length, encGF, z]

theorem c_laws_FnEngineReverse (nb : Option Bool) (bs : List Int) (h : ∀ b, b ∈ bs → 0 ≤ b ∧ b ≤ 255) : Det Try.prog 4 [.sl nb (rows encB bs)] (.bool true) := by
  refine fspec_det tab_ok Try.call4 Try.func4 rfl 78 Try.ntmps4 (of_decide_eq_true rfl) fun B => codeK_sound tab_ok _ _ _ ?_
  simp (config := { maxSteps := 4000000 }) only [go_sem, simprocAttr, ↓dnA, Try.f4, rows_length]
  intro hl
  have hc : CodeOk bs := ⟨h, by simp at hl; omega⟩
  refine CallTo.of (c_spec_DrawEngineOf nb bs hc) ?_
  rintro r b ⟨s, l, rfl, hs, hll⟩
  have hI := c_impl_EngineOf (some true) (some true) s l (by omega) (by omega)
  have hS := c_spec_EngineOf (some true) (some true) s l (by omega) (by omega)
  obtain ⟨s', l', k1, k2, k3, k4, k5⟩ := engineOf_as s l
  have hok := engineOf_okA s l
  have hes : EngSz 1000 (engineOf s l) := okSz hok
  have hrr := rev_run k1 k2 l'.length (Nat.le_refl _)
  have hrf := rev_fin k1 k2 rfl
  rw [← k3] at hrr hrf
  generalize engineOf s l = e at hI hS hok hes hrr hrf k5
  have he32 : EngSz (2 ^ 32) e := hes.mono (by omega)
  have he62 : EngSz (2 ^ 62) e := hes.mono (by omega)
  have hrx : runX_ e (revS l'.length l'.length) = runS e (revS l'.length l'.length) := by unfold runX_; rw [if_pos ⟨engValid_yes hok, by rw [revS_len]; omega⟩]
  simp (config := { maxSteps := 4000000 }) only [go_sem, simprocAttr, ↓dnA, Try.f4, rows_length]
  refine CallTo.det hI fun _ => ?_
  simp (config := { maxSteps := 4000000 }) only [go_sem, simprocAttr, ↓dnA, Try.f4, rows_length, encGF]
  refine semL_draw tab_ok mixed_ rfl (ord := [(0, []), (1, []), (2, []), (3, [0]), (4, []), (5, [])]) (by dsimp only; decide +kernel) ?_
  simp (config := { maxSteps := 4000000 }) only [go_sem, simprocAttr, ↓dnA, Try.f4, rows_length, encGF]
  refine CallTo.det hS fun _ => ?_
  simp (config := { maxSteps := 4000000 }) only [go_sem, simprocAttr, ↓dnA, Try.f4, rows_length, encGF]
  refine CallTo.det (c_laws_sameEngine none none none none none none none none e he62) fun _ => ?_
  have hw0 : IntKind.i64.wrap ((e.slots.length : Int) - 1) = (l'.length : Int) - 1 := by rw [wrap_small _ (by omega) (by omega)]; omega
  simp (config := { maxSteps := 4000000 }) only [go_sem, simprocAttr, ↓dnA, Try.f4, rows_length, encGF, hw0]
  obtain ⟨rs, hrs⟩ : ∃ rs, rs = revS l'.length := ⟨_, rfl⟩
  have hrl : ∀ i, (rs i).length = i := fun i => by rw [hrs]; exact revS_len _ i
  refine semL_for tab_ok (fun i : Nat => ⟨78, [(5, .loc 5 0), (6, .row 600 (rs i).length), (7, .int .i64 ((l'.length : Int) - 1 - (i : Int)))], (5, .var (engC e)) :: (600, .row true true 1 (rows encI (rs i))) :: engB e⟩) (fun i => l'.length - i)
    (fun i => i ≤ l'.length) 0 [(5, 5), (23000, 601), (23001, 602), (23002, 603), (23003, 604), (29, 600)] (Weak.of (by rfl) ?_ ?_ (by rfl)) (by omega) ?_
  · simp (config := { maxSteps := 4000000 }) only [go_sem, simprocAttr, ↓dnA, Try.f4, rows_length, hrs, frW, wk2, wk1, wkL, wkB, hpW, List.mem_cons, Prod.mk.injEq, exists_eq_left, exists_eq_right, exists_eq]
    try rfl
  · simp (config := { maxSteps := 4000000 }) only [go_sem, simprocAttr, ↓dnA, Try.f4, rows_length, hrs, frW, wk2, wk1, wkL, wkB, hpW, List.mem_cons, Prod.mk.injEq, exists_eq_left, exists_eq_right, exists_eq]
    try simp
    try rfl
  · rintro i hi
    have hri := hrl i
    by_cases hh : i < l'.length
    · have d : decide ((l'.length : Int) - 1 - (i : Int) ≥ 0) = true := decide_eq_true (by omega)
      have hw : IntKind.i64.wrap ((l'.length : Int) - 1 - (i : Int) - 1) = (l'.length : Int) - 1 - ((i + 1 : Nat) : Int) := by rw [wrap_small _ (by omega) (by omega)]; omega
      have htk : (rows encI (rs i)).take (rs i).length = rows encI (rs i) := by rw [List.take_of_length_le]; rw [rows_length]; omega
      have hstep : rs (i + 1) = rs i ++ [(l'.length : Int) - 1 - (i : Int)] := by
        rw [hrs]
        show revS l'.length i ++ [((l'.length - 1 - i : Nat) : Int)] = _
        rw [show ((l'.length - 1 - i : Nat) : Int) = (l'.length : Int) - 1 - (i : Int) by omega]
      simp (config := { maxSteps := 4000000 }) only [go_sem, simprocAttr, ↓dnA, Try.f4, rows_length, d, hw, htk]
      repeat refine And.intro (by first | omega | (simp; done) | (simp; omega) | assumption) ?_
      refine ⟨i + 1, [(5, 5), (601, 601), (602, 602), (603, 603), (604, 604), (41, 600)], by omega, by dsimp only; omega, Weak.of (by rfl) ?_ ?_ (by rfl)⟩
      · simp (config := { maxSteps := 4000000 }) only [go_sem, simprocAttr, ↓dnA, Try.f4, rows_length, hstep, List.length_append, frW, wk2, wk1, wkL, wkB, hpW, List.mem_cons, Prod.mk.injEq, exists_eq_left, exists_eq_right, exists_eq]
        rw [← rows_snoc]
        try rfl
      · simp (config := { maxSteps := 4000000 }) only [go_sem, simprocAttr, ↓dnA, Try.f4, rows_length, hstep, List.length_append, frW, wk2, wk1, wkL, wkB, hpW, List.mem_cons, Prod.mk.injEq, exists_eq_left, exists_eq_right, exists_eq]
        try rfl
    · have hi' : i = l'.length := by omega
      subst hi'
      have d : decide ((l'.length : Int) - 1 - (l'.length : Int) ≥ 0) = false := decide_eq_false (by omega)
      have hER := c_impl_EngineRun none none none none (some true) e (rs l'.length) he32 (by omega)
      rw [← hrs] at hrx hrr hrf
      rw [hrx] at hER
      obtain ⟨g1, g2, g3, g4⟩ := hrr
      obtain ⟨f1, f2, f3, f4, f5, f6⟩ := hrf
      generalize runS e (rs l'.length) = x at hER g1 g2 g3 g4 f1 f2 f3 f4 f5 f6
      obtain ⟨x, m⟩ := x
      dsimp only at hER g1 g2 g3 g4 f1 f2 f3 f4 f5 f6
      have hxs := okSz g1
      have hx32 : EngSz (2 ^ 32) x := hxs.mono (by omega)
      have hEF := c_impl_EngineFinish none none none none x hx32
      have hfx : finX x = finE x := by unfold finX; rw [if_pos ⟨engValid_yes g1, fun j hj => by rw [f3 j hj]; omega⟩]
      rw [hfx] at hEF
      have hT1 := c_impl_TriesOf none none none none x hx32
      have ht1 : triesX x = (l'.length : Int) := by unfold triesX; rw [if_pos (engValid_yes g1)]; exact f4
      rw [ht1] at hT1
      generalize finE x = y at hEF f5 f6
      obtain ⟨y, m2⟩ := y
      dsimp only at hEF f5 f6
      have hys := okSz f5
      have hT2 := c_impl_TriesOf none none none none y (hys.mono (by omega))
      have ht2 : triesX y = triesE y := by unfold triesX; rw [if_pos (engValid_yes f5)]
      rw [ht2] at hT2
      have z1 : (m == (e.slots.length : Int)) = true := by rw [g3, k5]; simp
      have z2 : ((l'.length : Int) == (e.slots.length : Int)) = true := by rw [k5]; simp
      have hw3 : IntKind.i64.wrap (2 * (e.slots.length : Int)) = 2 * (e.slots.length : Int) := wrap_small _ (by omega) (by omega)
      have z3 : decide (triesE y ≤ 2 * (e.slots.length : Int)) = true := decide_eq_true (by omega)
      simp (config := { maxSteps := 4000000 }) only [go_sem, simprocAttr, ↓dnA, Try.f4, rows_length, d]
      refine CallTo.det hER fun _ => ?_
      simp (config := { maxSteps := 4000000 }) only [go_sem, simprocAttr, ↓dnA, Try.f4, rows_length, encG, encGF]
      refine CallTo.det hEF fun _ => ?_
      simp (config := { maxSteps := 4000000 }) only [go_sem, simprocAttr, ↓dnA, Try.f4, rows_length, encG, encGF]
      refine semL_draw tab_ok mixed_ rfl (ord := [(0, []), (1, []), (2, []), (3, []), (4, []), (5, []), (6, []), (8, []), (9, []), (10, []), (7, [8, 9, 10]), (11, []), (12, []), (13, []), (14, []), (16, []), (17, []), (18, []), (19, []), (15, [16, 17, 18, 19]), (20, []), (21, []), (22, []), (23, []), (24, []), (25, [])]) (by dsimp only; decide +kernel) ?_
      simp (config := { maxSteps := 4000000 }) only [go_sem, simprocAttr, ↓dnA, Try.f4, rows_length, encG, encGF, z1]
      refine CallTo.det hT1 fun _ => ?_
      simp (config := { maxSteps := 4000000 }) only [go_sem, simprocAttr, ↓dnA, Try.f4, rows_length, encG, encGF, z1, z2]
      refine CallTo.det hT2 fun _ => ?_
      simp (config := { maxSteps := 4000000 }) only [go_sem, simprocAttr, ↓dnA, Try.f4, rows_length, encG, encGF, z1, z2, hw3, z3]
      refine CallTo.det c_laws_alive fun _ => ?_
      simp (config := { maxSteps := 4000000 }) only [go_sem, simprocAttr, ↓dnA, Try.f4, rows_length, encG, encGF]

end Go.Proofs.Yteebkimhfaodnaa

/- FnEngineRun. -/
set_option linter.unusedSimpArgs false
set_option linter.unusedVariables false
set_option maxRecDepth 20000
set_option maxHeartbeats 4000000
namespace Go.Proofs.Yteebkimhfaodnaa
open Go Go.RowKit

def DrawESQ (r : AV) (b : List AV) : Prop := ∃ (e : Engine) (sc : List Int), r = .tup [.agg (encG none none none none e), .osl true 1 (rows encI sc)] ∧ EngSz 1000 e ∧ sc.length ≤ 201

theorem c_spec_DrawEngineRun (nb : Option Bool) (bs : List Int) (h : CodeOk bs) : FSpec Try.prog 22 [.sl nb (rows encB bs)] false [] DrawESQ := by
  refine fspec_rel tab_ok Try.call22 Try.func22 rfl 20 Try.ntmps22 (of_decide_eq_true rfl) fun B => codeK_sound tab_ok _ _ _ ?_
  simp (config := { maxSteps := 4000000 }) only [go_sem, simprocAttr, ↓dnA, Try.f22, rows_length]
  refine CallTo.of (c_spec_l20Open nb bs h) ?_
  rintro r b rfl
  unfold rd
  simp (config := { maxSteps := 4000000 }) only [go_sem, simprocAttr, ↓dnA, Try.f22, rows_length]
  have h0 := code_take h
  refine CallTo.of (c_spec_l20Engine nb _ 0 9 h0 (by omega) (by omega)) ?_
  rintro r b ⟨e, q, rfl, rfl, hq1, hq2, hs⟩
  have h1 := h0.step (q := q) (by omega) (by omega)
  have hel := hs.slots
  unfold rd
  simp (config := { maxSteps := 4000000 }) only [go_sem, simprocAttr, ↓dnA, Try.f22, rows_length, encG]
  refine CallTo.of (c_spec_odd nb _ q 24 h1 (by omega)) ?_
  rintro r b ⟨o, q2, rfl, rfl, hq3, hq4⟩
  have h2 := h0.step (q := q2) (by omega) (by omega)
  unfold rd
  cases o with
  | false =>
    simp (config := { maxSteps := 4000000 }) only [go_sem, simprocAttr, ↓dnA, Try.f22, rows_length, encG]
    refine semL_draw tab_ok mixed_ rfl (ord := [(0, []), (1, []), (2, []), (3, []), (4, []), (5, [0]), (6, []), (7, [])]) (by dsimp only; decide +kernel) ?_
    simp (config := { maxSteps := 4000000 }) only [go_sem, simprocAttr, ↓dnA, Try.f22, rows_length, encG]
    refine CallTo.of (c_spec_l20Script nb _ q2 (e.slots.length : Int) h2 (by omega) (by omega)) ?_
    rintro r b ⟨sc, q3, rfl, rfl, hq5, hq6, hsc⟩
    unfold rd
    simp (config := { maxSteps := 4000000 }) only [go_sem, simprocAttr, ↓dnA, Try.f22, rows_length, encG]
    exact .same ⟨e, sc, rfl, hs, by omega⟩
  | true =>
    simp (config := { maxSteps := 4000000 }) only [go_sem, simprocAttr, ↓dnA, Try.f22, rows_length, encG]
    refine semL_draw tab_ok mixed_ rfl (ord := [(0, []), (2, []), (1, [0]), (3, [])]) (by dsimp only; decide +kernel) ?_
    simp (config := { maxSteps := 4000000 }) only [go_sem, simprocAttr, ↓dnA, Try.f22, rows_length, encG]
    exact .same ⟨e, List.replicate 201 0, rfl, hs, by simp⟩

/-- What a run of a script is. -/
theorem runX_parts {e x : Engine} {m : Int} {sc : List Int} (hx : runX_ e sc = (x, m)) : (m = -1 ∧ x = zeroE) ∨ (0 ≤ m ∧ EngOk x ∧ m ≤ 200 ∧
    ∀ h, EngOk (runX_ e (sc.take h)).1 ∧ (runX_ (runX_ e (sc.take h)).1 (sc.drop h)).1 = x ∧ (runX_ e (sc.take h)).2 + (runX_ (runX_ e (sc.take h)).1 (sc.drop h)).2 = m ∧ 0 ≤ (runX_ e (sc.take h)).2 ∧ (runX_ e (sc.take h)).2 ≤ 200 ∧ 0 ≤ (runX_ (runX_ e (sc.take h)).1 (sc.drop h)).2 ∧ (runX_ (runX_ e (sc.take h)).1 (sc.drop h)).2 ≤ 200) := by
  by_cases c : engValid e = true ∧ sc.length ≤ 200
  · right
    have he := engValid_iff.1 c.1
    have hr : ∀ (y : Engine) (s : List Int), EngOk y → s.length ≤ 200 → runX_ y s = runS y s := fun y s hy hs => by unfold runX_; rw [if_pos ⟨engValid_yes hy, hs⟩]
    have hk : ∀ (y : Engine) (s : List Int), EngOk y → EngOk (runS y s).1 := fun y s hy => runS_ok s (p := (y, 0)) hy
    rw [hr e sc he c.2] at hx
    have hxo := hk e sc he
    have hcn := runS_cnt sc e
    rw [hx] at hxo hcn
    refine ⟨hcn.1, hxo, by have := hcn.2; dsimp only at this; omega, fun h => ?_⟩
    have hl1 : (sc.take h).length ≤ 200 := by rw [List.length_take]; omega
    have hl2 : (sc.drop h).length ≤ 200 := by rw [List.length_drop]; omega
    have hy := hk e (sc.take h) he
    rw [hr e (sc.take h) he hl1, hr _ (sc.drop h) hy hl2]
    have ha := runS_append e (sc.take h) (sc.drop h)
    rw [List.take_append_drop, hx] at ha
    have hc1 := runS_cnt (sc.take h) e
    have hc2 := runS_cnt (sc.drop h) (runS e (sc.take h)).1
    refine ⟨hy, (congrArg Prod.fst ha).symm, (congrArg Prod.snd ha).symm, hc1.1, by omega, hc2.1, by omega⟩
  · left
    unfold runX_ at hx
    rw [if_neg c] at hx
    exact ⟨(congrArg Prod.snd hx).symm, (congrArg Prod.fst hx).symm⟩

theorem c_laws_FnEngineRun (nb : Option Bool) (bs : List Int) (h : ∀ b, b ∈ bs → 0 ≤ b ∧ b ≤ 255) : Det Try.prog 6 [.sl nb (rows encB bs)] (.bool true) := by
  refine fspec_det tab_ok Try.call6 Try.func6 rfl 89 Try.ntmps6 (of_decide_eq_true rfl) fun B => codeK_sound tab_ok _ _ _ ?_
  simp (config := { maxSteps := 4000000 }) only [go_sem, simprocAttr, ↓dnA, Try.f6, rows_length]
  intro hl
  have hc : CodeOk bs := ⟨h, by simp at hl; omega⟩
  refine CallTo.of (c_spec_DrawEngineRun nb bs hc) ?_
  rintro r b ⟨e, sc, rfl, hs, hsc⟩
  have hs32 : EngSz (2 ^ 32) e := hs.mono (by omega)
  have hI := c_impl_EngineRun none none none none (some true) e sc hs32 (by omega)
  have hS := c_spec_EngineRun none none none none (some true) e sc hs32 (by omega)
  obtain ⟨x, m, hxm⟩ : ∃ x m, runX_ e sc = (x, m) := ⟨_, _, rfl⟩
  have hp := runX_parts hxm
  have hxz : EngSz 1000 x := by
    rcases hp with ⟨_, rfl⟩ | ⟨_, g, _⟩
    · exact ⟨by decide, by decide, by decide, by decide, fun s hs => by cases hs⟩
    · exact okSz g
  rw [hxm] at hI hS
  dsimp only at hI hS
  have hx62 : EngSz (2 ^ 62) x := hxz.mono (by omega)
  have hmm : (m != m) = false := by simp
  simp (config := { maxSteps := 4000000 }) only [go_sem, simprocAttr, ↓dnA, Try.f6, rows_length, encG, encGF]
  refine CallTo.det hI fun _ => ?_
  simp (config := { maxSteps := 4000000 }) only [go_sem, simprocAttr, ↓dnA, Try.f6, rows_length, encG, encGF]
  refine CallTo.det hS fun _ => ?_
  simp (config := { maxSteps := 4000000 }) only [go_sem, simprocAttr, ↓dnA, Try.f6, rows_length, encG, encGF]
  refine CallTo.det (c_laws_sameEngine none none none none none none none none x hx62) fun _ => ?_
  rcases hp with ⟨rfl, rfl⟩ | ⟨h0, hxo, hm2, hpp⟩
  · have z : ((0 : Int) == 0) = true := rfl
    have z1 : decide ((-1 : Int) < 0) = true := rfl
    have z2 : ((-1 : Int) == -1) = true := rfl
    have zl : (zeroE.slots.length : Int) = 0 := rfl
    simp (config := { maxSteps := 4000000 }) only [go_sem, simprocAttr, ↓dnA, Try.f6, rows_length, encG, encGF, hmm, z, z1, z2, zl]
    refine CallTo.det c_laws_alive fun _ => ?_
    simp (config := { maxSteps := 4000000 }) only [go_sem, simprocAttr, ↓dnA, Try.f6, rows_length, encG, encGF]
  · have z1 : decide (m < 0) = false := decide_eq_false (by omega)
    obtain ⟨k, hk⟩ : ∃ k : Nat, k = sc.length / 2 := ⟨_, rfl⟩
    have hkl : k ≤ sc.length := by omega
    have hwd : IntKind.i64.wrap ((sc.length : Int).tdiv 2) = (k : Int) := by
      rw [Int.tdiv_eq_ediv_of_nonneg (by omega), wrap_small _ (by omega) (by omega), hk]; omega
    obtain ⟨p1, p2, p3, p4, p5, p6, p7⟩ := hpp k
    have hR1 := c_impl_EngineRun none none none none none e (sc.take k) hs32 (by rw [List.length_take]; omega)
    generalize runX_ e (sc.take k) = y at hR1 p1 p2 p3 p4 p5 p6 p7
    obtain ⟨y, m1⟩ := y
    dsimp only at hR1 p1 p2 p3 p4 p5 p6 p7
    have hR2 := c_impl_EngineRun none none none none none y (sc.drop k) ((okSz p1).mono (by omega)) (by rw [List.length_drop]; omega)
    generalize runX_ y (sc.drop k) = w at hR2 p2 p3 p6 p7
    obtain ⟨w, m2⟩ := w
    dsimp only at hR2 p2 p3 p6 p7
    subst p2
    have hV := c_impl_EngineValid none none none none w (hxz.mono (by omega))
    rw [engValid_yes hxo] at hV
    have hw12 : IntKind.i64.wrap (m1 + m2) = m1 + m2 := wrap_small _ (by omega) (by omega)
    have z3 : (m1 + m2 == m) = true := by rw [p3]; simp
    have htk : (rows encI sc).take k = rows encI (sc.take k) := rows_take _ _ _
    have hdr : ((rows encI sc).take sc.length).drop k = rows encI (sc.drop k) := by rw [List.take_of_length_le (by rw [rows_length]; omega), rows_drop]
    simp (config := { maxSteps := 4000000 }) only [go_sem, simprocAttr, ↓dnA, Try.f6, rows_length, encG, encGF, hmm, z1, hwd]
    refine semL_ghost ((Ghost.weak (t := ⟨89, [(3, .loc 3 0), (4, .row 20100 sc.length), (5, .loc 5 0), (6, .int .i64 m), (9, .int .i64 k)],
        [(3, .var (encG none none none none e)), (5, .var [.row 26000 w.base.length, .row 26001 w.list.length, .row 26002 w.versions.length, .row 26003 w.slots.length]),
          (26000, .row true false 2 (rows encE w.base)), (26001, .row true false 4 (rows encA w.list)), (26002, .row true false 3 (rows encR w.versions)), (26003, .row true false 6 (rows encS1 w.slots)), (20100, .fro 1 (rows encI sc))]⟩)
        (ρ := [(3, 3), (5, 5), (26000, 26000), (26001, 26001), (26002, 26002), (26003, 26003), (20100, 20100)]) (Weak.of (by rfl) ?_ ?_ (by rfl))).trans (Ghost.pure 4 20100 sc.length 1 rfl rfl ?_)) ?_
    · simp (config := { maxSteps := 4000000 }) only [go_sem, simprocAttr, ↓dnA, Try.f6, rows_length, encG, frW, wk2, wk1, wkL, wkB, hpW, List.mem_cons, Prod.mk.injEq, exists_eq_left, exists_eq_right, exists_eq]
      try rfl
    · simp (config := { maxSteps := 4000000 }) only [go_sem, simprocAttr, ↓dnA, Try.f6, rows_length, encG, frW, wk2, wk1, wkL, wkB, hpW, List.mem_cons, Prod.mk.injEq, exists_eq_left, exists_eq_right, exists_eq]
      try rfl
    · rw [rows_length]
    refine semL_draw tab_ok mixed_ rfl (ord := [(0, []), (1, []), (2, []), (3, []), (4, []), (5, []), (6, []), (7, []), (8, [0, 1, 2, 3, 5, 6, 7]), (9, [7]), (10, [])]) (by dsimp only [AState.put]; decide +kernel) ?_
    simp (config := { maxSteps := 4000000 }) only [go_sem, simprocAttr, ↓dnA, Try.f6, rows_length, encG, encGF, nn0, htk]
    repeat refine And.intro (by first | omega | (simp; done) | (simp; omega) | assumption) ?_
    refine CallTo.det hR1 fun _ => ?_
    simp (config := { maxSteps := 4000000 }) only [go_sem, simprocAttr, ↓dnA, Try.f6, rows_length, encG, encGF, nn0]
    refine ⟨by omega, ?_⟩
    refine semL_draw tab_ok mixed_ rfl (ord := [(0, []), (1, []), (2, []), (3, []), (4, []), (5, []), (6, []), (7, []), (8, [0, 1, 2, 3, 5, 6, 7]), (9, [7]), (10, [])]) (by dsimp only; decide +kernel) ?_
    simp (config := { maxSteps := 4000000 }) only [go_sem, simprocAttr, ↓dnA, Try.f6, rows_length, encG, encGF, nn0, hdr]
    repeat refine And.intro (by first | omega | (simp; done) | (simp; omega) | assumption) ?_
    refine ⟨fun _ g => by rw [rows_get _ _ _ (by omega)]; rfl, ?_⟩
    refine CallTo.det hR2 fun _ => ?_
    simp (config := { maxSteps := 4000000 }) only [go_sem, simprocAttr, ↓dnA, Try.f6, rows_length, encG, encGF, nn0]
    refine ⟨⟨by omega, fun _ g => by rw [rows_get _ _ _ (by omega)]; rfl⟩, ?_⟩
    refine CallTo.det (c_laws_sameEngine none none none none none none none none w hx62) fun _ => ?_
    simp (config := { maxSteps := 4000000 }) only [go_sem, simprocAttr, ↓dnA, Try.f6, rows_length, encG, encGF, hw12, z3]
    refine CallTo.det hV fun _ => ?_
    simp (config := { maxSteps := 4000000 }) only [go_sem, simprocAttr, ↓dnA, Try.f6, rows_length, encG, encGF, hw12, z3]

end Go.Proofs.Yteebkimhfaodnaa

