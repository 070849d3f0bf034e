/- The table of the types of this program, printed by wip/gen/tabgen.py out of the seat's translation; that it is right is one closed computation. -/
import Derived.Test.YtdaemhaecjldaaaAi23
import Derived.Test.YtdaemhaecjldaaaChecked
namespace Go.Proofs.Ytdaemhaecjldaaa
open Go Go.RowKit

def ti2 : TI := ⟨.int .i64, 1, 8, true, false, [.int .i64 0]⟩
def ti3 : TI := ⟨.int .i64, 1, 8, true, false, [.int .i64 0]⟩
def ti4 : TI := ⟨.bool, 1, 1, true, false, [.bool false]⟩
def ti5 : TI := ⟨.int .u8, 1, 1, true, false, [.int .u8 0]⟩
def ti12 : TI := ⟨.int .u64, 1, 8, true, false, [.int .u64 0]⟩
def ti18 : TI := ⟨.struct [(0, 17)], 1, 8, false, false, [.top]⟩
def ti21 : TI := ⟨.int .i32, 1, 4, true, false, [.int .i32 0]⟩
def ti22 : TI := ⟨.struct [(0, 3), (1, 3)], 2, 16, true, true, [.int .i64 0, .int .i64 0]⟩
def ti23 : TI := ⟨.struct [(0, 3), (1, 3)], 2, 16, true, true, [.int .i64 0, .int .i64 0]⟩
def ti24 : TI := ⟨.other, 1, 8, false, false, [.top]⟩
def ti25 : TI := ⟨.struct [(0, 3), (1, 3)], 2, 16, true, true, [.int .i64 0, .int .i64 0]⟩
def ti27 : TI := ⟨.other, 1, 8, false, false, [.top]⟩
def ti28 : TI := ⟨.slice 5, 1, 24, false, false, [.sl (some false) []]⟩
def ti30 : TI := ⟨.other, 1, 8, false, false, [.top]⟩
def ti32 : TI := ⟨.slice 125, 1, 24, false, false, [.sl (some false) []]⟩
def ti33 : TI := ⟨.slice 129, 1, 24, false, false, [.sl (some false) []]⟩
def ti36 : TI := ⟨.slice 123, 1, 24, false, false, [.sl (some false) []]⟩
def ti37 : TI := ⟨.slice 127, 1, 24, false, false, [.sl (some false) []]⟩
def ti38 : TI := ⟨.slice 187, 1, 24, false, false, [.sl (some false) []]⟩
def ti39 : TI := ⟨.slice 183, 1, 24, false, false, [.sl (some false) []]⟩
def ti40 : TI := ⟨.struct [(0, 36), (1, 37), (2, 38), (3, 39)], 4, 96, false, false, [.sl (some false) [], .sl (some false) [], .sl (some false) [], .sl (some false) []]⟩
def ti41 : TI := ⟨.struct [(0, 36), (1, 37), (2, 38), (3, 39)], 4, 96, false, false, [.sl (some false) [], .sl (some false) [], .sl (some false) [], .sl (some false) []]⟩
def ti45 : TI := ⟨.other, 1, 8, false, false, [.top]⟩
def ti50 : TI := ⟨.other, 1, 8, false, false, [.top]⟩
def ti52 : TI := ⟨.slice 82, 1, 24, false, false, [.sl (some false) []]⟩
def ti53 : TI := ⟨.slice 3, 1, 24, false, false, [.sl (some false) []]⟩
def ti54 : TI := ⟨.struct [(0, 32), (1, 52), (2, 53)], 3, 72, false, false, [.sl (some false) [], .sl (some false) [], .sl (some false) []]⟩
def ti55 : TI := ⟨.struct [(0, 32), (1, 52), (2, 53)], 3, 72, false, false, [.sl (some false) [], .sl (some false) [], .sl (some false) []]⟩
def ti56 : TI := ⟨.slice 4, 1, 24, false, false, [.sl (some false) []]⟩
def ti57 : TI := ⟨.other, 1, 8, false, false, [.top]⟩
def ti59 : TI := ⟨.slice 85, 1, 24, false, false, [.sl (some false) []]⟩
def ti60 : TI := ⟨.struct [(0, 36), (1, 59), (2, 53)], 3, 72, false, false, [.sl (some false) [], .sl (some false) [], .sl (some false) []]⟩
def ti61 : TI := ⟨.struct [(0, 36), (1, 59), (2, 53)], 3, 72, false, false, [.sl (some false) [], .sl (some false) [], .sl (some false) []]⟩
def ti64 : TI := ⟨.other, 1, 8, false, false, [.top]⟩
def ti69 : TI := ⟨.slice 151, 1, 24, false, false, [.sl (some false) []]⟩
def ti80 : TI := ⟨.other, 1, 8, false, false, [.top]⟩
def ti81 : TI := ⟨.struct [(0, 3), (1, 3), (2, 3), (3, 33), (4, 3), (5, 3)], 6, 64, false, false, [.int .i64 0, .int .i64 0, .int .i64 0, .sl (some false) [], .int .i64 0, .int .i64 0]⟩
def ti82 : TI := ⟨.struct [(0, 3), (1, 3), (2, 3), (3, 33), (4, 3), (5, 3)], 6, 64, false, false, [.int .i64 0, .int .i64 0, .int .i64 0, .sl (some false) [], .int .i64 0, .int .i64 0]⟩
def ti83 : TI := ⟨.other, 1, 8, false, false, [.top]⟩
def ti84 : TI := ⟨.struct [(0, 3), (1, 3), (2, 3), (3, 37), (4, 3), (5, 3)], 6, 64, false, false, [.int .i64 0, .int .i64 0, .int .i64 0, .sl (some false) [], .int .i64 0, .int .i64 0]⟩
def ti85 : TI := ⟨.struct [(0, 3), (1, 3), (2, 3), (3, 37), (4, 3), (5, 3)], 6, 64, false, false, [.int .i64 0, .int .i64 0, .int .i64 0, .sl (some false) [], .int .i64 0, .int .i64 0]⟩
def ti89 : TI := ⟨.other, 1, 8, false, false, [.top]⟩
def ti90 : TI := ⟨.other, 1, 8, false, false, [.top]⟩
def ti94 : TI := ⟨.other, 1, 8, false, false, [.top]⟩
def ti96 : TI := ⟨.other, 1, 8, false, false, [.top]⟩
def ti97 : TI := ⟨.struct [(0, 3), (1, 3), (2, 3)], 3, 24, true, true, [.int .i64 0, .int .i64 0, .int .i64 0]⟩
def ti98 : TI := ⟨.struct [(0, 3), (1, 3), (2, 3)], 3, 24, true, true, [.int .i64 0, .int .i64 0, .int .i64 0]⟩
def ti99 : TI := ⟨.other, 1, 8, false, false, [.top]⟩
def ti100 : TI := ⟨.struct [(0, 3), (1, 3), (2, 3)], 3, 24, true, true, [.int .i64 0, .int .i64 0, .int .i64 0]⟩
def ti102 : TI := ⟨.other, 1, 8, false, false, [.top]⟩
def ti103 : TI := ⟨.slice 23, 1, 24, false, false, [.sl (some false) []]⟩
def ti104 : TI := ⟨.struct [(0, 55), (3, 103), (4, 53)], 5, 120, false, false, [.sl (some false) [], .sl (some false) [], .sl (some false) [], .sl (some false) [], .sl (some false) []]⟩
def ti105 : TI := ⟨.struct [(0, 55), (3, 103), (4, 53)], 5, 120, false, false, [.sl (some false) [], .sl (some false) [], .sl (some false) [], .sl (some false) [], .sl (some false) []]⟩
def ti106 : TI := ⟨.other, 1, 8, false, false, [.top]⟩
def ti107 : TI := ⟨.other, 1, 8, false, false, [.top]⟩
def ti108 : TI := ⟨.slice 25, 1, 24, false, false, [.sl (some false) []]⟩
def ti109 : TI := ⟨.struct [(0, 61), (3, 108), (4, 53)], 5, 120, false, false, [.sl (some false) [], .sl (some false) [], .sl (some false) [], .sl (some false) [], .sl (some false) []]⟩
def ti110 : TI := ⟨.struct [(0, 61), (3, 108), (4, 53)], 5, 120, false, false, [.sl (some false) [], .sl (some false) [], .sl (some false) [], .sl (some false) [], .sl (some false) []]⟩
def ti112 : TI := ⟨.other, 1, 8, false, false, [.top]⟩
def ti113 : TI := ⟨.other, 1, 8, false, false, [.top]⟩
def ti115 : TI := ⟨.other, 1, 8, false, false, [.top]⟩
def ti116 : TI := ⟨.other, 1, 8, false, false, [.top]⟩
def ti117 : TI := ⟨.other, 1, 8, false, false, [.top]⟩
def ti122 : TI := ⟨.struct [(0, 3), (1, 3)], 2, 16, true, true, [.int .i64 0, .int .i64 0]⟩
def ti123 : TI := ⟨.struct [(0, 3), (1, 3)], 2, 16, true, true, [.int .i64 0, .int .i64 0]⟩
def ti125 : TI := ⟨.struct [(0, 3), (1, 3)], 2, 16, true, true, [.int .i64 0, .int .i64 0]⟩
def ti126 : TI := ⟨.struct [(0, 3), (1, 3), (2, 3), (3, 3)], 4, 32, true, true, [.int .i64 0, .int .i64 0, .int .i64 0, .int .i64 0]⟩
def ti127 : TI := ⟨.struct [(0, 3), (1, 3), (2, 3), (3, 3)], 4, 32, true, true, [.int .i64 0, .int .i64 0, .int .i64 0, .int .i64 0]⟩
def ti129 : TI := ⟨.struct [(0, 3), (1, 3), (2, 3), (3, 3)], 4, 32, true, true, [.int .i64 0, .int .i64 0, .int .i64 0, .int .i64 0]⟩
def ti133 : TI := ⟨.other, 1, 8, false, false, [.top]⟩
def ti134 : TI := ⟨.other, 1, 8, false, false, [.top]⟩
def ti138 : TI := ⟨.other, 1, 8, false, false, [.top]⟩
def ti144 : TI := ⟨.arr 32 3, 32, 256, true, false, List.replicate 32 (.int .i64 0)⟩
def ti145 : TI := ⟨.arr 32 3, 32, 256, true, false, List.replicate 32 (.int .i64 0)⟩
def ti150 : TI := ⟨.struct [(0, 4), (1, 36), (2, 36)], 3, 56, false, false, [.bool false, .sl (some false) [], .sl (some false) []]⟩
def ti151 : TI := ⟨.struct [(0, 4), (1, 36), (2, 36)], 3, 56, false, false, [.bool false, .sl (some false) [], .sl (some false) []]⟩
def ti154 : TI := ⟨.other, 1, 8, false, false, [.top]⟩
def ti160 : TI := ⟨.other, 1, 8, false, false, [.top]⟩
def ti161 : TI := ⟨.other, 1, 8, false, false, [.top]⟩
def ti167 : TI := ⟨.other, 1, 8, false, false, [.top]⟩
def ti168 : TI := ⟨.other, 1, 8, false, false, [.top]⟩
def ti174 : TI := ⟨.other, 1, 8, false, false, [.top]⟩
def ti176 : TI := ⟨.other, 1, 8, false, false, [.top]⟩
def ti177 : TI := ⟨.struct [(0, 28), (1, 3)], 2, 32, false, false, [.sl (some false) [], .int .i64 0]⟩
def ti178 : TI := ⟨.struct [(0, 28), (1, 3)], 2, 32, false, false, [.sl (some false) [], .int .i64 0]⟩
def ti179 : TI := ⟨.other, 1, 8, false, false, [.top]⟩
def ti182 : TI := ⟨.struct [(0, 3), (1, 3), (2, 53), (3, 151)], 6, 96, false, false, [.int .i64 0, .int .i64 0, .sl (some false) [], .bool false, .sl (some false) [], .sl (some false) []]⟩
def ti183 : TI := ⟨.struct [(0, 3), (1, 3), (2, 53), (3, 151)], 6, 96, false, false, [.int .i64 0, .int .i64 0, .sl (some false) [], .bool false, .sl (some false) [], .sl (some false) []]⟩
def ti185 : TI := ⟨.other, 1, 8, false, false, [.top]⟩
def ti186 : TI := ⟨.struct [(0, 3), (1, 3), (2, 3)], 3, 24, true, true, [.int .i64 0, .int .i64 0, .int .i64 0]⟩
def ti187 : TI := ⟨.struct [(0, 3), (1, 3), (2, 3)], 3, 24, true, true, [.int .i64 0, .int .i64 0, .int .i64 0]⟩
def ti188 : TI := ⟨.other, 1, 8, false, false, [.top]⟩
def ti197 : TI := ⟨.other, 1, 8, false, false, [.top]⟩
def ti198 : TI := ⟨.slice 53, 1, 24, false, false, [.sl (some false) []]⟩
def ti204 : TI := ⟨.other, 1, 8, false, false, [.top]⟩
def ti206 : TI := ⟨.map 3 3, 1, 8, false, false, [.top]⟩
def ti212 : TI := ⟨.slice 36, 1, 24, false, false, [.sl (some false) []]⟩
def ti215 : TI := ⟨.int .u64, 1, 8, true, false, [.int .u64 0]⟩
def ti217 : TI := ⟨.int .u32, 1, 4, true, false, [.int .u32 0]⟩
def ti219 : TI := ⟨.int .u64, 1, 8, true, false, [.int .u64 0]⟩
def ti223 : TI := ⟨.arr 0 16, 0, 0, false, false, []⟩
def ti224 : TI := ⟨.struct [(0, 223)], 0, 0, false, false, []⟩
def ti226 : TI := ⟨.other, 1, 8, false, false, [.top]⟩

def tabL : List (Nat × TI) := [(2, ti2), (3, ti3), (4, ti4), (5, ti5), (12, ti12), (18, ti18), (21, ti21), (22, ti22), (23, ti23), (24, ti24), (25, ti25), (27, ti27), (28, ti28), (30, ti30), (32, ti32), (33, ti33), (36, ti36), (37, ti37), (38, ti38), (39, ti39), (40, ti40), (41, ti41), (45, ti45), (50, ti50), (52, ti52), (53, ti53), (54, ti54), (55, ti55), (56, ti56), (57, ti57), (59, ti59), (60, ti60), (61, ti61), (64, ti64), (69, ti69), (80, ti80), (81, ti81), (82, ti82), (83, ti83), (84, ti84), (85, ti85), (89, ti89), (90, ti90), (94, ti94), (96, ti96), (97, ti97), (98, ti98), (99, ti99), (100, ti100), (102, ti102), (103, ti103), (104, ti104), (105, ti105), (106, ti106), (107, ti107), (108, ti108), (109, ti109), (110, ti110), (112, ti112), (113, ti113), (115, ti115), (116, ti116), (117, ti117), (122, ti122), (123, ti123), (125, ti125), (126, ti126), (127, ti127), (129, ti129), (133, ti133), (134, ti134), (138, ti138), (144, ti144), (145, ti145), (150, ti150), (151, ti151), (154, ti154), (160, ti160), (161, ti161), (167, ti167), (168, ti168), (174, ti174), (176, ti176), (177, ti177), (178, ti178), (179, ti179), (182, ti182), (183, ti183), (185, ti185), (186, ti186), (187, ti187), (188, ti188), (197, ti197), (198, ti198), (204, ti204), (206, ti206), (212, ti212), (215, ti215), (217, ti217), (219, ti219), (223, ti223), (224, ti224), (226, ti226)]

def tabF : List (Nat × TI) → Nat → Option TI
  | [], _ => none
  | (k, i) :: r, t => if t = k then some i else tabF r t

def tab : Tab := tabF tabL

theorem tabF_ok {P : Program} : ∀ (l : List (Nat × TI)), (l.all fun p => tiOk P p.1 p.2) = true → ∀ t i, tabF l t = some i → tiOk P t i = true
  | [], _, t, i, h => by cases h
  | (k, j) :: r, hl, t, i, h => by
    rw [List.all_cons, Bool.and_eq_true] at hl
    have h' : (if t = k then some j else tabF r t) = some i := h
    split at h'
    · rename_i e; cases h'; rw [e]; exact hl.1
    · exact tabF_ok r hl.2 t i h'

theorem tab_ok : TabOk Try.prog tab := ⟨tabF_ok tabL (by kernel_rfl)⟩

set_option maxRecDepth 20000
theorem tyShape_2 : tyShape tab 2 = some (false, 1, true) := rfl
theorem intKd_2 : intKd tab 2 = some .i64 := rfl
theorem tabAt_2 : tab 2 = some ti2 := rfl
theorem tyShape_3 : tyShape tab 3 = some (false, 1, true) := rfl
theorem intKd_3 : intKd tab 3 = some .i64 := rfl
theorem tabAt_3 : tab 3 = some ti3 := rfl
theorem tyShape_4 : tyShape tab 4 = some (false, 1, true) := rfl
theorem isBool_4 : isBool tab 4 = true := rfl
theorem tabAt_4 : tab 4 = some ti4 := rfl
theorem tyShape_5 : tyShape tab 5 = some (false, 1, true) := rfl
theorem intKd_5 : intKd tab 5 = some .u8 := rfl
theorem tabAt_5 : tab 5 = some ti5 := rfl
theorem tyShape_12 : tyShape tab 12 = some (false, 1, true) := rfl
theorem intKd_12 : intKd tab 12 = some .u64 := rfl
theorem tabAt_12 : tab 12 = some ti12 := rfl
theorem tyShape_18 : tyShape tab 18 = some (true, 1, false) := rfl
theorem tabAt_18 : tab 18 = some ti18 := rfl
theorem tyShape_21 : tyShape tab 21 = some (false, 1, true) := rfl
theorem intKd_21 : intKd tab 21 = some .i32 := rfl
theorem tabAt_21 : tab 21 = some ti21 := rfl
theorem tyShape_22 : tyShape tab 22 = some (true, 2, true) := rfl
theorem eqsSize_22 : eqsSize tab 22 = some 2 := rfl
theorem tabAt_22 : tab 22 = some ti22 := rfl
theorem fieldOff_22_0 : fieldOff tab 22 0 = some (0, 1) := rfl
theorem fieldOff_22_1 : fieldOff tab 22 1 = some (1, 1) := rfl
theorem tyShape_23 : tyShape tab 23 = some (true, 2, true) := rfl
theorem eqsSize_23 : eqsSize tab 23 = some 2 := rfl
theorem tabAt_23 : tab 23 = some ti23 := rfl
theorem fieldOff_23_0 : fieldOff tab 23 0 = some (0, 1) := rfl
theorem fieldOff_23_1 : fieldOff tab 23 1 = some (1, 1) := rfl
theorem tyShape_24 : tyShape tab 24 = some (false, 1, false) := rfl
theorem tyShape_25 : tyShape tab 25 = some (true, 2, true) := rfl
theorem eqsSize_25 : eqsSize tab 25 = some 2 := rfl
theorem tabAt_25 : tab 25 = some ti25 := rfl
theorem fieldOff_25_0 : fieldOff tab 25 0 = some (0, 1) := rfl
theorem fieldOff_25_1 : fieldOff tab 25 1 = some (1, 1) := rfl
theorem tyShape_27 : tyShape tab 27 = some (false, 1, false) := rfl
theorem tyShape_28 : tyShape tab 28 = some (false, 1, false) := rfl
theorem isSlice_28 : isSlice tab 28 = true := rfl
theorem elemSize_28 : elemSize tab 28 = some 1 := rfl
theorem arrElem_28 : arrElem tab 28 = none := rfl
theorem tabAt_28 : tab 28 = some ti28 := rfl
theorem tyShape_30 : tyShape tab 30 = some (false, 1, false) := rfl
theorem tyShape_32 : tyShape tab 32 = some (false, 1, false) := rfl
theorem isSlice_32 : isSlice tab 32 = true := rfl
theorem elemSize_32 : elemSize tab 32 = some 2 := rfl
theorem arrElem_32 : arrElem tab 32 = none := rfl
theorem tabAt_32 : tab 32 = some ti32 := rfl
theorem tyShape_33 : tyShape tab 33 = some (false, 1, false) := rfl
theorem isSlice_33 : isSlice tab 33 = true := rfl
theorem elemSize_33 : elemSize tab 33 = some 4 := rfl
theorem arrElem_33 : arrElem tab 33 = none := rfl
theorem tabAt_33 : tab 33 = some ti33 := rfl
theorem tyShape_36 : tyShape tab 36 = some (false, 1, false) := rfl
theorem isSlice_36 : isSlice tab 36 = true := rfl
theorem elemSize_36 : elemSize tab 36 = some 2 := rfl
theorem arrElem_36 : arrElem tab 36 = none := rfl
theorem tabAt_36 : tab 36 = some ti36 := rfl
theorem tyShape_37 : tyShape tab 37 = some (false, 1, false) := rfl
theorem isSlice_37 : isSlice tab 37 = true := rfl
theorem elemSize_37 : elemSize tab 37 = some 4 := rfl
theorem arrElem_37 : arrElem tab 37 = none := rfl
theorem tabAt_37 : tab 37 = some ti37 := rfl
theorem tyShape_38 : tyShape tab 38 = some (false, 1, false) := rfl
theorem isSlice_38 : isSlice tab 38 = true := rfl
theorem elemSize_38 : elemSize tab 38 = some 3 := rfl
theorem arrElem_38 : arrElem tab 38 = none := rfl
theorem tabAt_38 : tab 38 = some ti38 := rfl
theorem tyShape_39 : tyShape tab 39 = some (false, 1, false) := rfl
theorem isSlice_39 : isSlice tab 39 = true := rfl
theorem elemSize_39 : elemSize tab 39 = some 6 := rfl
theorem arrElem_39 : arrElem tab 39 = none := rfl
theorem tabAt_39 : tab 39 = some ti39 := rfl
theorem tyShape_40 : tyShape tab 40 = some (true, 4, false) := rfl
theorem tabAt_40 : tab 40 = some ti40 := rfl
theorem fieldOff_40_0 : fieldOff tab 40 0 = some (0, 1) := rfl
theorem fieldOff_40_1 : fieldOff tab 40 1 = some (1, 1) := rfl
theorem fieldOff_40_2 : fieldOff tab 40 2 = some (2, 1) := rfl
theorem fieldOff_40_3 : fieldOff tab 40 3 = some (3, 1) := rfl
theorem tyShape_41 : tyShape tab 41 = some (true, 4, false) := rfl
theorem tabAt_41 : tab 41 = some ti41 := rfl
theorem fieldOff_41_0 : fieldOff tab 41 0 = some (0, 1) := rfl
theorem fieldOff_41_1 : fieldOff tab 41 1 = some (1, 1) := rfl
theorem fieldOff_41_2 : fieldOff tab 41 2 = some (2, 1) := rfl
theorem fieldOff_41_3 : fieldOff tab 41 3 = some (3, 1) := rfl
theorem tyShape_45 : tyShape tab 45 = some (false, 1, false) := rfl
theorem tyShape_50 : tyShape tab 50 = some (false, 1, false) := rfl
theorem tyShape_52 : tyShape tab 52 = some (false, 1, false) := rfl
theorem isSlice_52 : isSlice tab 52 = true := rfl
theorem elemSize_52 : elemSize tab 52 = some 6 := rfl
theorem arrElem_52 : arrElem tab 52 = none := rfl
theorem tabAt_52 : tab 52 = some ti52 := rfl
theorem tyShape_53 : tyShape tab 53 = some (false, 1, false) := rfl
theorem isSlice_53 : isSlice tab 53 = true := rfl
theorem elemSize_53 : elemSize tab 53 = some 1 := rfl
theorem arrElem_53 : arrElem tab 53 = none := rfl
theorem tabAt_53 : tab 53 = some ti53 := rfl
theorem tyShape_54 : tyShape tab 54 = some (true, 3, false) := rfl
theorem tabAt_54 : tab 54 = some ti54 := rfl
theorem fieldOff_54_0 : fieldOff tab 54 0 = some (0, 1) := rfl
theorem fieldOff_54_1 : fieldOff tab 54 1 = some (1, 1) := rfl
theorem fieldOff_54_2 : fieldOff tab 54 2 = some (2, 1) := rfl
theorem tyShape_55 : tyShape tab 55 = some (true, 3, false) := rfl
theorem tabAt_55 : tab 55 = some ti55 := rfl
theorem fieldOff_55_0 : fieldOff tab 55 0 = some (0, 1) := rfl
theorem fieldOff_55_1 : fieldOff tab 55 1 = some (1, 1) := rfl
theorem fieldOff_55_2 : fieldOff tab 55 2 = some (2, 1) := rfl
theorem tyShape_56 : tyShape tab 56 = some (false, 1, false) := rfl
theorem isSlice_56 : isSlice tab 56 = true := rfl
theorem elemSize_56 : elemSize tab 56 = some 1 := rfl
theorem arrElem_56 : arrElem tab 56 = none := rfl
theorem tabAt_56 : tab 56 = some ti56 := rfl
theorem tyShape_57 : tyShape tab 57 = some (false, 1, false) := rfl
theorem tyShape_59 : tyShape tab 59 = some (false, 1, false) := rfl
theorem isSlice_59 : isSlice tab 59 = true := rfl
theorem elemSize_59 : elemSize tab 59 = some 6 := rfl
theorem arrElem_59 : arrElem tab 59 = none := rfl
theorem tabAt_59 : tab 59 = some ti59 := rfl
theorem tyShape_60 : tyShape tab 60 = some (true, 3, false) := rfl
theorem tabAt_60 : tab 60 = some ti60 := rfl
theorem fieldOff_60_0 : fieldOff tab 60 0 = some (0, 1) := rfl
theorem fieldOff_60_1 : fieldOff tab 60 1 = some (1, 1) := rfl
theorem fieldOff_60_2 : fieldOff tab 60 2 = some (2, 1) := rfl
theorem tyShape_61 : tyShape tab 61 = some (true, 3, false) := rfl
theorem tabAt_61 : tab 61 = some ti61 := rfl
theorem fieldOff_61_0 : fieldOff tab 61 0 = some (0, 1) := rfl
theorem fieldOff_61_1 : fieldOff tab 61 1 = some (1, 1) := rfl
theorem fieldOff_61_2 : fieldOff tab 61 2 = some (2, 1) := rfl
theorem tyShape_64 : tyShape tab 64 = some (false, 1, false) := rfl
theorem tyShape_69 : tyShape tab 69 = some (false, 1, false) := rfl
theorem isSlice_69 : isSlice tab 69 = true := rfl
theorem elemSize_69 : elemSize tab 69 = some 3 := rfl
theorem arrElem_69 : arrElem tab 69 = none := rfl
theorem tabAt_69 : tab 69 = some ti69 := rfl
theorem tyShape_80 : tyShape tab 80 = some (false, 1, false) := rfl
theorem tyShape_81 : tyShape tab 81 = some (true, 6, false) := rfl
theorem tabAt_81 : tab 81 = some ti81 := rfl
theorem fieldOff_81_0 : fieldOff tab 81 0 = some (0, 1) := rfl
theorem fieldOff_81_1 : fieldOff tab 81 1 = some (1, 1) := rfl
theorem fieldOff_81_2 : fieldOff tab 81 2 = some (2, 1) := rfl
theorem fieldOff_81_3 : fieldOff tab 81 3 = some (3, 1) := rfl
theorem fieldOff_81_4 : fieldOff tab 81 4 = some (4, 1) := rfl
theorem fieldOff_81_5 : fieldOff tab 81 5 = some (5, 1) := rfl
theorem tyShape_82 : tyShape tab 82 = some (true, 6, false) := rfl
theorem tabAt_82 : tab 82 = some ti82 := rfl
theorem fieldOff_82_0 : fieldOff tab 82 0 = some (0, 1) := rfl
theorem fieldOff_82_1 : fieldOff tab 82 1 = some (1, 1) := rfl
theorem fieldOff_82_2 : fieldOff tab 82 2 = some (2, 1) := rfl
theorem fieldOff_82_3 : fieldOff tab 82 3 = some (3, 1) := rfl
theorem fieldOff_82_4 : fieldOff tab 82 4 = some (4, 1) := rfl
theorem fieldOff_82_5 : fieldOff tab 82 5 = some (5, 1) := rfl
theorem tyShape_83 : tyShape tab 83 = some (false, 1, false) := rfl
theorem tyShape_84 : tyShape tab 84 = some (true, 6, false) := rfl
theorem tabAt_84 : tab 84 = some ti84 := rfl
theorem fieldOff_84_0 : fieldOff tab 84 0 = some (0, 1) := rfl
theorem fieldOff_84_1 : fieldOff tab 84 1 = some (1, 1) := rfl
theorem fieldOff_84_2 : fieldOff tab 84 2 = some (2, 1) := rfl
theorem fieldOff_84_3 : fieldOff tab 84 3 = some (3, 1) := rfl
theorem fieldOff_84_4 : fieldOff tab 84 4 = some (4, 1) := rfl
theorem fieldOff_84_5 : fieldOff tab 84 5 = some (5, 1) := rfl
theorem tyShape_85 : tyShape tab 85 = some (true, 6, false) := rfl
theorem tabAt_85 : tab 85 = some ti85 := rfl
theorem fieldOff_85_0 : fieldOff tab 85 0 = some (0, 1) := rfl
theorem fieldOff_85_1 : fieldOff tab 85 1 = some (1, 1) := rfl
theorem fieldOff_85_2 : fieldOff tab 85 2 = some (2, 1) := rfl
theorem fieldOff_85_3 : fieldOff tab 85 3 = some (3, 1) := rfl
theorem fieldOff_85_4 : fieldOff tab 85 4 = some (4, 1) := rfl
theorem fieldOff_85_5 : fieldOff tab 85 5 = some (5, 1) := rfl
theorem tyShape_89 : tyShape tab 89 = some (false, 1, false) := rfl
theorem tyShape_90 : tyShape tab 90 = some (false, 1, false) := rfl
theorem tyShape_94 : tyShape tab 94 = some (false, 1, false) := rfl
theorem tyShape_96 : tyShape tab 96 = some (false, 1, false) := rfl
theorem tyShape_97 : tyShape tab 97 = some (true, 3, true) := rfl
theorem eqsSize_97 : eqsSize tab 97 = some 3 := rfl
theorem tabAt_97 : tab 97 = some ti97 := rfl
theorem fieldOff_97_0 : fieldOff tab 97 0 = some (0, 1) := rfl
theorem fieldOff_97_1 : fieldOff tab 97 1 = some (1, 1) := rfl
theorem fieldOff_97_2 : fieldOff tab 97 2 = some (2, 1) := rfl
theorem tyShape_98 : tyShape tab 98 = some (true, 3, true) := rfl
theorem eqsSize_98 : eqsSize tab 98 = some 3 := rfl
theorem tabAt_98 : tab 98 = some ti98 := rfl
theorem fieldOff_98_0 : fieldOff tab 98 0 = some (0, 1) := rfl
theorem fieldOff_98_1 : fieldOff tab 98 1 = some (1, 1) := rfl
theorem fieldOff_98_2 : fieldOff tab 98 2 = some (2, 1) := rfl
theorem tyShape_99 : tyShape tab 99 = some (false, 1, false) := rfl
theorem tyShape_100 : tyShape tab 100 = some (true, 3, true) := rfl
theorem eqsSize_100 : eqsSize tab 100 = some 3 := rfl
theorem tabAt_100 : tab 100 = some ti100 := rfl
theorem fieldOff_100_0 : fieldOff tab 100 0 = some (0, 1) := rfl
theorem fieldOff_100_1 : fieldOff tab 100 1 = some (1, 1) := rfl
theorem fieldOff_100_2 : fieldOff tab 100 2 = some (2, 1) := rfl
theorem tyShape_102 : tyShape tab 102 = some (false, 1, false) := rfl
theorem tyShape_103 : tyShape tab 103 = some (false, 1, false) := rfl
theorem isSlice_103 : isSlice tab 103 = true := rfl
theorem elemSize_103 : elemSize tab 103 = some 2 := rfl
theorem arrElem_103 : arrElem tab 103 = none := rfl
theorem tabAt_103 : tab 103 = some ti103 := rfl
theorem tyShape_104 : tyShape tab 104 = some (true, 5, false) := rfl
theorem tabAt_104 : tab 104 = some ti104 := rfl
theorem fieldOff_104_0 : fieldOff tab 104 0 = some (0, 3) := rfl
theorem fieldOff_104_1 : fieldOff tab 104 1 = some (3, 1) := rfl
theorem fieldOff_104_2 : fieldOff tab 104 2 = some (4, 1) := rfl
theorem tyShape_105 : tyShape tab 105 = some (true, 5, false) := rfl
theorem tabAt_105 : tab 105 = some ti105 := rfl
theorem fieldOff_105_0 : fieldOff tab 105 0 = some (0, 3) := rfl
theorem fieldOff_105_1 : fieldOff tab 105 1 = some (3, 1) := rfl
theorem fieldOff_105_2 : fieldOff tab 105 2 = some (4, 1) := rfl
theorem tyShape_106 : tyShape tab 106 = some (false, 1, false) := rfl
theorem tyShape_107 : tyShape tab 107 = some (false, 1, false) := rfl
theorem tyShape_108 : tyShape tab 108 = some (false, 1, false) := rfl
theorem isSlice_108 : isSlice tab 108 = true := rfl
theorem elemSize_108 : elemSize tab 108 = some 2 := rfl
theorem arrElem_108 : arrElem tab 108 = none := rfl
theorem tabAt_108 : tab 108 = some ti108 := rfl
theorem tyShape_109 : tyShape tab 109 = some (true, 5, false) := rfl
theorem tabAt_109 : tab 109 = some ti109 := rfl
theorem fieldOff_109_0 : fieldOff tab 109 0 = some (0, 3) := rfl
theorem fieldOff_109_1 : fieldOff tab 109 1 = some (3, 1) := rfl
theorem fieldOff_109_2 : fieldOff tab 109 2 = some (4, 1) := rfl
theorem tyShape_110 : tyShape tab 110 = some (true, 5, false) := rfl
theorem tabAt_110 : tab 110 = some ti110 := rfl
theorem fieldOff_110_0 : fieldOff tab 110 0 = some (0, 3) := rfl
theorem fieldOff_110_1 : fieldOff tab 110 1 = some (3, 1) := rfl
theorem fieldOff_110_2 : fieldOff tab 110 2 = some (4, 1) := rfl
theorem tyShape_112 : tyShape tab 112 = some (false, 1, false) := rfl
theorem tyShape_113 : tyShape tab 113 = some (false, 1, false) := rfl
theorem tyShape_115 : tyShape tab 115 = some (false, 1, false) := rfl
theorem tyShape_116 : tyShape tab 116 = some (false, 1, false) := rfl
theorem tyShape_117 : tyShape tab 117 = some (false, 1, false) := rfl
theorem tyShape_122 : tyShape tab 122 = some (true, 2, true) := rfl
theorem eqsSize_122 : eqsSize tab 122 = some 2 := rfl
theorem tabAt_122 : tab 122 = some ti122 := rfl
theorem fieldOff_122_0 : fieldOff tab 122 0 = some (0, 1) := rfl
theorem fieldOff_122_1 : fieldOff tab 122 1 = some (1, 1) := rfl
theorem tyShape_123 : tyShape tab 123 = some (true, 2, true) := rfl
theorem eqsSize_123 : eqsSize tab 123 = some 2 := rfl
theorem tabAt_123 : tab 123 = some ti123 := rfl
theorem fieldOff_123_0 : fieldOff tab 123 0 = some (0, 1) := rfl
theorem fieldOff_123_1 : fieldOff tab 123 1 = some (1, 1) := rfl
theorem tyShape_125 : tyShape tab 125 = some (true, 2, true) := rfl
theorem eqsSize_125 : eqsSize tab 125 = some 2 := rfl
theorem tabAt_125 : tab 125 = some ti125 := rfl
theorem fieldOff_125_0 : fieldOff tab 125 0 = some (0, 1) := rfl
theorem fieldOff_125_1 : fieldOff tab 125 1 = some (1, 1) := rfl
theorem tyShape_126 : tyShape tab 126 = some (true, 4, true) := rfl
theorem eqsSize_126 : eqsSize tab 126 = some 4 := rfl
theorem tabAt_126 : tab 126 = some ti126 := rfl
theorem fieldOff_126_0 : fieldOff tab 126 0 = some (0, 1) := rfl
theorem fieldOff_126_1 : fieldOff tab 126 1 = some (1, 1) := rfl
theorem fieldOff_126_2 : fieldOff tab 126 2 = some (2, 1) := rfl
theorem fieldOff_126_3 : fieldOff tab 126 3 = some (3, 1) := rfl
theorem tyShape_127 : tyShape tab 127 = some (true, 4, true) := rfl
theorem eqsSize_127 : eqsSize tab 127 = some 4 := rfl
theorem tabAt_127 : tab 127 = some ti127 := rfl
theorem fieldOff_127_0 : fieldOff tab 127 0 = some (0, 1) := rfl
theorem fieldOff_127_1 : fieldOff tab 127 1 = some (1, 1) := rfl
theorem fieldOff_127_2 : fieldOff tab 127 2 = some (2, 1) := rfl
theorem fieldOff_127_3 : fieldOff tab 127 3 = some (3, 1) := rfl
theorem tyShape_129 : tyShape tab 129 = some (true, 4, true) := rfl
theorem eqsSize_129 : eqsSize tab 129 = some 4 := rfl
theorem tabAt_129 : tab 129 = some ti129 := rfl
theorem fieldOff_129_0 : fieldOff tab 129 0 = some (0, 1) := rfl
theorem fieldOff_129_1 : fieldOff tab 129 1 = some (1, 1) := rfl
theorem fieldOff_129_2 : fieldOff tab 129 2 = some (2, 1) := rfl
theorem fieldOff_129_3 : fieldOff tab 129 3 = some (3, 1) := rfl
theorem tyShape_133 : tyShape tab 133 = some (false, 1, false) := rfl
theorem tyShape_134 : tyShape tab 134 = some (false, 1, false) := rfl
theorem tyShape_138 : tyShape tab 138 = some (false, 1, false) := rfl
theorem tyShape_144 : tyShape tab 144 = some (true, 32, true) := rfl
theorem arrElem_144 : arrElem tab 144 = some (32, 1) := rfl
theorem arrShape_144 : arrShape tab 144 = some (32, false, 1) := rfl
theorem tabAt_144 : tab 144 = some ti144 := rfl
theorem tyShape_145 : tyShape tab 145 = some (true, 32, true) := rfl
theorem arrElem_145 : arrElem tab 145 = some (32, 1) := rfl
theorem arrShape_145 : arrShape tab 145 = some (32, false, 1) := rfl
theorem tabAt_145 : tab 145 = some ti145 := rfl
theorem tyShape_150 : tyShape tab 150 = some (true, 3, false) := rfl
theorem tabAt_150 : tab 150 = some ti150 := rfl
theorem fieldOff_150_0 : fieldOff tab 150 0 = some (0, 1) := rfl
theorem fieldOff_150_1 : fieldOff tab 150 1 = some (1, 1) := rfl
theorem fieldOff_150_2 : fieldOff tab 150 2 = some (2, 1) := rfl
theorem tyShape_151 : tyShape tab 151 = some (true, 3, false) := rfl
theorem tabAt_151 : tab 151 = some ti151 := rfl
theorem fieldOff_151_0 : fieldOff tab 151 0 = some (0, 1) := rfl
theorem fieldOff_151_1 : fieldOff tab 151 1 = some (1, 1) := rfl
theorem fieldOff_151_2 : fieldOff tab 151 2 = some (2, 1) := rfl
theorem tyShape_154 : tyShape tab 154 = some (false, 1, false) := rfl
theorem tyShape_160 : tyShape tab 160 = some (false, 1, false) := rfl
theorem tyShape_161 : tyShape tab 161 = some (false, 1, false) := rfl
theorem tyShape_167 : tyShape tab 167 = some (false, 1, false) := rfl
theorem tyShape_168 : tyShape tab 168 = some (false, 1, false) := rfl
theorem tyShape_174 : tyShape tab 174 = some (false, 1, false) := rfl
theorem tyShape_176 : tyShape tab 176 = some (false, 1, false) := rfl
theorem tyShape_177 : tyShape tab 177 = some (true, 2, false) := rfl
theorem tabAt_177 : tab 177 = some ti177 := rfl
theorem fieldOff_177_0 : fieldOff tab 177 0 = some (0, 1) := rfl
theorem fieldOff_177_1 : fieldOff tab 177 1 = some (1, 1) := rfl
theorem tyShape_178 : tyShape tab 178 = some (true, 2, false) := rfl
theorem tabAt_178 : tab 178 = some ti178 := rfl
theorem fieldOff_178_0 : fieldOff tab 178 0 = some (0, 1) := rfl
theorem fieldOff_178_1 : fieldOff tab 178 1 = some (1, 1) := rfl
theorem tyShape_179 : tyShape tab 179 = some (false, 1, false) := rfl
theorem tyShape_182 : tyShape tab 182 = some (true, 6, false) := rfl
theorem tabAt_182 : tab 182 = some ti182 := rfl
theorem fieldOff_182_0 : fieldOff tab 182 0 = some (0, 1) := rfl
theorem fieldOff_182_1 : fieldOff tab 182 1 = some (1, 1) := rfl
theorem fieldOff_182_2 : fieldOff tab 182 2 = some (2, 1) := rfl
theorem fieldOff_182_3 : fieldOff tab 182 3 = some (3, 3) := rfl
theorem tyShape_183 : tyShape tab 183 = some (true, 6, false) := rfl
theorem tabAt_183 : tab 183 = some ti183 := rfl
theorem fieldOff_183_0 : fieldOff tab 183 0 = some (0, 1) := rfl
theorem fieldOff_183_1 : fieldOff tab 183 1 = some (1, 1) := rfl
theorem fieldOff_183_2 : fieldOff tab 183 2 = some (2, 1) := rfl
theorem fieldOff_183_3 : fieldOff tab 183 3 = some (3, 3) := rfl
theorem tyShape_185 : tyShape tab 185 = some (false, 1, false) := rfl
theorem tyShape_186 : tyShape tab 186 = some (true, 3, true) := rfl
theorem eqsSize_186 : eqsSize tab 186 = some 3 := rfl
theorem tabAt_186 : tab 186 = some ti186 := rfl
theorem fieldOff_186_0 : fieldOff tab 186 0 = some (0, 1) := rfl
theorem fieldOff_186_1 : fieldOff tab 186 1 = some (1, 1) := rfl
theorem fieldOff_186_2 : fieldOff tab 186 2 = some (2, 1) := rfl
theorem tyShape_187 : tyShape tab 187 = some (true, 3, true) := rfl
theorem eqsSize_187 : eqsSize tab 187 = some 3 := rfl
theorem tabAt_187 : tab 187 = some ti187 := rfl
theorem fieldOff_187_0 : fieldOff tab 187 0 = some (0, 1) := rfl
theorem fieldOff_187_1 : fieldOff tab 187 1 = some (1, 1) := rfl
theorem fieldOff_187_2 : fieldOff tab 187 2 = some (2, 1) := rfl
theorem tyShape_188 : tyShape tab 188 = some (false, 1, false) := rfl
theorem tyShape_197 : tyShape tab 197 = some (false, 1, false) := rfl
theorem tyShape_198 : tyShape tab 198 = some (false, 1, false) := rfl
theorem isSlice_198 : isSlice tab 198 = true := rfl
theorem elemSize_198 : elemSize tab 198 = some 1 := rfl
theorem arrElem_198 : arrElem tab 198 = none := rfl
theorem tabAt_198 : tab 198 = some ti198 := rfl
theorem tyShape_204 : tyShape tab 204 = some (false, 1, false) := rfl
theorem tyShape_206 : tyShape tab 206 = some (false, 1, false) := rfl
theorem tabAt_206 : tab 206 = some ti206 := rfl
theorem tyShape_212 : tyShape tab 212 = some (false, 1, false) := rfl
theorem isSlice_212 : isSlice tab 212 = true := rfl
theorem elemSize_212 : elemSize tab 212 = some 1 := rfl
theorem arrElem_212 : arrElem tab 212 = none := rfl
theorem tabAt_212 : tab 212 = some ti212 := rfl
theorem tyShape_215 : tyShape tab 215 = some (false, 1, true) := rfl
theorem intKd_215 : intKd tab 215 = some .u64 := rfl
theorem tabAt_215 : tab 215 = some ti215 := rfl
theorem tyShape_217 : tyShape tab 217 = some (false, 1, true) := rfl
theorem intKd_217 : intKd tab 217 = some .u32 := rfl
theorem tabAt_217 : tab 217 = some ti217 := rfl
theorem tyShape_219 : tyShape tab 219 = some (false, 1, true) := rfl
theorem intKd_219 : intKd tab 219 = some .u64 := rfl
theorem tabAt_219 : tab 219 = some ti219 := rfl
theorem tyShape_223 : tyShape tab 223 = some (true, 0, false) := rfl
theorem tabAt_223 : tab 223 = some ti223 := rfl
theorem tyShape_224 : tyShape tab 224 = some (true, 0, false) := rfl
theorem tabAt_224 : tab 224 = some ti224 := rfl
theorem fieldOff_224_0 : fieldOff tab 224 0 = some (0, 0) := rfl
theorem tyShape_226 : tyShape tab 226 = some (false, 1, false) := rfl

end Go.Proofs.Ytdaemhaecjldaaa
