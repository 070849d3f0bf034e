/- Shared texts K (part 4): AiT, W1, W2, W3, W4, W5, W6, W7, W8, W9, W10, W11, W12, W13, W14, W15, W16, W17, W18, W19, W20, W21, W22, W23, W24, W25, W29, W33, W36 -/
import Derived.Test.YthcfafpjkbbaoaaGreatChecked
import Derived.Test.YthcfafpjkbbaoaaGreatK3

set_option linter.unusedSimpArgs false
set_option linter.unusedVariables false

/- The table of the types of this program, printed by wip/gen/tabgen.py out of the seat's translation; that it is right is one closed computation. -/
namespace Go.Proofs.YthcfafpjkbbaoaaGreat
open Go Go.RowKit

def ti2 : TI := ⟨.int .i64, 1, 8, true, false, [.int .i64 0]⟩
def ti3 : TI := ⟨.int .i64, 1, 8, true, false, [.int .i64 0]⟩
def ti4 : TI := ⟨.bool, 1, 1, true, false, [.bool false]⟩
def ti5 : TI := ⟨.int .u8, 1, 1, true, false, [.int .u8 0]⟩
def ti12 : TI := ⟨.int .u64, 1, 8, true, false, [.int .u64 0]⟩
def ti18 : TI := ⟨.struct [(0, 17)], 1, 8, false, false, [.top]⟩
def ti21 : TI := ⟨.int .i32, 1, 4, true, false, [.int .i32 0]⟩
def ti22 : TI := ⟨.slice 5, 1, 24, false, false, [.sl (some false) []]⟩
def ti23 : TI := ⟨.slice 132, 1, 24, false, false, [.sl (some false) []]⟩
def ti24 : TI := ⟨.slice 37, 1, 24, false, false, [.sl (some false) []]⟩
def ti25 : TI := ⟨.slice 3, 1, 24, false, false, [.sl (some false) []]⟩
def ti26 : TI := ⟨.struct [(0, 23), (1, 24), (2, 25)], 3, 72, false, false, [.sl (some false) [], .sl (some false) [], .sl (some false) []]⟩
def ti27 : TI := ⟨.struct [(0, 23), (1, 24), (2, 25)], 3, 72, false, false, [.sl (some false) [], .sl (some false) [], .sl (some false) []]⟩
def ti28 : TI := ⟨.slice 86, 1, 24, false, false, [.sl (some false) []]⟩
def ti33 : TI := ⟨.slice 4, 1, 24, false, false, [.sl (some false) []]⟩
def ti35 : TI := ⟨.slice 67, 1, 24, false, false, [.sl (some false) []]⟩
def ti36 : TI := ⟨.struct [(0, 3), (1, 3), (2, 3), (3, 35), (4, 3), (5, 3)], 6, 64, false, false, [.int .i64 0, .int .i64 0, .int .i64 0, .sl (some false) [], .int .i64 0, .int .i64 0]⟩
def ti37 : TI := ⟨.struct [(0, 3), (1, 3), (2, 3), (3, 35), (4, 3), (5, 3)], 6, 64, false, false, [.int .i64 0, .int .i64 0, .int .i64 0, .sl (some false) [], .int .i64 0, .int .i64 0]⟩
def ti38 : TI := ⟨.other, 1, 8, false, false, [.top]⟩
def ti41 : TI := ⟨.slice 94, 1, 24, false, false, [.sl (some false) []]⟩
def ti42 : TI := ⟨.struct [(0, 27), (3, 41), (4, 25)], 5, 120, false, false, [.sl (some false) [], .sl (some false) [], .sl (some false) [], .sl (some false) [], .sl (some false) []]⟩
def ti43 : TI := ⟨.struct [(0, 27), (3, 41), (4, 25)], 5, 120, false, false, [.sl (some false) [], .sl (some false) [], .sl (some false) [], .sl (some false) [], .sl (some false) []]⟩
def ti45 : TI := ⟨.other, 1, 8, false, false, [.top]⟩
def ti46 : TI := ⟨.other, 1, 8, false, false, [.top]⟩
def ti47 : TI := ⟨.other, 1, 8, false, false, [.top]⟩
def ti48 : TI := ⟨.other, 1, 8, false, false, [.top]⟩
def ti54 : TI := ⟨.other, 1, 8, false, false, [.top]⟩
def ti66 : TI := ⟨.struct [(0, 3), (1, 3), (2, 3), (3, 3)], 4, 32, true, true, [.int .i64 0, .int .i64 0, .int .i64 0, .int .i64 0]⟩
def ti67 : TI := ⟨.struct [(0, 3), (1, 3), (2, 3), (3, 3)], 4, 32, true, true, [.int .i64 0, .int .i64 0, .int .i64 0, .int .i64 0]⟩
def ti68 : TI := ⟨.other, 1, 8, false, false, [.top]⟩
def ti71 : TI := ⟨.other, 1, 8, false, false, [.top]⟩
def ti75 : TI := ⟨.struct [(0, 4), (1, 23), (2, 23)], 3, 56, false, false, [.bool false, .sl (some false) [], .sl (some false) []]⟩
def ti76 : TI := ⟨.struct [(0, 4), (1, 23), (2, 23)], 3, 56, false, false, [.bool false, .sl (some false) [], .sl (some false) []]⟩
def ti85 : TI := ⟨.struct [(0, 3), (1, 3), (2, 3)], 3, 24, true, true, [.int .i64 0, .int .i64 0, .int .i64 0]⟩
def ti86 : TI := ⟨.struct [(0, 3), (1, 3), (2, 3)], 3, 24, true, true, [.int .i64 0, .int .i64 0, .int .i64 0]⟩
def ti87 : TI := ⟨.other, 1, 8, false, false, [.top]⟩
def ti93 : TI := ⟨.struct [(0, 3), (1, 3)], 2, 16, true, true, [.int .i64 0, .int .i64 0]⟩
def ti94 : TI := ⟨.struct [(0, 3), (1, 3)], 2, 16, true, true, [.int .i64 0, .int .i64 0]⟩
def ti96 : TI := ⟨.other, 1, 8, false, false, [.top]⟩
def ti97 : TI := ⟨.other, 1, 8, false, false, [.top]⟩
def ti98 : TI := ⟨.other, 1, 8, false, false, [.top]⟩
def ti99 : TI := ⟨.other, 1, 8, false, false, [.top]⟩
def ti100 : TI := ⟨.other, 1, 8, false, false, [.top]⟩
def ti103 : TI := ⟨.other, 1, 8, false, false, [.top]⟩
def ti105 : TI := ⟨.other, 1, 8, false, false, [.top]⟩
def ti106 : TI := ⟨.other, 1, 8, false, false, [.top]⟩
def ti110 : TI := ⟨.other, 1, 8, false, false, [.top]⟩
def ti117 : TI := ⟨.arr 32 3, 32, 256, true, false, List.replicate 32 (.int .i64 0)⟩
def ti118 : TI := ⟨.arr 32 3, 32, 256, true, false, List.replicate 32 (.int .i64 0)⟩
def ti125 : TI := ⟨.other, 1, 8, false, false, [.top]⟩
def ti131 : TI := ⟨.struct [(0, 3), (1, 3)], 2, 16, true, true, [.int .i64 0, .int .i64 0]⟩
def ti132 : TI := ⟨.struct [(0, 3), (1, 3)], 2, 16, true, true, [.int .i64 0, .int .i64 0]⟩
def ti137 : TI := ⟨.slice 25, 1, 24, false, false, [.sl (some false) []]⟩
def ti140 : TI := ⟨.other, 1, 8, false, false, [.top]⟩
def ti141 : TI := ⟨.other, 1, 8, false, false, [.top]⟩
def ti142 : TI := ⟨.other, 1, 8, false, false, [.top]⟩
def ti145 : TI := ⟨.struct [(0, 22), (1, 3)], 2, 32, false, false, [.sl (some false) [], .int .i64 0]⟩
def ti146 : TI := ⟨.struct [(0, 22), (1, 3)], 2, 32, false, false, [.sl (some false) [], .int .i64 0]⟩
def ti151 : TI := ⟨.slice 76, 1, 24, false, false, [.sl (some false) []]⟩
def ti164 : TI := ⟨.map 3 3, 1, 8, false, false, [.top]⟩
def ti173 : TI := ⟨.other, 1, 8, false, false, [.top]⟩
def ti178 : TI := ⟨.int .u64, 1, 8, true, false, [.int .u64 0]⟩
def ti185 : TI := ⟨.int .u32, 1, 4, true, false, [.int .u32 0]⟩
def ti187 : TI := ⟨.int .u64, 1, 8, true, false, [.int .u64 0]⟩
def ti188 : TI := ⟨.slice 23, 1, 24, false, false, [.sl (some false) []]⟩
def ti194 : TI := ⟨.arr 0 16, 0, 0, false, false, []⟩
def ti195 : TI := ⟨.struct [(0, 194)], 0, 0, false, false, []⟩

def tabL : List (Nat × TI) := [(2, ti2), (3, ti3), (4, ti4), (5, ti5), (12, ti12), (18, ti18), (21, ti21), (22, ti22), (23, ti23), (24, ti24), (25, ti25), (26, ti26), (27, ti27), (28, ti28), (33, ti33), (35, ti35), (36, ti36), (37, ti37), (38, ti38), (41, ti41), (42, ti42), (43, ti43), (45, ti45), (46, ti46), (47, ti47), (48, ti48), (54, ti54), (66, ti66), (67, ti67), (68, ti68), (71, ti71), (75, ti75), (76, ti76), (85, ti85), (86, ti86), (87, ti87), (93, ti93), (94, ti94), (96, ti96), (97, ti97), (98, ti98), (99, ti99), (100, ti100), (103, ti103), (105, ti105), (106, ti106), (110, ti110), (117, ti117), (118, ti118), (125, ti125), (131, ti131), (132, ti132), (137, ti137), (140, ti140), (141, ti141), (142, ti142), (145, ti145), (146, ti146), (151, ti151), (164, ti164), (173, ti173), (178, ti178), (185, ti185), (187, ti187), (188, ti188), (194, ti194), (195, ti195)]

def tabF : List (Nat × TI) → Nat → Option TI
  | [], _ => none
  | (k, i) :: r, t => if t = k then some i else tabF r t

def tab : Tab := tabF tabL

theorem tabF_ok {P : Program} : ∀ (l : List (Nat × TI)), (l.all fun p => tiOk P p.1 p.2) = true → ∀ t i, tabF l t = some i → tiOk P t i = true
  | [], _, t, i, h => by cases h
  | (k, j) :: r, hl, t, i, h => by
    rw [List.all_cons, Bool.and_eq_true] at hl
    have h' : (if t = k then some j else tabF r t) = some i := h
    split at h'
    · rename_i e; cases h'; rw [e]; exact hl.1
    · exact tabF_ok r hl.2 t i h'

theorem tab_ok : TabOk Tryz.prog tab := ⟨tabF_ok tabL (by kernel_rfl)⟩

set_option maxRecDepth 20000
theorem tyShape_2 : tyShape tab 2 = some (false, 1, true) := rfl
theorem intKd_2 : intKd tab 2 = some .i64 := rfl
theorem tabAt_2 : tab 2 = some ti2 := rfl
theorem tyShape_3 : tyShape tab 3 = some (false, 1, true) := rfl
theorem intKd_3 : intKd tab 3 = some .i64 := rfl
theorem tabAt_3 : tab 3 = some ti3 := rfl
theorem tyShape_4 : tyShape tab 4 = some (false, 1, true) := rfl
theorem isBool_4 : isBool tab 4 = true := rfl
theorem tabAt_4 : tab 4 = some ti4 := rfl
theorem tyShape_5 : tyShape tab 5 = some (false, 1, true) := rfl
theorem intKd_5 : intKd tab 5 = some .u8 := rfl
theorem tabAt_5 : tab 5 = some ti5 := rfl
theorem tyShape_12 : tyShape tab 12 = some (false, 1, true) := rfl
theorem intKd_12 : intKd tab 12 = some .u64 := rfl
theorem tabAt_12 : tab 12 = some ti12 := rfl
theorem tyShape_18 : tyShape tab 18 = some (true, 1, false) := rfl
theorem tabAt_18 : tab 18 = some ti18 := rfl
theorem tyShape_21 : tyShape tab 21 = some (false, 1, true) := rfl
theorem intKd_21 : intKd tab 21 = some .i32 := rfl
theorem tabAt_21 : tab 21 = some ti21 := rfl
theorem tyShape_22 : tyShape tab 22 = some (false, 1, false) := rfl
theorem isSlice_22 : isSlice tab 22 = true := rfl
theorem elemInfo_22 : elemInfo tab 22 = some ti5 := rfl
theorem elemSize_22 : elemSize tab 22 = some 1 := rfl
theorem arrElem_22 : arrElem tab 22 = none := rfl
theorem tabAt_22 : tab 22 = some ti22 := rfl
theorem tyShape_23 : tyShape tab 23 = some (false, 1, false) := rfl
theorem isSlice_23 : isSlice tab 23 = true := rfl
theorem elemInfo_23 : elemInfo tab 23 = some ti132 := rfl
theorem elemSize_23 : elemSize tab 23 = some 2 := rfl
theorem arrElem_23 : arrElem tab 23 = none := rfl
theorem tabAt_23 : tab 23 = some ti23 := rfl
theorem tyShape_24 : tyShape tab 24 = some (false, 1, false) := rfl
theorem isSlice_24 : isSlice tab 24 = true := rfl
theorem elemInfo_24 : elemInfo tab 24 = some ti37 := rfl
theorem elemSize_24 : elemSize tab 24 = some 6 := rfl
theorem arrElem_24 : arrElem tab 24 = none := rfl
theorem tabAt_24 : tab 24 = some ti24 := rfl
theorem tyShape_25 : tyShape tab 25 = some (false, 1, false) := rfl
theorem isSlice_25 : isSlice tab 25 = true := rfl
theorem elemInfo_25 : elemInfo tab 25 = some ti3 := rfl
theorem elemSize_25 : elemSize tab 25 = some 1 := rfl
theorem arrElem_25 : arrElem tab 25 = none := rfl
theorem tabAt_25 : tab 25 = some ti25 := rfl
theorem tyShape_26 : tyShape tab 26 = some (true, 3, false) := rfl
theorem tabAt_26 : tab 26 = some ti26 := rfl
theorem fieldOff_26_0 : fieldOff tab 26 0 = some (0, 1) := rfl
theorem fieldOff_26_1 : fieldOff tab 26 1 = some (1, 1) := rfl
theorem fieldOff_26_2 : fieldOff tab 26 2 = some (2, 1) := rfl
theorem tyShape_27 : tyShape tab 27 = some (true, 3, false) := rfl
theorem tabAt_27 : tab 27 = some ti27 := rfl
theorem fieldOff_27_0 : fieldOff tab 27 0 = some (0, 1) := rfl
theorem fieldOff_27_1 : fieldOff tab 27 1 = some (1, 1) := rfl
theorem fieldOff_27_2 : fieldOff tab 27 2 = some (2, 1) := rfl
theorem tyShape_28 : tyShape tab 28 = some (false, 1, false) := rfl
theorem isSlice_28 : isSlice tab 28 = true := rfl
theorem elemInfo_28 : elemInfo tab 28 = some ti86 := rfl
theorem elemSize_28 : elemSize tab 28 = some 3 := rfl
theorem arrElem_28 : arrElem tab 28 = none := rfl
theorem tabAt_28 : tab 28 = some ti28 := rfl
theorem tyShape_33 : tyShape tab 33 = some (false, 1, false) := rfl
theorem isSlice_33 : isSlice tab 33 = true := rfl
theorem elemInfo_33 : elemInfo tab 33 = some ti4 := rfl
theorem elemSize_33 : elemSize tab 33 = some 1 := rfl
theorem arrElem_33 : arrElem tab 33 = none := rfl
theorem tabAt_33 : tab 33 = some ti33 := rfl
theorem tyShape_35 : tyShape tab 35 = some (false, 1, false) := rfl
theorem isSlice_35 : isSlice tab 35 = true := rfl
theorem elemInfo_35 : elemInfo tab 35 = some ti67 := rfl
theorem elemSize_35 : elemSize tab 35 = some 4 := rfl
theorem arrElem_35 : arrElem tab 35 = none := rfl
theorem tabAt_35 : tab 35 = some ti35 := rfl
theorem tyShape_36 : tyShape tab 36 = some (true, 6, false) := rfl
theorem tabAt_36 : tab 36 = some ti36 := rfl
theorem fieldOff_36_0 : fieldOff tab 36 0 = some (0, 1) := rfl
theorem fieldOff_36_1 : fieldOff tab 36 1 = some (1, 1) := rfl
theorem fieldOff_36_2 : fieldOff tab 36 2 = some (2, 1) := rfl
theorem fieldOff_36_3 : fieldOff tab 36 3 = some (3, 1) := rfl
theorem fieldOff_36_4 : fieldOff tab 36 4 = some (4, 1) := rfl
theorem fieldOff_36_5 : fieldOff tab 36 5 = some (5, 1) := rfl
theorem tyShape_37 : tyShape tab 37 = some (true, 6, false) := rfl
theorem tabAt_37 : tab 37 = some ti37 := rfl
theorem fieldOff_37_0 : fieldOff tab 37 0 = some (0, 1) := rfl
theorem fieldOff_37_1 : fieldOff tab 37 1 = some (1, 1) := rfl
theorem fieldOff_37_2 : fieldOff tab 37 2 = some (2, 1) := rfl
theorem fieldOff_37_3 : fieldOff tab 37 3 = some (3, 1) := rfl
theorem fieldOff_37_4 : fieldOff tab 37 4 = some (4, 1) := rfl
theorem fieldOff_37_5 : fieldOff tab 37 5 = some (5, 1) := rfl
theorem tyShape_38 : tyShape tab 38 = some (false, 1, false) := rfl
theorem tyShape_41 : tyShape tab 41 = some (false, 1, false) := rfl
theorem isSlice_41 : isSlice tab 41 = true := rfl
theorem elemInfo_41 : elemInfo tab 41 = some ti94 := rfl
theorem elemSize_41 : elemSize tab 41 = some 2 := rfl
theorem arrElem_41 : arrElem tab 41 = none := rfl
theorem tabAt_41 : tab 41 = some ti41 := rfl
theorem tyShape_42 : tyShape tab 42 = some (true, 5, false) := rfl
theorem tabAt_42 : tab 42 = some ti42 := rfl
theorem fieldOff_42_0 : fieldOff tab 42 0 = some (0, 3) := rfl
theorem fieldOff_42_1 : fieldOff tab 42 1 = some (3, 1) := rfl
theorem fieldOff_42_2 : fieldOff tab 42 2 = some (4, 1) := rfl
theorem tyShape_43 : tyShape tab 43 = some (true, 5, false) := rfl
theorem tabAt_43 : tab 43 = some ti43 := rfl
theorem fieldOff_43_0 : fieldOff tab 43 0 = some (0, 3) := rfl
theorem fieldOff_43_1 : fieldOff tab 43 1 = some (3, 1) := rfl
theorem fieldOff_43_2 : fieldOff tab 43 2 = some (4, 1) := rfl
theorem tyShape_45 : tyShape tab 45 = some (false, 1, false) := rfl
theorem tyShape_46 : tyShape tab 46 = some (false, 1, false) := rfl
theorem tyShape_47 : tyShape tab 47 = some (false, 1, false) := rfl
theorem tyShape_48 : tyShape tab 48 = some (false, 1, false) := rfl
theorem tyShape_54 : tyShape tab 54 = some (false, 1, false) := rfl
theorem tyShape_66 : tyShape tab 66 = some (true, 4, true) := rfl
theorem eqsSize_66 : eqsSize tab 66 = some 4 := rfl
theorem tabAt_66 : tab 66 = some ti66 := rfl
theorem fieldOff_66_0 : fieldOff tab 66 0 = some (0, 1) := rfl
theorem fieldOff_66_1 : fieldOff tab 66 1 = some (1, 1) := rfl
theorem fieldOff_66_2 : fieldOff tab 66 2 = some (2, 1) := rfl
theorem fieldOff_66_3 : fieldOff tab 66 3 = some (3, 1) := rfl
theorem tyShape_67 : tyShape tab 67 = some (true, 4, true) := rfl
theorem eqsSize_67 : eqsSize tab 67 = some 4 := rfl
theorem tabAt_67 : tab 67 = some ti67 := rfl
theorem fieldOff_67_0 : fieldOff tab 67 0 = some (0, 1) := rfl
theorem fieldOff_67_1 : fieldOff tab 67 1 = some (1, 1) := rfl
theorem fieldOff_67_2 : fieldOff tab 67 2 = some (2, 1) := rfl
theorem fieldOff_67_3 : fieldOff tab 67 3 = some (3, 1) := rfl
theorem tyShape_68 : tyShape tab 68 = some (false, 1, false) := rfl
theorem tyShape_71 : tyShape tab 71 = some (false, 1, false) := rfl
theorem tyShape_75 : tyShape tab 75 = some (true, 3, false) := rfl
theorem tabAt_75 : tab 75 = some ti75 := rfl
theorem fieldOff_75_0 : fieldOff tab 75 0 = some (0, 1) := rfl
theorem fieldOff_75_1 : fieldOff tab 75 1 = some (1, 1) := rfl
theorem fieldOff_75_2 : fieldOff tab 75 2 = some (2, 1) := rfl
theorem tyShape_76 : tyShape tab 76 = some (true, 3, false) := rfl
theorem tabAt_76 : tab 76 = some ti76 := rfl
theorem fieldOff_76_0 : fieldOff tab 76 0 = some (0, 1) := rfl
theorem fieldOff_76_1 : fieldOff tab 76 1 = some (1, 1) := rfl
theorem fieldOff_76_2 : fieldOff tab 76 2 = some (2, 1) := rfl
theorem tyShape_85 : tyShape tab 85 = some (true, 3, true) := rfl
theorem eqsSize_85 : eqsSize tab 85 = some 3 := rfl
theorem tabAt_85 : tab 85 = some ti85 := rfl
theorem fieldOff_85_0 : fieldOff tab 85 0 = some (0, 1) := rfl
theorem fieldOff_85_1 : fieldOff tab 85 1 = some (1, 1) := rfl
theorem fieldOff_85_2 : fieldOff tab 85 2 = some (2, 1) := rfl
theorem tyShape_86 : tyShape tab 86 = some (true, 3, true) := rfl
theorem eqsSize_86 : eqsSize tab 86 = some 3 := rfl
theorem tabAt_86 : tab 86 = some ti86 := rfl
theorem fieldOff_86_0 : fieldOff tab 86 0 = some (0, 1) := rfl
theorem fieldOff_86_1 : fieldOff tab 86 1 = some (1, 1) := rfl
theorem fieldOff_86_2 : fieldOff tab 86 2 = some (2, 1) := rfl
theorem tyShape_87 : tyShape tab 87 = some (false, 1, false) := rfl
theorem tyShape_93 : tyShape tab 93 = some (true, 2, true) := rfl
theorem eqsSize_93 : eqsSize tab 93 = some 2 := rfl
theorem tabAt_93 : tab 93 = some ti93 := rfl
theorem fieldOff_93_0 : fieldOff tab 93 0 = some (0, 1) := rfl
theorem fieldOff_93_1 : fieldOff tab 93 1 = some (1, 1) := rfl
theorem tyShape_94 : tyShape tab 94 = some (true, 2, true) := rfl
theorem eqsSize_94 : eqsSize tab 94 = some 2 := rfl
theorem tabAt_94 : tab 94 = some ti94 := rfl
theorem fieldOff_94_0 : fieldOff tab 94 0 = some (0, 1) := rfl
theorem fieldOff_94_1 : fieldOff tab 94 1 = some (1, 1) := rfl
theorem tyShape_96 : tyShape tab 96 = some (false, 1, false) := rfl
theorem tyShape_97 : tyShape tab 97 = some (false, 1, false) := rfl
theorem tyShape_98 : tyShape tab 98 = some (false, 1, false) := rfl
theorem tyShape_99 : tyShape tab 99 = some (false, 1, false) := rfl
theorem tyShape_100 : tyShape tab 100 = some (false, 1, false) := rfl
theorem tyShape_103 : tyShape tab 103 = some (false, 1, false) := rfl
theorem tyShape_105 : tyShape tab 105 = some (false, 1, false) := rfl
theorem tyShape_106 : tyShape tab 106 = some (false, 1, false) := rfl
theorem tyShape_110 : tyShape tab 110 = some (false, 1, false) := rfl
theorem tyShape_117 : tyShape tab 117 = some (true, 32, true) := rfl
theorem arrElem_117 : arrElem tab 117 = some (32, 1) := rfl
theorem arrShape_117 : arrShape tab 117 = some (32, false, 1) := rfl
theorem tabAt_117 : tab 117 = some ti117 := rfl
theorem tyShape_118 : tyShape tab 118 = some (true, 32, true) := rfl
theorem arrElem_118 : arrElem tab 118 = some (32, 1) := rfl
theorem arrShape_118 : arrShape tab 118 = some (32, false, 1) := rfl
theorem tabAt_118 : tab 118 = some ti118 := rfl
theorem tyShape_125 : tyShape tab 125 = some (false, 1, false) := rfl
theorem tyShape_131 : tyShape tab 131 = some (true, 2, true) := rfl
theorem eqsSize_131 : eqsSize tab 131 = some 2 := rfl
theorem tabAt_131 : tab 131 = some ti131 := rfl
theorem fieldOff_131_0 : fieldOff tab 131 0 = some (0, 1) := rfl
theorem fieldOff_131_1 : fieldOff tab 131 1 = some (1, 1) := rfl
theorem tyShape_132 : tyShape tab 132 = some (true, 2, true) := rfl
theorem eqsSize_132 : eqsSize tab 132 = some 2 := rfl
theorem tabAt_132 : tab 132 = some ti132 := rfl
theorem fieldOff_132_0 : fieldOff tab 132 0 = some (0, 1) := rfl
theorem fieldOff_132_1 : fieldOff tab 132 1 = some (1, 1) := rfl
theorem tyShape_137 : tyShape tab 137 = some (false, 1, false) := rfl
theorem isSlice_137 : isSlice tab 137 = true := rfl
theorem elemInfo_137 : elemInfo tab 137 = some ti25 := rfl
theorem elemSize_137 : elemSize tab 137 = some 1 := rfl
theorem arrElem_137 : arrElem tab 137 = none := rfl
theorem tabAt_137 : tab 137 = some ti137 := rfl
theorem tyShape_140 : tyShape tab 140 = some (false, 1, false) := rfl
theorem tyShape_141 : tyShape tab 141 = some (false, 1, false) := rfl
theorem tyShape_142 : tyShape tab 142 = some (false, 1, false) := rfl
theorem tyShape_145 : tyShape tab 145 = some (true, 2, false) := rfl
theorem tabAt_145 : tab 145 = some ti145 := rfl
theorem fieldOff_145_0 : fieldOff tab 145 0 = some (0, 1) := rfl
theorem fieldOff_145_1 : fieldOff tab 145 1 = some (1, 1) := rfl
theorem tyShape_146 : tyShape tab 146 = some (true, 2, false) := rfl
theorem tabAt_146 : tab 146 = some ti146 := rfl
theorem fieldOff_146_0 : fieldOff tab 146 0 = some (0, 1) := rfl
theorem fieldOff_146_1 : fieldOff tab 146 1 = some (1, 1) := rfl
theorem tyShape_151 : tyShape tab 151 = some (false, 1, false) := rfl
theorem isSlice_151 : isSlice tab 151 = true := rfl
theorem elemInfo_151 : elemInfo tab 151 = some ti76 := rfl
theorem elemSize_151 : elemSize tab 151 = some 3 := rfl
theorem arrElem_151 : arrElem tab 151 = none := rfl
theorem tabAt_151 : tab 151 = some ti151 := rfl
theorem tyShape_164 : tyShape tab 164 = some (false, 1, false) := rfl
theorem mapTy_164 : mapTy tab 164 = some (3, 3) := rfl
theorem tabAt_164 : tab 164 = some ti164 := rfl
theorem tyShape_173 : tyShape tab 173 = some (false, 1, false) := rfl
theorem tyShape_178 : tyShape tab 178 = some (false, 1, true) := rfl
theorem intKd_178 : intKd tab 178 = some .u64 := rfl
theorem tabAt_178 : tab 178 = some ti178 := rfl
theorem tyShape_185 : tyShape tab 185 = some (false, 1, true) := rfl
theorem intKd_185 : intKd tab 185 = some .u32 := rfl
theorem tabAt_185 : tab 185 = some ti185 := rfl
theorem tyShape_187 : tyShape tab 187 = some (false, 1, true) := rfl
theorem intKd_187 : intKd tab 187 = some .u64 := rfl
theorem tabAt_187 : tab 187 = some ti187 := rfl
theorem tyShape_188 : tyShape tab 188 = some (false, 1, false) := rfl
theorem isSlice_188 : isSlice tab 188 = true := rfl
theorem elemInfo_188 : elemInfo tab 188 = some ti23 := rfl
theorem elemSize_188 : elemSize tab 188 = some 1 := rfl
theorem arrElem_188 : arrElem tab 188 = none := rfl
theorem tabAt_188 : tab 188 = some ti188 := rfl
theorem tyShape_194 : tyShape tab 194 = some (true, 0, false) := rfl
theorem tabAt_194 : tab 194 = some ti194 := rfl
theorem tyShape_195 : tyShape tab 195 = some (true, 0, false) := rfl
theorem tabAt_195 : tab 195 = some ti195 := rfl
theorem fieldOff_195_0 : fieldOff tab 195 0 = some (0, 0) := rfl

attribute [go_sem] bothT bothF codeK regS stillStep stillK nilCheckK sliceK boundK buildSliceK partsL purLLK purLK purK nnOf regK stepK opK guardAt dstOk startSt argsIn argIn AState.put AState.get AState.blk AState.ev evC getL AState.app thenK inBlockK binK intK unK pick2K pickK pickW unMay AV.scal exitK resK expPL expP expC expL boxK packA vals builtinK lenK maxK minK allocK boxOpK partCells storeK storeEltK makeSliceK madeZ Option.isNone_none Option.isNone_some storeVarK spliceL setCells fieldAddrK indexAddrK loadK cellsK fieldK indexK extractK convertK buildK buildL callK boxOf argsK argP argL argC noTP noT newOk callSt imp impB impP impPB impL impLB impC impCB impT impTB cbase deadL slFreeR slFreeP slFree List.map_cons List.map_nil List.append_nil List.nil_append List.cons_append List.nodup_nil List.all_cons List.all_nil List.length_cons List.length_nil List.getElem?_cons_zero List.getElem?_cons_succ List.drop_zero List.drop_succ_cons List.take_succ_cons List.take_zero List.getD_cons_zero List.getD_cons_succ List.set_cons_zero List.set_cons_succ List.replicate_succ List.replicate_zero List.take_nil List.drop_nil Nat.add_zero Nat.zero_add if_true if_false ite_true ite_false and_true true_and and_false false_and or_true true_or or_false false_or not_false_eq_true not_true_eq_false ne_eq Bool.or_false Bool.false_or Bool.or_true Bool.true_or AV.one bne_self_eq_false beq_self_eq_true AV.oneAll Bool.and_true Bool.and_false Bool.true_and Bool.false_and Bool.not_true Bool.not_false Bool.false_eq_true cond_true cond_false forall_eq' forall_const false_implies implies_true exists_eq_left' Option.some.injEq Option.isSome_some Option.isSome_none Option.getD_some Option.getD_none AV.bool.injEq AV.int.injEq AV.agg.injEq List.cons.injEq List.mem_nil_iff List.not_mem_nil List.mem_cons stillV appendOpK appendK appBase srcK drawK recheck sameAt floK intPair makeOk makeFuncK makeMapK insertK mapIns lookupK pureB stillB List.isEmpty_nil List.isEmpty_cons List.take_length List.toList_toArray rwR rwP rwPL rwL rwC canC exists_const decide_true decide_false ptrK Option.map_none Option.map_some Int.cast_ofNat_Int Int.toNat_zero AV.flat flatRows oneRows nc0 Int.toNat_natCast backK drawLK Nat.mul_one bothTT bothTF bothFT bothFF mutB lendB lendK argsN lendA lendP lendC lendL setLent callMK startM exitKM lentEnd flatRes nF List.nodup_cons

attribute [go_sem] tyShape_2 intKd_2 tabAt_2 tyShape_3 intKd_3 tabAt_3 tyShape_4 isBool_4 tabAt_4 tyShape_5 intKd_5 tabAt_5 tyShape_12 intKd_12 tabAt_12 tyShape_18 tabAt_18 tyShape_21 intKd_21 tabAt_21 tyShape_22 isSlice_22 elemInfo_22 elemSize_22 arrElem_22 tabAt_22 tyShape_23 isSlice_23 elemInfo_23 elemSize_23 arrElem_23 tabAt_23 tyShape_24 isSlice_24 elemInfo_24 elemSize_24 arrElem_24 tabAt_24 tyShape_25 isSlice_25 elemInfo_25 elemSize_25 arrElem_25 tabAt_25 tyShape_26 tabAt_26 fieldOff_26_0 fieldOff_26_1 fieldOff_26_2 tyShape_27 tabAt_27 fieldOff_27_0 fieldOff_27_1 fieldOff_27_2 tyShape_28 isSlice_28 elemInfo_28 elemSize_28 arrElem_28 tabAt_28 tyShape_33 isSlice_33 elemInfo_33 elemSize_33 arrElem_33 tabAt_33 tyShape_35 isSlice_35 elemInfo_35 elemSize_35 arrElem_35 tabAt_35 tyShape_36 tabAt_36 fieldOff_36_0 fieldOff_36_1 fieldOff_36_2 fieldOff_36_3 fieldOff_36_4 fieldOff_36_5 tyShape_37 tabAt_37 fieldOff_37_0 fieldOff_37_1 fieldOff_37_2 fieldOff_37_3 fieldOff_37_4 fieldOff_37_5 tyShape_38 tyShape_41 isSlice_41 elemInfo_41 elemSize_41 arrElem_41 tabAt_41 tyShape_42 tabAt_42 fieldOff_42_0 fieldOff_42_1 fieldOff_42_2 tyShape_43 tabAt_43 fieldOff_43_0 fieldOff_43_1 fieldOff_43_2 tyShape_45 tyShape_46 tyShape_47 tyShape_48 tyShape_54 tyShape_66 eqsSize_66 tabAt_66 fieldOff_66_0 fieldOff_66_1 fieldOff_66_2 fieldOff_66_3 tyShape_67 eqsSize_67 tabAt_67 fieldOff_67_0 fieldOff_67_1 fieldOff_67_2 fieldOff_67_3 tyShape_68 tyShape_71 tyShape_75 tabAt_75 fieldOff_75_0 fieldOff_75_1 fieldOff_75_2 tyShape_76 tabAt_76 fieldOff_76_0 fieldOff_76_1 fieldOff_76_2 tyShape_85 eqsSize_85 tabAt_85 fieldOff_85_0 fieldOff_85_1 fieldOff_85_2 tyShape_86 eqsSize_86 tabAt_86 fieldOff_86_0 fieldOff_86_1 fieldOff_86_2 tyShape_87 tyShape_93 eqsSize_93 tabAt_93 fieldOff_93_0 fieldOff_93_1 tyShape_94 eqsSize_94 tabAt_94 fieldOff_94_0 fieldOff_94_1 tyShape_96 tyShape_97 tyShape_98 tyShape_99 tyShape_100 tyShape_103 tyShape_105 tyShape_106 tyShape_110 tyShape_117 arrElem_117 arrShape_117 tabAt_117 tyShape_118 arrElem_118 arrShape_118 tabAt_118 tyShape_125 tyShape_131 eqsSize_131 tabAt_131 fieldOff_131_0 fieldOff_131_1 tyShape_132 eqsSize_132 tabAt_132 fieldOff_132_0 fieldOff_132_1 tyShape_137 isSlice_137 elemInfo_137 elemSize_137 arrElem_137 tabAt_137 tyShape_140 tyShape_141 tyShape_142 tyShape_145 tabAt_145 fieldOff_145_0 fieldOff_145_1 tyShape_146 tabAt_146 fieldOff_146_0 fieldOff_146_1 tyShape_151 isSlice_151 elemInfo_151 elemSize_151 arrElem_151 tabAt_151 tyShape_164 mapTy_164 tabAt_164 tyShape_173 tyShape_178 intKd_178 tabAt_178 tyShape_185 intKd_185 tabAt_185 tyShape_187 intKd_187 tabAt_187 tyShape_188 isSlice_188 elemInfo_188 elemSize_188 arrElem_188 tabAt_188 tyShape_194 tabAt_194 tyShape_195 tabAt_195 fieldOff_195_0 ti2 ti3 ti4 ti5 ti12 ti18 ti21 ti22 ti23 ti24 ti25 ti26 ti27 ti28 ti33 ti35 ti36 ti37 ti38 ti41 ti42 ti43 ti45 ti46 ti47 ti48 ti54 ti66 ti67 ti68 ti71 ti75 ti76 ti85 ti86 ti87 ti93 ti94 ti96 ti97 ti98 ti99 ti100 ti103 ti105 ti106 ti110 ti117 ti118 ti125 ti131 ti132 ti137 ti140 ti141 ti142 ti145 ti146 ti151 ti164 ti173 ti178 ti185 ti187 ti188 ti194 ti195

end Go.Proofs.YthcfafpjkbbaoaaGreat

/- Contracts: voters' validity. -/
set_option linter.unusedSimpArgs false
set_option linter.unusedVariables false
namespace Go.Proofs.YthcfafpjkbbaoaaGreat
open Go Go.RowKit

theorem c_spec_l1In (x lo hi : Int) : Det Tryz.prog 70 [.int .i64 x, .int .i64 lo, .int .i64 hi] (.bool (decide (lo ≤ x) && decide (x ≤ hi))) := by
  refine fspec_det tab_ok Tryz.call70 Tryz.func70 rfl 15 Tryz.ntmps70 (of_decide_eq_true rfl) fun B => codeK_sound tab_ok _ _ _ ?_
  simp (config := { maxSteps := 4000000 }) only [go_sem, simprocAttr, ↓dnA, Tryz.f70]
  refine ⟨fun h => ?_, fun h => ?_⟩ <;> simp_all <;> omega

theorem c_impl_in (x lo hi : Int) : Det Tryz.prog 98 [.int .i64 x, .int .i64 lo, .int .i64 hi] (.bool (decide (lo ≤ x) && decide (x ≤ hi))) := by
  refine fspec_det tab_ok Tryz.call98 Tryz.func98 rfl 15 Tryz.ntmps98 (of_decide_eq_true rfl) fun B => codeK_sound tab_ok _ _ _ ?_
  simp (config := { maxSteps := 4000000 }) only [go_sem, simprocAttr, ↓dnA, Tryz.f98]
  refine ⟨fun h => ?_, fun h => ?_⟩ <;> simp only [h, Bool.true_and, Bool.false_and]

theorem c_impl_isView (x : Int) : Det Tryz.prog 140 [.int .i64 x] (.bool (decide (0 ≤ x) && decide (x ≤ 1000))) := by
  refine fspec_det tab_ok Tryz.call140 Tryz.func140 rfl 5 Tryz.ntmps140 (of_decide_eq_true rfl) fun B => codeK_sound tab_ok _ _ _ ?_
  simp (config := { maxSteps := 4000000 }) only [go_sem, simprocAttr, ↓dnA, Tryz.f140]
  refine CallTo.det (c_impl_in _ _ _) fun _ => ?_
  simp (config := { maxSteps := 4000000 }) only [go_sem, simprocAttr, ↓dnA, Tryz.f140]

end Go.Proofs.YthcfafpjkbbaoaaGreat

/- Contracts: equality of lists of bools. -/
set_option linter.unusedSimpArgs false
set_option linter.unusedVariables false
namespace Go.Proofs.YthcfafpjkbbaoaaGreat
open Go Go.RowKit

theorem mixed_ : Tryz.prog.follows .mixedOrders = true := by kernel_rfl

def boolRows (bs : List Bool) : List (List AV) := bs.map fun b => [.bool b]

theorem boolRows_length (bs : List Bool) : (boolRows bs).length = bs.length := by simp [boolRows]
theorem boolRows_get (bs : List Bool) (i : Nat) (h : i < bs.length) : (boolRows bs).getD i [] = [.bool (bs.getD i false)] := by
  simp [boolRows, List.getD_eq_getElem?_getD, h]

end Go.Proofs.YthcfafpjkbbaoaaGreat

/- Contracts: copies of lists. -/
set_option linter.unusedSimpArgs false
set_option linter.unusedVariables false
namespace Go.Proofs.YthcfafpjkbbaoaaGreat
open Go Go.RowKit

theorem boolRows_set (bs : List Bool) (i : Nat) (b : Bool) : (boolRows bs).set i [.bool b] = boolRows (bs.set i b) := by
  simp [boolRows, List.map_set]

end Go.Proofs.YthcfafpjkbbaoaaGreat

/- Contracts: sums. -/
set_option linter.unusedSimpArgs false
set_option linter.unusedVariables false
namespace Go.Proofs.YthcfafpjkbbaoaaGreat
open Go Go.RowKit

def encI (n : Int) : List AV := [.int .i64 n]

/-- The first place at which p holds, from i on. -/
def idxF {α : Type} (p : α → Bool) : List α → Nat → Int
  | [], _ => -1
  | x :: r, i => if p x then (i : Int) else idxF p r (i + 1)

theorem idxF_any {α : Type} (p : α → Bool) : ∀ (l : List α) (i : Nat), decide (idxF p l i ≥ 0) = l.any p
  | [], i => rfl
  | x :: r, i => by
    simp only [idxF, List.any_cons]
    by_cases h : p x
    · simp [h]
    · simp only [h, Bool.false_or]
      exact idxF_any p r (i + 1)

theorem c_slices_IndexFunc_int (n1 : Option Bool) (xs : List Int) (k : FuncId) (p : Int → Bool) (hx : xs.length < 2 ^ 62) (hm : mutB k = false) (hp : ∀ x, x ∈ xs → Det Tryz.prog k [.int .i64 x] (.bool (p x))) :
    Det Tryz.prog 141 [.sl n1 (rows encI xs), .fn k []] (.int .i64 (idxF p xs 0)) := by
  simp only [mutB] at hm
  refine fspec_det tab_ok Tryz.call141 Tryz.func141 rfl 19 Tryz.ntmps141 (of_decide_eq_true rfl) fun B => codeK_sound tab_ok _ _ _ ?_
  simp (config := { maxSteps := 4000000 }) only [go_sem, simprocAttr, ↓dnA, Tryz.f141, rows_length, hm]
  refine semL_for tab_ok (fun i : Nat => ⟨19, [(0, .sl n1 (rows encI xs)), (1, .fn k []), (7, .int .i64 xs.length), (8, .int .i64 i)], []⟩) (fun i => xs.length - i)
    (fun i => i ≤ xs.length ∧ idxF p (xs.drop i) i = idxF p xs 0) 0 [] (Weak.of rfl trivial ?_ rfl) ⟨by omega, rfl⟩ ?_
  · simp (config := { maxSteps := 4000000 }) only [go_sem, simprocAttr, ↓dnA, Tryz.f141, frW, wk2, wk1, wkL, wkB, hpW, List.mem_cons, Prod.mk.injEq, exists_eq_left, exists_eq_right, exists_eq]
  · rintro i ⟨hi, hp'⟩
    by_cases h : i < xs.length
    · simp (config := { maxSteps := 4000000 }) only [go_sem, simprocAttr, ↓dnA, Tryz.f141, rows_length, rows_get _ _ _ h, encI, nlt h, nn0, hm]
      refine CallTo.det (hp _ (List.getElem_mem h)) fun _ => ?_
      rw [drop_cons xs i h] at hp'
      simp (config := { maxSteps := 4000000 }) only [go_sem, simprocAttr, ↓dnA, Tryz.f141, rows_length, rows_get _ _ _ h, encI, nlt h, hm]
      refine ⟨fun h => ?_, fun h' => ?_⟩
      · rw [← hp']; simp [idxF, h]
      · refine ⟨i + 1, [], ⟨by omega, ?_⟩, by dsimp only; omega, Weak.of rfl trivial ?_ rfl⟩
        · rw [← hp']; simp [idxF, h']
        · simp (config := { maxSteps := 4000000 }) only [go_sem, simprocAttr, ↓dnA, Tryz.f141, wsucc h hx, frW, wk2, wk1, wkL, wkB, hpW, List.mem_cons, Prod.mk.injEq, exists_eq_left, exists_eq_right, exists_eq]
    · have : i = xs.length := by omega
      subst this
      rw [List.drop_length] at hp'
      simp (config := { maxSteps := 4000000 }) only [go_sem, simprocAttr, ↓dnA, Tryz.f141, nlf h, hm]
      rw [← hp']
      rfl

theorem c_slices_ContainsFunc_int (n1 : Option Bool) (xs : List Int) (k : FuncId) (p : Int → Bool) (hx : xs.length < 2 ^ 62) (hm : mutB k = false) (hp : ∀ x, x ∈ xs → Det Tryz.prog k [.int .i64 x] (.bool (p x))) :
    Det Tryz.prog 79 [.sl n1 (rows encI xs), .fn k []] (.bool (xs.any p)) := by
  refine fspec_det tab_ok Tryz.call79 Tryz.func79 rfl 9 Tryz.ntmps79 (of_decide_eq_true rfl) fun B => codeK_sound tab_ok _ _ _ ?_
  simp (config := { maxSteps := 4000000 }) only [go_sem, simprocAttr, ↓dnA, Tryz.f79]
  refine CallTo.det (c_slices_IndexFunc_int _ _ _ _ hx hm hp) fun _ => ?_
  simp (config := { maxSteps := 4000000 }) only [go_sem, simprocAttr, ↓dnA, Tryz.f79, idxF_any]

def isSummedB (n : Int) : Bool := decide (0 ≤ n) && decide (n ≤ 2000000)

theorem c_impl_isSummed (x : Int) : Det Tryz.prog 129 [.int .i64 x] (.bool (isSummedB x)) := by
  refine fspec_det tab_ok Tryz.call129 Tryz.func129 rfl 5 Tryz.ntmps129 (of_decide_eq_true rfl) fun B => codeK_sound tab_ok _ _ _ ?_
  simp (config := { maxSteps := 4000000 }) only [go_sem, simprocAttr, ↓dnA, Tryz.f129]
  refine CallTo.det (c_impl_in _ _ _) fun _ => ?_
  simp (config := { maxSteps := 4000000 }) only [go_sem, simprocAttr, ↓dnA, Tryz.f129]
  rfl

theorem c_impl_SumOf1 (x : Int) : Det Tryz.prog 128 [.int .i64 x] (.bool (!isSummedB x)) := by
  refine fspec_det tab_ok Tryz.call128 Tryz.func128 rfl 6 Tryz.ntmps128 (of_decide_eq_true rfl) fun B => codeK_sound tab_ok _ _ _ ?_
  simp (config := { maxSteps := 4000000 }) only [go_sem, simprocAttr, ↓dnA, Tryz.f128]
  refine CallTo.det (c_impl_isSummed _) fun _ => ?_
  simp (config := { maxSteps := 4000000 }) only [go_sem, simprocAttr, ↓dnA, Tryz.f128]

/-- A sum with one more number. -/
def moreI (s n : Int) : Int := (31 * s + n + 7) % 1000003

theorem c_impl_more (s n : Int) (hs : 0 ≤ s ∧ s ≤ 2000000) (hn : 0 ≤ n ∧ n ≤ 2000000) : Det Tryz.prog 130 [.int .i64 s, .int .i64 n] (.int .i64 (moreI s n)) := by
  refine fspec_det tab_ok Tryz.call130 Tryz.func130 rfl 11 Tryz.ntmps130 (of_decide_eq_true rfl) fun B => codeK_sound tab_ok _ _ _ ?_
  simp (config := { maxSteps := 4000000 }) only [go_sem, simprocAttr, ↓dnA, Tryz.f130]
  rw [wrap_small (31 * s) (by omega) (by omega), wrap_small (31 * s + n) (by omega) (by omega), wrap_small (31 * s + n + 7) (by omega) (by omega), Int.tmod_eq_emod_of_nonneg (by omega)]
  rfl

def sumI (s : Int) (l : List Int) : Int := l.foldl moreI s

theorem moreI_bd (s n : Int) : 0 ≤ moreI s n ∧ moreI s n < 1000003 := by unfold moreI; omega

/-- SumOf. -/
def sumOf (tag : Int) (l : List Int) : Int := if (decide (0 ≤ tag) && decide (tag ≤ 9)) && l.all isSummedB then sumI (17 + tag) l else -1

theorem any_not {α : Type} (l : List α) (p : α → Bool) : (l.any fun x => !p x) = !l.all p := by
  induction l with
  | nil => rfl
  | cons x r ih => simp [List.any_cons, List.all_cons, ih]

theorem c_impl_SumOf (tag : Int) (n1 : Option Bool) (xs : List Int) (hx : xs.length < 2 ^ 62) : Det Tryz.prog 64 [.int .i64 tag, .sl n1 (rows encI xs)] (.int .i64 (sumOf tag xs)) := by
  have hc : Det Tryz.prog 79 [.sl n1 (rows encI xs), .fn 128 []] (.bool (!xs.all isSummedB)) := by
    have := c_slices_ContainsFunc_int n1 xs 128 (fun x => !isSummedB x) hx rfl (fun x _ => c_impl_SumOf1 x)
    rwa [any_not] at this
  refine fspec_det tab_ok Tryz.call64 Tryz.func64 rfl 28 Tryz.ntmps64 (of_decide_eq_true rfl) fun B => codeK_sound tab_ok _ _ _ ?_
  simp (config := { maxSteps := 4000000 }) only [go_sem, simprocAttr, ↓dnA, Tryz.f64]
  refine CallTo.det (c_impl_in _ _ _) fun _ => ?_
  by_cases ht : (decide (0 ≤ tag) && decide (tag ≤ 9)) = true
  · simp (config := { maxSteps := 4000000 }) only [go_sem, simprocAttr, ↓dnA, Tryz.f64, ht]
    refine CallTo.det hc fun _ => ?_
    cases ha : xs.all isSummedB with
    | false => simp (config := { maxSteps := 4000000 }) only [go_sem, simprocAttr, ↓dnA, Tryz.f64, ht, sumOf, ha]
    | true =>
      have ht' : 0 ≤ tag ∧ tag ≤ 9 := by simpa using ht
      have ha' : ∀ x, x ∈ xs → 0 ≤ x ∧ x ≤ 2000000 := fun x hx => by simpa [isSummedB] using List.all_eq_true.1 ha x hx
      simp (config := { maxSteps := 4000000 }) only [go_sem, simprocAttr, ↓dnA, Tryz.f64, ht, rows_length, wrap_small (17 + tag) (by omega) (by omega)]
      refine semL_for tab_ok (fun p : Nat × Int => ⟨28, [(5, .int .i64 p.2), (17, .sl n1 (rows encI xs)), (18, .int .i64 xs.length), (19, .int .i64 p.1)], []⟩) (fun p => xs.length - p.1)
        (fun p => p.1 ≤ xs.length ∧ (0 ≤ p.2 ∧ p.2 ≤ 1000003) ∧ sumI p.2 (xs.drop p.1) = sumOf tag xs) (0, 17 + tag) [] (Weak.of rfl trivial ?_ rfl) ⟨by omega, by simp only; omega, by simp [sumOf, ht', ha]⟩ ?_
      · simp (config := { maxSteps := 4000000 }) only [go_sem, simprocAttr, ↓dnA, Tryz.f64, frW, wk2, wk1, wkL, wkB, hpW, List.mem_cons, Prod.mk.injEq, exists_eq_left, exists_eq_right, exists_eq]
      · rintro ⟨i, s⟩ ⟨hi, hs, hp⟩
        by_cases h : i < xs.length
        · simp (config := { maxSteps := 4000000 }) only [go_sem, simprocAttr, ↓dnA, Tryz.f64, rows_length, rows_get _ _ _ h, encI, nlt h, nn0]
          refine CallTo.det (c_impl_more s xs[i] (by simp only at hs; omega) (ha' _ (List.getElem_mem h))) fun _ => ?_
          simp (config := { maxSteps := 4000000 }) only [go_sem, simprocAttr, ↓dnA, Tryz.f64, rows_length, rows_get _ _ _ h, encI, nlt h]
          refine ⟨(i + 1, moreI s xs[i]), [], ⟨by simp only; omega, ⟨(moreI_bd _ _).1, by have := (moreI_bd s xs[i]).2; simp only; omega⟩, ?_⟩, by simp only; omega, Weak.of rfl trivial ?_ rfl⟩
          · rw [← hp]; simp only; rw [drop_cons xs i h]; rfl
          · simp (config := { maxSteps := 4000000 }) only [go_sem, simprocAttr, ↓dnA, Tryz.f64, wsucc h hx, frW, wk2, wk1, wkL, wkB, hpW, List.mem_cons, Prod.mk.injEq, exists_eq_left, exists_eq_right, exists_eq]
        · have : i = xs.length := by simp only at hi; omega
          subst this
          simp only [List.drop_length] at hp
          simp (config := { maxSteps := 4000000 }) only [go_sem, simprocAttr, ↓dnA, Tryz.f64, nlf h]
          exact hp.symm
  · have ht := Bool.not_eq_true _ ▸ ht
    simp (config := { maxSteps := 4000000 }) only [go_sem, simprocAttr, ↓dnA, Tryz.f64, ht, sumOf]

end Go.Proofs.YthcfafpjkbbaoaaGreat

/- Contracts: what the laws draw with. -/
set_option linter.unusedSimpArgs false
set_option linter.unusedVariables false
set_option maxRecDepth 20000
set_option maxHeartbeats 2000000
namespace Go.Proofs.YthcfafpjkbbaoaaGreat
open Go Go.RowKit

def encB (n : Int) : List AV := [.int .u8 n]

/-- A reader of a code. -/
def rd (nb : Option Bool) (bs : List Int) (p : Int) : List AV := [.sl nb (rows encB bs), .int .i64 p]

structure RdOk (bs : List Int) (p : Int) : Prop where
  len : bs.length ≤ 2000
  byte : ∀ b, b ∈ bs → 0 ≤ b ∧ b ≤ 255
  lo : 0 ≤ p
  hi : p ≤ 1000000000

theorem xor_nn (a b : Int) (ha : 0 ≤ a ∧ a < 4611686018427387904) (hb : 0 ≤ b ∧ b < 4611686018427387904) :
    0 ≤ IntKind.i64.wrap ((BitVec.ofInt IntKind.i64.bits a ^^^ BitVec.ofInt IntKind.i64.bits b).toNat : Nat) := by
  obtain ⟨m, rfl⟩ := Int.eq_ofNat_of_zero_le ha.1
  obtain ⟨n, rfl⟩ := Int.eq_ofNat_of_zero_le hb.1
  have h1 : m < 2 ^ 62 := by have := ha.2; omega
  have h2 : n < 2 ^ 62 := by have := hb.2; omega
  have e : (BitVec.ofInt IntKind.i64.bits (m : Int) ^^^ BitVec.ofInt IntKind.i64.bits (n : Int)).toNat = m ^^^ n := by
    rw [BitVec.toNat_xor, BitVec.ofInt_natCast, BitVec.ofInt_natCast, BitVec.toNat_ofNat, BitVec.toNat_ofNat]
    show (m % 2 ^ 64) ^^^ (n % 2 ^ 64) = _
    rw [Nat.mod_eq_of_lt (by omega), Nat.mod_eq_of_lt (by omega)]
  rw [e]
  have h3 : m ^^^ n < 2 ^ 62 := Nat.xor_lt_two_pow h1 h2
  rw [wrap_small _ (by omega) (by omega)]
  omega

def PickQ (nb : Option Bool) (bs : List Int) (p n : Int) (r : AV) (b : List AV) : Prop := ∃ x : Int, r = .int .i64 x ∧ b = rd nb bs (p + 1) ∧ 0 ≤ x ∧ (x < n ∨ x = 0)

theorem c_spec_pick (nb : Option Bool) (bs : List Int) (p n : Int) (h : RdOk bs p) : FSpec Tryz.prog 85 [.loc 0 0, .int .i64 n] true (rd nb bs p) (PickQ nb bs p n) := by
  obtain ⟨hl, hb, h0, h1⟩ := h
  have w1 : IntKind.i64.wrap (p + 1) = p + 1 := wrap_small (p + 1) (by omega) (by omega)
  have w2 : IntKind.i64.wrap (p + 1 - 1) = p := by rw [wrap_small (p + 1 - 1) (by omega) (by omega)]; omega
  refine fspec_rel tab_ok Tryz.call85 Tryz.func85 rfl 99 Tryz.ntmps85 (of_decide_eq_true rfl) fun B => codeK_sound tab_ok _ _ _ ?_
  unfold rd
  by_cases hn : n < 1
  · have hn' : decide (n < 1) = true := by simpa using hn
    simp (config := { maxSteps := 4000000 }) only [go_sem, simprocAttr, ↓dnA, Tryz.f85, rows_length, w1, w2, hn']
    exact .same ⟨0, rfl, rfl, by omega, .inr rfl⟩
  · have hn' : decide (n < 1) = false := by simpa using hn
    by_cases he : bs.length = 0
    · have he' : ((bs.length : Int) == 0) = true := by simpa using he
      simp (config := { maxSteps := 4000000 }) only [go_sem, simprocAttr, ↓dnA, Tryz.f85, rows_length, w1, w2, hn', he']
      exact .same ⟨0, rfl, rfl, by omega, .inr rfl⟩
    · have he' : ((bs.length : Int) == 0) = false := by simpa using he
      by_cases hp : p < bs.length
      · have hp' : decide (p < (bs.length : Int)) = true := by simpa using hp
        have hi : p.toNat < bs.length := by omega
        have hbb := hb _ (List.getElem_mem hi)
        have wb : IntKind.i64.wrap bs[p.toNat] = bs[p.toNat] := wrap_small _ (by omega) (by omega)
        simp (config := { maxSteps := 4000000 }) only [go_sem, simprocAttr, ↓dnA, Tryz.f85, rows_length, w1, w2, hn', he', hp', rows_get _ _ _ hi, encB, wb]
        refine ⟨⟨h0, hp⟩, by omega, .same ⟨_, rfl, rfl, ?_, ?_⟩⟩
        · rw [Int.tmod_eq_emod_of_nonneg hbb.1]; exact Int.emod_nonneg _ (by omega)
        · rw [Int.tmod_eq_emod_of_nonneg hbb.1]; exact .inl (Int.emod_lt_of_pos _ (by omega))
      · have hp' : decide (p < (bs.length : Int)) = false := by simpa using hp
        have hlen : (0 : Int) < bs.length := by omega
        have wq : IntKind.i64.wrap (IntKind.i64.wrap (p * 7) + 3) = p * 7 + 3 := by rw [wrap_small (p * 7) (by omega) (by omega), wrap_small _ (by omega) (by omega)]
        have t1 : p.tmod bs.length = p % bs.length := Int.tmod_eq_emod_of_nonneg h0
        have t2 : (p * 7 + 3).tmod bs.length = (p * 7 + 3) % bs.length := Int.tmod_eq_emod_of_nonneg (by omega)
        have t3 : p.tdiv bs.length = p / bs.length := Int.tdiv_eq_ediv_of_nonneg h0
        have a1 := Int.emod_nonneg p (by omega : (bs.length : Int) ≠ 0)
        have a2 := Int.emod_lt_of_pos p hlen
        have a3 := Int.emod_nonneg (p * 7 + 3) (by omega : (bs.length : Int) ≠ 0)
        have a4 := Int.emod_lt_of_pos (p * 7 + 3) hlen
        have a5 : 0 ≤ p / bs.length := Int.ediv_nonneg h0 (by omega)
        have a6 : p / bs.length ≤ p := Int.ediv_le_self _ h0
        have i1 : (p % bs.length).toNat < bs.length := by omega
        have i2 : ((p * 7 + 3) % bs.length).toNat < bs.length := by omega
        have b1 := hb _ (List.getElem_mem i1)
        have b2 := hb _ (List.getElem_mem i2)
        generalize hy1 : bs[(p % bs.length).toNat] = y1 at b1
        generalize hy2 : bs[((p * 7 + 3) % bs.length).toNat] = y2 at b2
        have g1 : (rows encB bs).getD (p % bs.length).toNat [] = [.int .u8 y1] := by rw [rows_get _ _ _ i1, hy1]; rfl
        have g2 : (rows encB bs).getD ((p * 7 + 3) % bs.length).toNat [] = [.int .u8 y2] := by rw [rows_get _ _ _ i2, hy2]; rfl
        simp (config := { maxSteps := 4000000 }) only [go_sem, simprocAttr, ↓dnA, Tryz.f85, rows_length, w1, w2, hn', he', hp']
        refine semL_still tab_ok mixed_ (by decide +kernel) ?_
        simp (config := { maxSteps := 4000000 }) only [go_sem, simprocAttr, ↓dnA, Tryz.f85, rows_length, w1, w2, hn', he', hp', wq, t1, t2, t3, g1, g2]
        have w3 : IntKind.i64.wrap (IntKind.i64.wrap y1 * 131) = y1 * 131 := by rw [wrap_small y1 (by omega) (by omega), wrap_small _ (by omega) (by omega)]
        have w4 : IntKind.i64.wrap (IntKind.i64.wrap y2 * 1117) = y2 * 1117 := by rw [wrap_small y2 (by omega) (by omega), wrap_small _ (by omega) (by omega)]
        have w5 : IntKind.i64.wrap (p * 29) = p * 29 := wrap_small _ (by omega) (by omega)
        have w6 : IntKind.i64.wrap (IntKind.i64.wrap (p / bs.length) * 53) = p / bs.length * 53 := by rw [wrap_small (p / bs.length) (by omega) (by omega), wrap_small _ (by omega) (by omega)]
        rw [w3, w4, w5, w6]
        generalize hz : p / bs.length * 53 = z
        have hz0 : 0 ≤ z ∧ z ≤ 53000000000 := by omega
        have w7 : IntKind.i64.wrap (IntKind.i64.wrap (IntKind.i64.wrap (y1 * 131 + y2 * 1117) + p * 29) + z) = y1 * 131 + y2 * 1117 + p * 29 + z := by
          rw [wrap_small (y1 * 131 + y2 * 1117) (by omega) (by omega), wrap_small (y1 * 131 + y2 * 1117 + p * 29) (by omega) (by omega), wrap_small _ (by omega) (by omega)]
        rw [w7]
        generalize hx : y1 * 131 + y2 * 1117 + p * 29 + z = x
        have hx0 : 0 ≤ x ∧ x ≤ 100000000000 := by omega
        have hd : x.tdiv 64 = x / 64 := Int.tdiv_eq_ediv_of_nonneg hx0.1
        have hd0 : 0 ≤ x / 64 ∧ x / 64 ≤ x := by omega
        rw [hd, wrap_small (x / 64) (by omega) (by omega)]
        have hxor := xor_nn x (x / 64) (by omega) (by omega)
        refine ⟨by omega, ⟨a1, a2⟩, by omega, ⟨a3, a4⟩, by omega, by omega, .same ⟨_, rfl, rfl, ?_, ?_⟩⟩
        · have key : ∀ y : Int, 0 ≤ y → 0 ≤ y.tmod n := fun y hy => by rw [Int.tmod_eq_emod_of_nonneg hy]; exact Int.emod_nonneg _ (by omega)
          exact key _ hxor
        · have key : ∀ y : Int, 0 ≤ y → y.tmod n < n := fun y hy => by rw [Int.tmod_eq_emod_of_nonneg hy]; exact Int.emod_lt_of_pos _ (by omega)
          exact .inl (key _ hxor)

end Go.Proofs.YthcfafpjkbbaoaaGreat

/- Contracts: drawn voters; FnVoterValid. -/
set_option linter.unusedSimpArgs false
set_option linter.unusedVariables false
set_option maxRecDepth 20000
set_option maxHeartbeats 2000000
namespace Go.Proofs.YthcfafpjkbbaoaaGreat
open Go Go.RowKit

theorem RdOk.step {bs : List Int} {p q : Int} (h : RdOk bs p) (h1 : p ≤ q) (h2 : q ≤ 1000000000) : RdOk bs q := ⟨h.len, h.byte, by have := h.lo; omega, h2⟩

def OddQ (nb : Option Bool) (bs : List Int) (p : Int) (r : AV) (b : List AV) : Prop := ∃ (x : Bool) (q : Int), r = .bool x ∧ b = rd nb bs q ∧ p ≤ q ∧ q ≤ p + 1

theorem c_spec_odd (nb : Option Bool) (bs : List Int) (p n : Int) (h : RdOk bs p) (hn : 0 ≤ n ∧ n ≤ 1000000) : FSpec Tryz.prog 105 [.loc 0 0, .int .i64 n] true (rd nb bs p) (OddQ nb bs p) := by
  refine fspec_rel tab_ok Tryz.call105 Tryz.func105 rfl 15 Tryz.ntmps105 (of_decide_eq_true rfl) fun B => codeK_sound tab_ok _ _ _ ?_
  unfold rd
  simp (config := { maxSteps := 4000000 }) only [go_sem, simprocAttr, ↓dnA, Tryz.f105]
  refine ⟨fun hg => ?_, fun hg => ?_⟩
  · refine CallTo.of (c_spec_pick nb bs p n h) ?_
    rintro r b ⟨x, rfl, rfl, hx⟩
    unfold rd
    simp (config := { maxSteps := 4000000 }) only [go_sem, simprocAttr, ↓dnA, Tryz.f105, hg]
    exact .same ⟨_, _, rfl, rfl, by omega, by omega⟩
  · exact .same ⟨_, p, rfl, rfl, by omega, by omega⟩

/-- A code. -/
structure CodeOk (bs : List Int) : Prop where
  byte : ∀ b, b ∈ bs → 0 ≤ b ∧ b ≤ 255
  len : bs.length ≤ 1048576

def OpenQ (nb : Option Bool) (bs : List Int) (r : AV) (b : List AV) : Prop := r = .box (rd nb (bs.take 2000) 0)

theorem c_spec_l20Open (nb : Option Bool) (bs : List Int) (h : CodeOk bs) : FSpec Tryz.prog 66 [.sl nb (rows encB bs)] false [] (OpenQ nb bs) := by
  refine fspec_ptr tab_ok 2 Tryz.call66 Tryz.func66 rfl 11 Tryz.ntmps66 (of_decide_eq_true rfl) rfl fun B => codeK_sound tab_ok _ _ _ ?_
  by_cases hl : 2000 < bs.length
  · have hl' : decide ((bs.length : Int) > 2000) = true := by simp; omega
    have hb : (0 ≤ (2000 : Int)) ∧ (2000 : Int) ≤ bs.length := by omega
    have ht : (Int.toNat 2000) = 2000 := rfl
    simp (config := { maxSteps := 4000000 }) only [go_sem, simprocAttr, ↓dnA, Tryz.f66, rows_length, hl', hb, ht, rows_take]
    rfl
  · have hl' : decide ((bs.length : Int) > 2000) = false := by simp; omega
    simp (config := { maxSteps := 4000000 }) only [go_sem, simprocAttr, ↓dnA, Tryz.f66, rows_length, hl']
    unfold OpenQ
    rw [List.take_of_length_le (by omega)]
    rfl

theorem FSpec.det {P : Program} {k : FuncId} {args : List AV} {Q : AV → List AV → Prop} {r : AV} (h : FSpec P k args false [] Q) (hq : ∀ r' b, Q r' b → r' = r) : Det P k args r := h.mono hq

theorem code_take {bs : List Int} (h : CodeOk bs) : RdOk (bs.take 2000) 0 := ⟨by rw [List.length_take]; omega, fun b hb => h.byte b (List.mem_of_mem_take hb), by omega, by omega⟩

theorem c_laws_alive : Det Tryz.prog 19 [] (.bool true) := by
  refine fspec_det tab_ok Tryz.call19 Tryz.func19 rfl 4 Tryz.ntmps19 (of_decide_eq_true rfl) fun B => codeK_sound tab_ok _ _ _ ?_
  simp (config := { maxSteps := 4000000 }) only [go_sem, simprocAttr, ↓dnA, Tryz.f19]
  refine CallTo.det (c_impl_SumOf 0 _ [] (by decide)) fun _ => ?_
  simp (config := { maxSteps := 4000000 }) only [go_sem, simprocAttr, ↓dnA, Tryz.f19]
  decide

end Go.Proofs.YthcfafpjkbbaoaaGreat

/- Contracts: entries and actions, and when they are valid. -/
set_option linter.unusedSimpArgs false
set_option linter.unusedVariables false
set_option maxRecDepth 20000
set_option maxHeartbeats 2000000
namespace Go.Proofs.YthcfafpjkbbaoaaGreat
open Go Go.RowKit

def inB (n lo hi : Int) : Bool := decide (lo ≤ n) && decide (n ≤ hi)

theorem inB_iff {n lo hi : Int} : inB n lo hi = true ↔ lo ≤ n ∧ n ≤ hi := by simp [inB]

theorem c_in (x lo hi : Int) : Det Tryz.prog 98 [.int .i64 x, .int .i64 lo, .int .i64 hi] (.bool (inB x lo hi)) := c_impl_in x lo hi
theorem c_l1In (x lo hi : Int) : Det Tryz.prog 70 [.int .i64 x, .int .i64 lo, .int .i64 hi] (.bool (inB x lo hi)) := c_spec_l1In x lo hi

theorem c_impl_isKey (x : Int) : Det Tryz.prog 116 [.int .i64 x] (.bool (inB x 0 31)) := by
  refine fspec_det tab_ok Tryz.call116 Tryz.func116 rfl 5 Tryz.ntmps116 (of_decide_eq_true rfl) fun B => codeK_sound tab_ok _ _ _ ?_
  simp (config := { maxSteps := 4000000 }) only [go_sem, simprocAttr, ↓dnA, Tryz.f116]
  refine CallTo.det (c_in _ _ _) fun _ => ?_
  simp (config := { maxSteps := 4000000 }) only [go_sem, simprocAttr, ↓dnA, Tryz.f116]

theorem c_impl_isValue (x : Int) : Det Tryz.prog 117 [.int .i64 x] (.bool (inB x 0 1000000)) := by
  refine fspec_det tab_ok Tryz.call117 Tryz.func117 rfl 5 Tryz.ntmps117 (of_decide_eq_true rfl) fun B => codeK_sound tab_ok _ _ _ ?_
  simp (config := { maxSteps := 4000000 }) only [go_sem, simprocAttr, ↓dnA, Tryz.f117]
  refine CallTo.det (c_in _ _ _) fun _ => ?_
  simp (config := { maxSteps := 4000000 }) only [go_sem, simprocAttr, ↓dnA, Tryz.f117]

theorem c_impl_isSum (x : Int) : Det Tryz.prog 176 [.int .i64 x] (.bool (inB x 0 1000002)) := by
  refine fspec_det tab_ok Tryz.call176 Tryz.func176 rfl 5 Tryz.ntmps176 (of_decide_eq_true rfl) fun B => codeK_sound tab_ok _ _ _ ?_
  simp (config := { maxSteps := 4000000 }) only [go_sem, simprocAttr, ↓dnA, Tryz.f176]
  refine CallTo.det (c_in _ _ _) fun _ => ?_
  simp (config := { maxSteps := 4000000 }) only [go_sem, simprocAttr, ↓dnA, Tryz.f176]

structure Entry where
  key : Int
  value : Int
deriving DecidableEq, Inhabited

def encE (e : Entry) : List AV := [.int .i64 e.key, .int .i64 e.value]

structure Action where
  kind : Int
  fr : Int
  to : Int
  amount : Int
deriving DecidableEq, Inhabited

def encA (a : Action) : List AV := [.int .i64 a.kind, .int .i64 a.fr, .int .i64 a.to, .int .i64 a.amount]

/-- Entries are valid: their keys ascend from 'last' on, their values are at least 'least'. -/
def entOk (least : Int) : Int → List Entry → Bool
  | _, [] => true
  | last, e :: r => inB e.key (last + 1) 31 && inB e.value least 1000000 && entOk least e.key r

def storeValid (s : List Entry) : Bool := entOk 1 (-1) s

theorem c_impl_entriesValid (n1 : Option Bool) (xs : List Entry) (least : Int) (hx : xs.length < 2 ^ 62) : Det Tryz.prog 119 [.sl n1 (rows encE xs), .int .i64 least] (.bool (entOk least (-1) xs)) := by
  refine fspec_det tab_ok Tryz.call119 Tryz.func119 rfl 30 Tryz.ntmps119 (of_decide_eq_true rfl) fun B => codeK_sound tab_ok _ _ _ ?_
  simp (config := { maxSteps := 4000000 }) only [go_sem, simprocAttr, ↓dnA, Tryz.f119, rows_length]
  refine semL_for tab_ok (fun p : Nat × Int => ⟨30, [(1, .int .i64 least), (8, .sl n1 (rows encE xs)), (9, .int .i64 xs.length), (10, .int .i64 p.1), (5, .int .i64 p.2)], []⟩) (fun p => xs.length - p.1)
    (fun p => p.1 ≤ xs.length ∧ (-1 ≤ p.2 ∧ p.2 ≤ 31) ∧ entOk least p.2 (xs.drop p.1) = entOk least (-1) xs) (0, -1) [] (Weak.of rfl trivial ?_ rfl) ⟨by omega, by dsimp only; omega, rfl⟩ ?_
  · simp (config := { maxSteps := 4000000 }) only [go_sem, simprocAttr, ↓dnA, Tryz.f119, frW, wk2, wk1, wkL, wkB, hpW, List.mem_cons, Prod.mk.injEq, exists_eq_left, exists_eq_right, exists_eq]
  · rintro ⟨i, last⟩ ⟨hi, hl, hp⟩
    by_cases h : i < xs.length
    · have hw : IntKind.i64.wrap (last + 1) = last + 1 := wrap_small _ (by dsimp only at hl; omega) (by dsimp only at hl; omega)
      dsimp only at hp
      rw [drop_cons xs i h] at hp
      simp only [entOk] at hp
      simp (config := { maxSteps := 4000000 }) only [go_sem, simprocAttr, ↓dnA, Tryz.f119, rows_length, rows_get _ _ _ h, encE, nlt h, nn0, hw]
      refine CallTo.det (c_in _ _ _) fun _ => ?_
      cases h1 : inB xs[i].key (last + 1) 31 with
      | false =>
        rw [h1] at hp
        simp (config := { maxSteps := 4000000 }) only [go_sem, simprocAttr, ↓dnA, Tryz.f119, rows_length, rows_get _ _ _ h, encE, nlt h, nn0, hw, h1]
        rw [← hp]; rfl
      | true =>
        simp (config := { maxSteps := 4000000 }) only [go_sem, simprocAttr, ↓dnA, Tryz.f119, rows_length, rows_get _ _ _ h, encE, nlt h, nn0, hw, h1]
        refine CallTo.det (c_in _ _ _) fun _ => ?_
        cases h2 : inB xs[i].value least 1000000 with
        | false =>
          rw [h1, h2] at hp
          simp (config := { maxSteps := 4000000 }) only [go_sem, simprocAttr, ↓dnA, Tryz.f119, rows_length, rows_get _ _ _ h, encE, nlt h, nn0, hw, h1, h2]
          rw [← hp]; rfl
        | true =>
          rw [h1, h2] at hp
          simp (config := { maxSteps := 4000000 }) only [go_sem, simprocAttr, ↓dnA, Tryz.f119, rows_length, rows_get _ _ _ h, encE, nlt h, nn0, hw, h1, h2]
          have hk := inB_iff.1 h1
          refine ⟨(i + 1, xs[i].key), [], ⟨by dsimp only; omega, by dsimp only at hl ⊢; omega, hp⟩, by dsimp only; omega, Weak.of rfl trivial ?_ rfl⟩
          simp (config := { maxSteps := 4000000 }) only [go_sem, simprocAttr, ↓dnA, Tryz.f119, wsucc h hx, frW, wk2, wk1, wkL, wkB, hpW, List.mem_cons, Prod.mk.injEq, exists_eq_left, exists_eq_right, exists_eq]
    · have : i = xs.length := by dsimp only at hi; omega
      subst this
      simp only [List.drop_length] at hp
      simp (config := { maxSteps := 4000000 }) only [go_sem, simprocAttr, ↓dnA, Tryz.f119, nlf h]
      exact hp.symm

theorem c_impl_StoreValid (n1 : Option Bool) (xs : List Entry) (hx : xs.length < 2 ^ 62) : Det Tryz.prog 54 [.sl n1 (rows encE xs)] (.bool (storeValid xs)) := by
  refine fspec_det tab_ok Tryz.call54 Tryz.func54 rfl 5 Tryz.ntmps54 (of_decide_eq_true rfl) fun B => codeK_sound tab_ok _ _ _ ?_
  simp (config := { maxSteps := 4000000 }) only [go_sem, simprocAttr, ↓dnA, Tryz.f54]
  refine CallTo.det (c_impl_entriesValid _ _ _ hx) fun _ => ?_
  simp (config := { maxSteps := 4000000 }) only [go_sem, simprocAttr, ↓dnA, Tryz.f54]
  rfl

end Go.Proofs.YthcfafpjkbbaoaaGreat

/- Contracts: valid actions, stores by the reference, valid blocks. -/
set_option linter.unusedSimpArgs false
set_option linter.unusedVariables false
set_option maxRecDepth 20000
set_option maxHeartbeats 2000000
namespace Go.Proofs.YthcfafpjkbbaoaaGreat
open Go Go.RowKit

/-- An action's own kind fits. -/
def kindOk (a : Action) : Bool :=
  if a.kind == 1 || a.kind == 6 then a.to == 0 else if a.kind == 3 || a.kind == 4 || a.kind == 5 then a.amount == 0 else a.kind == 2

def actionValid (a : Action) : Bool := inB a.fr 0 31 && inB a.to 0 31 && inB a.amount 0 1000000 && kindOk a

theorem c_impl_ActionValid (a : Action) : Det Tryz.prog 43 [.agg (encA a)] (.bool (actionValid a)) := by
  refine fspec_det tab_ok Tryz.call43 Tryz.func43 rfl 37 Tryz.ntmps43 (of_decide_eq_true rfl) fun B => codeK_sound tab_ok _ _ _ ?_
  unfold encA
  simp (config := { maxSteps := 4000000 }) only [go_sem, simprocAttr, ↓dnA, Tryz.f43]
  refine CallTo.det (c_impl_isKey _) fun _ => ?_
  cases hc1 : inB a.fr 0 31
  · (try simp (config := { maxSteps := 4000000 }) only [go_sem, simprocAttr, ↓dnA, Tryz.f43, actionValid, hc1]) <;> (try rfl)
  (try simp (config := { maxSteps := 4000000 }) only [go_sem, simprocAttr, ↓dnA, Tryz.f43, actionValid, hc1]) <;> (try rfl)
  refine CallTo.det (c_impl_isKey _) fun _ => ?_
  cases hc2 : inB a.to 0 31
  · (try simp (config := { maxSteps := 4000000 }) only [go_sem, simprocAttr, ↓dnA, Tryz.f43, actionValid, hc1, hc2]) <;> (try rfl)
  (try simp (config := { maxSteps := 4000000 }) only [go_sem, simprocAttr, ↓dnA, Tryz.f43, actionValid, hc1, hc2]) <;> (try rfl)
  refine CallTo.det (c_impl_isValue _) fun _ => ?_
  cases hc3 : inB a.amount 0 1000000
  · (try simp (config := { maxSteps := 4000000 }) only [go_sem, simprocAttr, ↓dnA, Tryz.f43, actionValid, hc1, hc2, hc3]) <;> (try rfl)
  (try simp (config := { maxSteps := 4000000 }) only [go_sem, simprocAttr, ↓dnA, Tryz.f43, actionValid, hc1, hc2, hc3]) <;> (try rfl)
  by_cases k1 : a.kind = 1
  · simp [kindOk, k1]
  · by_cases k6 : a.kind = 6
    · simp [kindOk, k6]
    · by_cases k2 : a.kind = 2
      · simp [kindOk, k2]
      · by_cases k3 : a.kind = 3
        · simp [kindOk, k3]
        · by_cases k4 : a.kind = 4
          · simp [kindOk, k4]
          · by_cases k5 : a.kind = 5
            · simp [kindOk, k5]
            · simp [kindOk, k1, k2, k3, k4, k5, k6]

theorem c_spec_ActionValid (a : Action) : Det Tryz.prog 172 [.agg (encA a)] (.bool (actionValid a)) := by
  refine fspec_det tab_ok Tryz.call172 Tryz.func172 rfl 36 Tryz.ntmps172 (of_decide_eq_true rfl) fun B => codeK_sound tab_ok _ _ _ ?_
  unfold encA
  simp (config := { maxSteps := 4000000 }) only [go_sem, simprocAttr, ↓dnA, Tryz.f172]
  refine CallTo.det (c_l1In _ _ _) fun _ => ?_
  cases hc1 : inB a.fr 0 31
  · (try simp (config := { maxSteps := 4000000 }) only [go_sem, simprocAttr, ↓dnA, Tryz.f172, actionValid, hc1]) <;> (try rfl)
  (try simp (config := { maxSteps := 4000000 }) only [go_sem, simprocAttr, ↓dnA, Tryz.f172, actionValid, hc1]) <;> (try rfl)
  refine CallTo.det (c_l1In _ _ _) fun _ => ?_
  cases hc2 : inB a.to 0 31
  · (try simp (config := { maxSteps := 4000000 }) only [go_sem, simprocAttr, ↓dnA, Tryz.f172, actionValid, hc1, hc2]) <;> (try rfl)
  (try simp (config := { maxSteps := 4000000 }) only [go_sem, simprocAttr, ↓dnA, Tryz.f172, actionValid, hc1, hc2]) <;> (try rfl)
  refine CallTo.det (c_l1In _ _ _) fun _ => ?_
  cases hc3 : inB a.amount 0 1000000
  · (try simp (config := { maxSteps := 4000000 }) only [go_sem, simprocAttr, ↓dnA, Tryz.f172, actionValid, hc1, hc2, hc3]) <;> (try rfl)
  (try simp (config := { maxSteps := 4000000 }) only [go_sem, simprocAttr, ↓dnA, Tryz.f172, actionValid, hc1, hc2, hc3]) <;> (try rfl)
  by_cases k1 : a.kind = 1
  · simp [kindOk, k1]
  · by_cases k6 : a.kind = 6
    · simp [kindOk, k6]
    · by_cases k2 : a.kind = 2
      · simp [kindOk, k2]
      · by_cases k3 : a.kind = 3
        · simp [kindOk, k3]
        · by_cases k4 : a.kind = 4
          · simp [kindOk, k4]
          · by_cases k5 : a.kind = 5
            · simp [kindOk, k5]
            · simp [kindOk, k1, k2, k3, k4, k5, k6]

theorem c_slices_IndexFunc_Action (n1 : Option Bool) (xs : List Action) (k : FuncId) (p : Action → Bool) (hx : xs.length < 2 ^ 62) (hm : mutB k = false) (hp : ∀ x, x ∈ xs → Det Tryz.prog k [.agg (encA x)] (.bool (p x))) :
    Det Tryz.prog 190 [.sl n1 (rows encA xs), .fn k []] (.int .i64 (idxF p xs 0)) := by
  simp only [mutB] at hm
  refine fspec_det tab_ok Tryz.call190 Tryz.func190 rfl 19 Tryz.ntmps190 (of_decide_eq_true rfl) fun B => codeK_sound tab_ok _ _ _ ?_
  simp (config := { maxSteps := 4000000 }) only [go_sem, simprocAttr, ↓dnA, Tryz.f190, rows_length, hm]
  refine semL_for tab_ok (fun i : Nat => ⟨19, [(0, .sl n1 (rows encA xs)), (1, .fn k []), (7, .int .i64 xs.length), (8, .int .i64 i)], []⟩) (fun i => xs.length - i)
    (fun i => i ≤ xs.length ∧ idxF p (xs.drop i) i = idxF p xs 0) 0 [] (Weak.of rfl trivial ?_ rfl) ⟨by omega, rfl⟩ ?_
  · simp (config := { maxSteps := 4000000 }) only [go_sem, simprocAttr, ↓dnA, Tryz.f190, frW, wk2, wk1, wkL, wkB, hpW, List.mem_cons, Prod.mk.injEq, exists_eq_left, exists_eq_right, exists_eq]
  · rintro i ⟨hi, hp'⟩
    by_cases h : i < xs.length
    · simp (config := { maxSteps := 4000000 }) only [go_sem, simprocAttr, ↓dnA, Tryz.f190, rows_length, rows_get _ _ _ h, encA, nlt h, nn0, hm]
      refine CallTo.det (hp _ (List.getElem_mem h)) fun _ => ?_
      rw [drop_cons xs i h] at hp'
      simp (config := { maxSteps := 4000000 }) only [go_sem, simprocAttr, ↓dnA, Tryz.f190, rows_length, rows_get _ _ _ h, encA, nlt h, hm]
      refine ⟨fun h => ?_, fun h' => ?_⟩
      · rw [← hp']; simp [idxF, h]
      · refine ⟨i + 1, [], ⟨by omega, ?_⟩, by dsimp only; omega, Weak.of rfl trivial ?_ rfl⟩
        · rw [← hp']; simp [idxF, h']
        · simp (config := { maxSteps := 4000000 }) only [go_sem, simprocAttr, ↓dnA, Tryz.f190, wsucc h hx, frW, wk2, wk1, wkL, wkB, hpW, List.mem_cons, Prod.mk.injEq, exists_eq_left, exists_eq_right, exists_eq]
    · have : i = xs.length := by omega
      subst this
      rw [List.drop_length] at hp'
      simp (config := { maxSteps := 4000000 }) only [go_sem, simprocAttr, ↓dnA, Tryz.f190, nlf h, hm]
      rw [← hp']
      rfl

theorem c_slices_ContainsFunc_Action (n1 : Option Bool) (xs : List Action) (k : FuncId) (p : Action → Bool) (hx : xs.length < 2 ^ 62) (hm : mutB k = false) (hp : ∀ x, x ∈ xs → Det Tryz.prog k [.agg (encA x)] (.bool (p x))) :
    Det Tryz.prog 177 [.sl n1 (rows encA xs), .fn k []] (.bool (xs.any p)) := by
  refine fspec_det tab_ok Tryz.call177 Tryz.func177 rfl 9 Tryz.ntmps177 (of_decide_eq_true rfl) fun B => codeK_sound tab_ok _ _ _ ?_
  simp (config := { maxSteps := 4000000 }) only [go_sem, simprocAttr, ↓dnA, Tryz.f177]
  refine CallTo.det (c_slices_IndexFunc_Action _ _ _ _ hx hm hp) fun _ => ?_
  simp (config := { maxSteps := 4000000 }) only [go_sem, simprocAttr, ↓dnA, Tryz.f177, idxF_any]


theorem c_impl_ActionsValid1 (a : Action) : Det Tryz.prog 178 [.agg (encA a)] (.bool (!actionValid a)) := by
  refine fspec_det tab_ok Tryz.call178 Tryz.func178 rfl 6 Tryz.ntmps178 (of_decide_eq_true rfl) fun B => codeK_sound tab_ok _ _ _ ?_
  unfold encA
  simp (config := { maxSteps := 4000000 }) only [go_sem, simprocAttr, ↓dnA, Tryz.f178]
  refine CallTo.det (c_impl_ActionValid a) fun _ => ?_
  simp (config := { maxSteps := 4000000 }) only [go_sem, simprocAttr, ↓dnA, Tryz.f178]

def actionsValid (l : List Action) : Bool := decide (l.length ≤ 10) && l.all actionValid

theorem c_impl_ActionsValid (n1 : Option Bool) (xs : List Action) (hx : xs.length < 2 ^ 62) : Det Tryz.prog 145 [.sl n1 (rows encA xs)] (.bool (actionsValid xs)) := by
  have hc : Det Tryz.prog 177 [.sl n1 (rows encA xs), .fn 178 []] (.bool (!xs.all actionValid)) := by
    have := c_slices_ContainsFunc_Action n1 xs 178 (fun x => !actionValid x) hx rfl (fun x _ => c_impl_ActionsValid1 x)
    rwa [any_not] at this
  have he : decide ((xs.length : Int) ≤ 10) = decide (xs.length ≤ 10) := by simp; omega
  refine fspec_det tab_ok Tryz.call145 Tryz.func145 rfl 11 Tryz.ntmps145 (of_decide_eq_true rfl) fun B => codeK_sound tab_ok _ _ _ ?_
  cases h1 : decide (xs.length ≤ 10) with
  | false => simp (config := { maxSteps := 4000000 }) only [go_sem, simprocAttr, ↓dnA, Tryz.f145, rows_length, he, h1, actionsValid]
  | true =>
    simp (config := { maxSteps := 4000000 }) only [go_sem, simprocAttr, ↓dnA, Tryz.f145, rows_length, he, h1, actionsValid]
    refine CallTo.det hc fun _ => ?_
    simp (config := { maxSteps := 4000000 }) only [go_sem, simprocAttr, ↓dnA, Tryz.f145, rows_length, he, h1, actionsValid, Bool.not_not]

theorem c_spec_ActionsValid (n1 : Option Bool) (xs : List Action) (hx : xs.length < 2 ^ 62) : Det Tryz.prog 135 [.sl n1 (rows encA xs)] (.bool (actionsValid xs)) := by
  refine fspec_det tab_ok Tryz.call135 Tryz.func135 rfl 19 Tryz.ntmps135 (of_decide_eq_true rfl) fun B => codeK_sound tab_ok _ _ _ ?_
  simp (config := { maxSteps := 4000000 }) only [go_sem, simprocAttr, ↓dnA, Tryz.f135, rows_length]
  refine semL_for tab_ok (fun i : Nat => ⟨19, [(0, .sl n1 (rows encA xs)), (3, .int .i64 i)], []⟩) (fun i => xs.length - i)
    (fun i => i ≤ xs.length ∧ (xs.drop i).all actionValid = xs.all actionValid) 0 [] (Weak.of rfl trivial ?_ rfl) ⟨by omega, rfl⟩ ?_
  · simp (config := { maxSteps := 4000000 }) only [go_sem, simprocAttr, ↓dnA, Tryz.f135, frW, wk2, wk1, wkL, wkB, hpW, List.mem_cons, Prod.mk.injEq, exists_eq_left, exists_eq_right, exists_eq]
  · rintro i ⟨hi, hp⟩
    by_cases h : i < xs.length
    · rw [drop_cons xs i h, List.all_cons] at hp
      simp (config := { maxSteps := 4000000 }) only [go_sem, simprocAttr, ↓dnA, Tryz.f135, rows_length, rows_get _ _ _ h, encA, nlt h, nn0]
      refine CallTo.det (c_spec_ActionValid xs[i]) fun _ => ?_
      cases h1 : actionValid xs[i] with
      | false =>
        rw [h1, Bool.false_and] at hp
        simp (config := { maxSteps := 4000000 }) only [go_sem, simprocAttr, ↓dnA, Tryz.f135, rows_length, rows_get _ _ _ h, encA, nlt h, nn0, h1, actionsValid, ← hp]
      | true =>
        rw [h1, Bool.true_and] at hp
        simp (config := { maxSteps := 4000000 }) only [go_sem, simprocAttr, ↓dnA, Tryz.f135, rows_length, rows_get _ _ _ h, encA, nlt h, nn0, h1, wsucc h hx]
        refine ⟨i + 1, [], ⟨by omega, hp⟩, by dsimp only; omega, Weak.of rfl trivial ?_ rfl⟩
        simp (config := { maxSteps := 4000000 }) only [go_sem, simprocAttr, ↓dnA, Tryz.f135, frW, wk2, wk1, wkL, wkB, hpW, List.mem_cons, Prod.mk.injEq, exists_eq_left, exists_eq_right, exists_eq]
    · have : i = xs.length := by omega
      subst this
      simp only [List.drop_length, List.all_nil] at hp
      have he : decide ((xs.length : Int) ≤ 10) = decide (xs.length ≤ 10) := by simp; omega
      simp (config := { maxSteps := 4000000 }) only [go_sem, simprocAttr, ↓dnA, Tryz.f135, rows_length, nlf h, he, actionsValid, ← hp]

end Go.Proofs.YthcfafpjkbbaoaaGreat

/- Contracts: stores by the reference, valid blocks. -/
set_option linter.unusedSimpArgs false
set_option linter.unusedVariables false
set_option maxRecDepth 20000
set_option maxHeartbeats 2000000
namespace Go.Proofs.YthcfafpjkbbaoaaGreat
open Go Go.RowKit

theorem c_spec_StoreValid (n1 : Option Bool) (xs : List Entry) (hx : xs.length < 2 ^ 62) : Det Tryz.prog 69 [.sl n1 (rows encE xs)] (.bool (storeValid xs)) := by
  refine fspec_det tab_ok Tryz.call69 Tryz.func69 rfl 44 Tryz.ntmps69 (of_decide_eq_true rfl) fun B => codeK_sound tab_ok _ _ _ ?_
  simp (config := { maxSteps := 4000000 }) only [go_sem, simprocAttr, ↓dnA, Tryz.f69, rows_length]
  refine semL_for tab_ok (fun i : Nat => ⟨44, [(0, .sl n1 (rows encE xs)), (3, .int .i64 i)], []⟩) (fun i => xs.length - i)
    (fun i => i ≤ xs.length ∧ ∃ last : Int, -1 ≤ last ∧ (i = 0 → last = -1) ∧ (∀ j (h : j < xs.length), i = j + 1 → last = xs[j].key) ∧ entOk 1 last (xs.drop i) = storeValid xs) 0 [] (Weak.of rfl trivial ?_ rfl) ⟨by omega, -1, by omega, fun _ => rfl, fun j h hj => by omega, rfl⟩ ?_
  · simp (config := { maxSteps := 4000000 }) only [go_sem, simprocAttr, ↓dnA, Tryz.f69, frW, wk2, wk1, wkL, wkB, hpW, List.mem_cons, Prod.mk.injEq, exists_eq_left, exists_eq_right, exists_eq]
  · rintro i ⟨hi, last, hl, h0, hs, hp⟩
    by_cases h : i < xs.length
    · rw [drop_cons xs i h] at hp
      simp only [entOk] at hp
      simp (config := { maxSteps := 4000000 }) only [go_sem, simprocAttr, ↓dnA, Tryz.f69, rows_length, rows_get _ _ _ h, encE, nlt h, nn0]
      refine semL_draw tab_ok mixed_ rfl (ord := [(0, []), (1, []), (2, []), (3, []), (4, []), (5, []), (6, []), (7, []), (8, []), (9, []), (10, []), (11, []), (12, []), (13, []), (14, []), (15, []), (16, []), (17, []), (18, []), (19, []), (20, []), (21, []), (22, []), (23, []), (24, []), (25, []), (26, []), (27, []), (28, []), (29, []), (30, []), (31, []), (32, []), (33, [])]) (by dsimp only; decide +kernel) ?_
      simp (config := { maxSteps := 4000000 }) only [go_sem, simprocAttr, ↓dnA, Tryz.f69, rows_length, rows_get _ _ _ h, encE, nlt h, nn0]
      refine CallTo.det (c_l1In _ _ _) fun _ => ?_
      cases h1 : inB xs[i].key 0 31 with
      | false =>
        have h1' : inB xs[i].key (last + 1) 31 = false := by
          cases hc : inB xs[i].key (last + 1) 31 with
          | false => rfl
          | true => rw [inB_iff] at hc; rw [inB_iff.2 ⟨by omega, hc.2⟩] at h1; exact h1
        rw [h1', Bool.false_and, Bool.false_and] at hp
        simp (config := { maxSteps := 4000000 }) only [go_sem, simprocAttr, ↓dnA, Tryz.f69, rows_length, rows_get _ _ _ h, encE, nlt h, nn0, h1]
        exact hp.symm
      | true =>
        simp (config := { maxSteps := 4000000 }) only [go_sem, simprocAttr, ↓dnA, Tryz.f69, rows_length, rows_get _ _ _ h, encE, nlt h, nn0, h1]
        refine CallTo.det (c_l1In _ _ _) fun _ => ?_
        cases h2 : inB xs[i].value 1 1000000 with
        | false =>
          rw [h2, Bool.and_false, Bool.false_and] at hp
          simp (config := { maxSteps := 4000000 }) only [go_sem, simprocAttr, ↓dnA, Tryz.f69, rows_length, rows_get _ _ _ h, encE, nlt h, nn0, h1, h2]
          exact hp.symm
        | true =>
          rcases Nat.eq_zero_or_pos i with rfl | hpos
          · simp (config := { maxSteps := 4000000 }) only [go_sem, simprocAttr, ↓dnA, Tryz.f69, rows_length, rows_get _ _ _ h, encE, nlt h, nn0, h1, h2]
            have hl0 := h0 rfl
            have w1 : IntKind.i64.wrap 1 = 1 := by decide
            subst hl0
            rw [h2] at hp
            have h1' : inB (xs[0]'h).key (-1 + 1) 31 = true := h1
            rw [h1', Bool.true_and, Bool.true_and] at hp
            have hk := inB_iff.1 h1
            refine ⟨1, [], ⟨by omega, (xs[0]'h).key, by omega, fun hc => absurd hc (by omega), fun j hj e => ?_, hp⟩, by dsimp only; omega, Weak.of rfl trivial ?_ rfl⟩
            · obtain rfl : j = 0 := by omega
              rfl
            · simp (config := { maxSteps := 4000000 }) only [go_sem, simprocAttr, ↓dnA, Tryz.f69, w1, frW, wk2, wk1, wkL, wkB, hpW, List.mem_cons, Prod.mk.injEq, exists_eq_left, exists_eq_right, exists_eq]
          · obtain ⟨j, rfl⟩ : ∃ j, i = j + 1 := ⟨i - 1, by omega⟩
            have hw : IntKind.i64.wrap (((j + 1 : Nat) : Int) - 1) = (j : Int) := by rw [wrap_small _ (by omega) (by omega)]; omega
            have hj : j < xs.length := by omega
            have hg : decide (((j + 1 : Nat) : Int) > 0) = true := by simp
            have hls := hs j hj rfl
            simp (config := { maxSteps := 4000000 }) only [go_sem, simprocAttr, ↓dnA, Tryz.f69, rows_length, rows_get _ _ _ h, encE, nlt h, nn0, h1, h2, hw, rows_get _ _ _ hj, nlt hj, hg]
            have hk := inB_iff.1 h1
            cases h3 : decide (xs[j + 1].key ≤ xs[j].key) with
            | true =>
              have h1' : inB xs[j + 1].key (last + 1) 31 = false := by
                cases hc : inB xs[j + 1].key (last + 1) 31 with
                | false => rfl
                | true => rw [inB_iff] at hc; simp at h3; omega
              rw [h1', Bool.false_and, Bool.false_and] at hp
              exact ⟨fun _ => hp.symm, fun hc => by simp at hc⟩
            | false =>
              have h1' : inB xs[j + 1].key (last + 1) 31 = true := by rw [inB_iff]; simp at h3; omega
              rw [h1', h2, Bool.true_and, Bool.true_and] at hp
              simp only [Bool.false_eq_true, false_implies, true_implies, true_and, forall_const]
              refine ⟨j + 1 + 1, [], ⟨by omega, xs[j + 1].key, by omega, fun hc => absurd hc (by omega), fun j' hj' e => ?_, hp⟩, by dsimp only; omega, Weak.of rfl trivial ?_ rfl⟩
              · obtain rfl : j' = j + 1 := by omega
                rfl
              · simp (config := { maxSteps := 4000000 }) only [go_sem, simprocAttr, ↓dnA, Tryz.f69, wsucc h hx, frW, wk2, wk1, wkL, wkB, hpW, List.mem_cons, Prod.mk.injEq, exists_eq_left, exists_eq_right, exists_eq]
    · have : i = xs.length := by omega
      subst this
      simp only [List.drop_length] at hp
      simp (config := { maxSteps := 4000000 }) only [go_sem, simprocAttr, ↓dnA, Tryz.f69, rows_length, nlf h]
      exact hp.symm

end Go.Proofs.YthcfafpjkbbaoaaGreat

/- Contracts: valid blocks. -/
set_option linter.unusedSimpArgs false
set_option linter.unusedVariables false
set_option maxRecDepth 20000
set_option maxHeartbeats 2000000
namespace Go.Proofs.YthcfafpjkbbaoaaGreat
open Go Go.RowKit

structure Block where
  before : Int
  height : Int
  view : Int
  list : List Action
  root : Int
  effects : Int
deriving DecidableEq, Inhabited

def encBk (n : Option Bool) (b : Block) : List AV := [.int .i64 b.before, .int .i64 b.height, .int .i64 b.view, .sl n (rows encA b.list), .int .i64 b.root, .int .i64 b.effects]

def blockValid (b : Block) : Bool := inB b.before 0 1000002 && inB b.root 0 1000002 && inB b.effects 0 1000002 && inB b.height 0 100 && inB b.view 0 1000 && actionsValid b.list

theorem c_isView (x : Int) : Det Tryz.prog 140 [.int .i64 x] (.bool (inB x 0 1000)) := c_impl_isView x

theorem c_impl_BlockValid (n : Option Bool) (b : Block) (hx : b.list.length < 2 ^ 62) : Det Tryz.prog 144 [.agg (encBk n b)] (.bool (blockValid b)) := by
  refine fspec_det tab_ok Tryz.call144 Tryz.func144 rfl 31 Tryz.ntmps144 (of_decide_eq_true rfl) fun B => codeK_sound tab_ok _ _ _ ?_
  unfold encBk
  simp (config := { maxSteps := 4000000 }) only [go_sem, simprocAttr, ↓dnA, Tryz.f144]
  refine CallTo.det (c_impl_isSum _) fun _ => ?_
  cases hc1 : inB b.before 0 1000002
  · (try simp (config := { maxSteps := 4000000 }) only [go_sem, simprocAttr, ↓dnA, Tryz.f144, blockValid, hc1]) <;> (try rfl)
  (try simp (config := { maxSteps := 4000000 }) only [go_sem, simprocAttr, ↓dnA, Tryz.f144, blockValid, hc1]) <;> (try rfl)
  refine CallTo.det (c_impl_isSum _) fun _ => ?_
  cases hc2 : inB b.root 0 1000002
  · (try simp (config := { maxSteps := 4000000 }) only [go_sem, simprocAttr, ↓dnA, Tryz.f144, blockValid, hc1, hc2]) <;> (try rfl)
  (try simp (config := { maxSteps := 4000000 }) only [go_sem, simprocAttr, ↓dnA, Tryz.f144, blockValid, hc1, hc2]) <;> (try rfl)
  refine CallTo.det (c_impl_isSum _) fun _ => ?_
  cases hc3 : inB b.effects 0 1000002
  · (try simp (config := { maxSteps := 4000000 }) only [go_sem, simprocAttr, ↓dnA, Tryz.f144, blockValid, hc1, hc2, hc3]) <;> (try rfl)
  (try simp (config := { maxSteps := 4000000 }) only [go_sem, simprocAttr, ↓dnA, Tryz.f144, blockValid, hc1, hc2, hc3]) <;> (try rfl)
  refine CallTo.det (c_in _ _ _) fun _ => ?_
  cases hc4 : inB b.height 0 100
  · (try simp (config := { maxSteps := 4000000 }) only [go_sem, simprocAttr, ↓dnA, Tryz.f144, blockValid, hc1, hc2, hc3, hc4]) <;> (try rfl)
  (try simp (config := { maxSteps := 4000000 }) only [go_sem, simprocAttr, ↓dnA, Tryz.f144, blockValid, hc1, hc2, hc3, hc4]) <;> (try rfl)
  refine CallTo.det (c_isView _) fun _ => ?_
  cases hc5 : inB b.view 0 1000
  · (try simp (config := { maxSteps := 4000000 }) only [go_sem, simprocAttr, ↓dnA, Tryz.f144, blockValid, hc1, hc2, hc3, hc4, hc5]) <;> (try rfl)
  (try simp (config := { maxSteps := 4000000 }) only [go_sem, simprocAttr, ↓dnA, Tryz.f144, blockValid, hc1, hc2, hc3, hc4, hc5]) <;> (try rfl)
  refine CallTo.det (c_impl_ActionsValid _ _ hx) fun _ => ?_
  cases hc6 : actionsValid b.list
  · (try simp (config := { maxSteps := 4000000 }) only [go_sem, simprocAttr, ↓dnA, Tryz.f144, blockValid, hc1, hc2, hc3, hc4, hc5, hc6]) <;> (try rfl)
  (try simp (config := { maxSteps := 4000000 }) only [go_sem, simprocAttr, ↓dnA, Tryz.f144, blockValid, hc1, hc2, hc3, hc4, hc5, hc6]) <;> (try rfl)

theorem c_spec_BlockValid (n : Option Bool) (b : Block) (hx : b.list.length < 2 ^ 62) : Det Tryz.prog 71 [.agg (encBk n b)] (.bool (blockValid b)) := by
  refine fspec_det tab_ok Tryz.call71 Tryz.func71 rfl 31 Tryz.ntmps71 (of_decide_eq_true rfl) fun B => codeK_sound tab_ok _ _ _ ?_
  unfold encBk
  simp (config := { maxSteps := 4000000 }) only [go_sem, simprocAttr, ↓dnA, Tryz.f71]
  refine CallTo.det (c_l1In _ _ _) fun _ => ?_
  cases hc1 : inB b.before 0 1000002
  · (try simp (config := { maxSteps := 4000000 }) only [go_sem, simprocAttr, ↓dnA, Tryz.f71, blockValid, hc1]) <;> (try rfl)
  (try simp (config := { maxSteps := 4000000 }) only [go_sem, simprocAttr, ↓dnA, Tryz.f71, blockValid, hc1]) <;> (try rfl)
  refine CallTo.det (c_l1In _ _ _) fun _ => ?_
  cases hc2 : inB b.root 0 1000002
  · (try simp (config := { maxSteps := 4000000 }) only [go_sem, simprocAttr, ↓dnA, Tryz.f71, blockValid, hc1, hc2]) <;> (try rfl)
  (try simp (config := { maxSteps := 4000000 }) only [go_sem, simprocAttr, ↓dnA, Tryz.f71, blockValid, hc1, hc2]) <;> (try rfl)
  refine CallTo.det (c_l1In _ _ _) fun _ => ?_
  cases hc3 : inB b.effects 0 1000002
  · (try simp (config := { maxSteps := 4000000 }) only [go_sem, simprocAttr, ↓dnA, Tryz.f71, blockValid, hc1, hc2, hc3]) <;> (try rfl)
  (try simp (config := { maxSteps := 4000000 }) only [go_sem, simprocAttr, ↓dnA, Tryz.f71, blockValid, hc1, hc2, hc3]) <;> (try rfl)
  refine CallTo.det (c_l1In _ _ _) fun _ => ?_
  cases hc4 : inB b.height 0 100
  · (try simp (config := { maxSteps := 4000000 }) only [go_sem, simprocAttr, ↓dnA, Tryz.f71, blockValid, hc1, hc2, hc3, hc4]) <;> (try rfl)
  (try simp (config := { maxSteps := 4000000 }) only [go_sem, simprocAttr, ↓dnA, Tryz.f71, blockValid, hc1, hc2, hc3, hc4]) <;> (try rfl)
  refine CallTo.det (c_l1In _ _ _) fun _ => ?_
  cases hc5 : inB b.view 0 1000
  · (try simp (config := { maxSteps := 4000000 }) only [go_sem, simprocAttr, ↓dnA, Tryz.f71, blockValid, hc1, hc2, hc3, hc4, hc5]) <;> (try rfl)
  (try simp (config := { maxSteps := 4000000 }) only [go_sem, simprocAttr, ↓dnA, Tryz.f71, blockValid, hc1, hc2, hc3, hc4, hc5]) <;> (try rfl)
  refine CallTo.det (c_spec_ActionsValid _ _ hx) fun _ => ?_
  cases hc6 : actionsValid b.list
  · (try simp (config := { maxSteps := 4000000 }) only [go_sem, simprocAttr, ↓dnA, Tryz.f71, blockValid, hc1, hc2, hc3, hc4, hc5, hc6]) <;> (try rfl)
  (try simp (config := { maxSteps := 4000000 }) only [go_sem, simprocAttr, ↓dnA, Tryz.f71, blockValid, hc1, hc2, hc3, hc4, hc5, hc6]) <;> (try rfl)

end Go.Proofs.YthcfafpjkbbaoaaGreat

/- Contracts: sums of leaves and of nodes. -/
set_option linter.unusedSimpArgs false
set_option linter.unusedVariables false
set_option maxRecDepth 20000
set_option maxHeartbeats 2000000
namespace Go.Proofs.YthcfafpjkbbaoaaGreat
open Go Go.RowKit

theorem c_spec_l1Sum (tag : Int) (n1 : Option Bool) (xs : List Int) (hx : xs.length < 2 ^ 62) (ht : 0 ≤ tag ∧ tag ≤ 9) (ha : ∀ x, x ∈ xs → 0 ≤ x ∧ x ≤ 2000000) :
    Det Tryz.prog 136 [.int .i64 tag, .sl n1 (rows encI xs)] (.int .i64 (sumI (17 + tag) xs)) := by
  refine fspec_det tab_ok Tryz.call136 Tryz.func136 rfl 25 Tryz.ntmps136 (of_decide_eq_true rfl) fun B => codeK_sound tab_ok _ _ _ ?_
  simp (config := { maxSteps := 4000000 }) only [go_sem, simprocAttr, ↓dnA, Tryz.f136, rows_length, wrap_small (17 + tag) (by omega) (by omega)]
  refine semL_for tab_ok (fun p : Nat × Int => ⟨25, [(1, .sl n1 (rows encI xs)), (5, .int .i64 p.2), (6, .int .i64 p.1)], []⟩) (fun p => xs.length - p.1)
    (fun p => p.1 ≤ xs.length ∧ (0 ≤ p.2 ∧ p.2 ≤ 1000003) ∧ sumI p.2 (xs.drop p.1) = sumI (17 + tag) xs) (0, 17 + tag) [] (Weak.of rfl trivial ?_ rfl) ⟨by omega, by simp only; omega, rfl⟩ ?_
  · simp (config := { maxSteps := 4000000 }) only [go_sem, simprocAttr, ↓dnA, Tryz.f136, frW, wk2, wk1, wkL, wkB, hpW, List.mem_cons, Prod.mk.injEq, exists_eq_left, exists_eq_right, exists_eq]
  · rintro ⟨i, s⟩ ⟨hi, hs, hp⟩
    by_cases h : i < xs.length
    · have hb := ha _ (List.getElem_mem h)
      simp only at hs hp
      simp (config := { maxSteps := 4000000 }) only [go_sem, simprocAttr, ↓dnA, Tryz.f136, rows_length, rows_get _ _ _ h, encI, nlt h, nn0]
      rw [wrap_small (31 * s) (by omega) (by omega), wrap_small (31 * s + xs[i]) (by omega) (by omega), wrap_small (31 * s + xs[i] + 7) (by omega) (by omega), Int.tmod_eq_emod_of_nonneg (by omega)]
      refine ⟨(i + 1, moreI s xs[i]), [], ⟨by simp only; omega, ⟨(moreI_bd _ _).1, by have := (moreI_bd s xs[i]).2; simp only; omega⟩, ?_⟩, by simp only; omega, Weak.of rfl trivial ?_ rfl⟩
      · rw [← hp, drop_cons xs i h]; rfl
      · simp (config := { maxSteps := 4000000 }) only [go_sem, simprocAttr, ↓dnA, Tryz.f136, wsucc h hx, moreI, frW, wk2, wk1, wkL, wkB, hpW, List.mem_cons, Prod.mk.injEq, exists_eq_left, exists_eq_right, exists_eq]
    · have : i = xs.length := by simp only at hi; omega
      subst this
      simp only [List.drop_length] at hp
      simp (config := { maxSteps := 4000000 }) only [go_sem, simprocAttr, ↓dnA, Tryz.f136, rows_length, nlf h]
      exact hp.symm

/-- The sum of a leaf. -/
def leafSum (k v : Int) : Int := if inB k 0 31 && inB v 0 1000000 then sumI 18 [k, v] else -1

theorem c_spec_LeafSum (k v : Int) : Det Tryz.prog 187 [.int .i64 k, .int .i64 v] (.int .i64 (leafSum k v)) := by
  refine fspec_det tab_ok Tryz.call187 Tryz.func187 rfl 17 Tryz.ntmps187 (of_decide_eq_true rfl) fun B => codeK_sound tab_ok _ _ _ ?_
  simp (config := { maxSteps := 4000000 }) only [go_sem, simprocAttr, ↓dnA, Tryz.f187]
  refine CallTo.det (c_l1In _ _ _) fun _ => ?_
  cases h1 : inB k 0 31 with
  | false => simp (config := { maxSteps := 4000000 }) only [go_sem, simprocAttr, ↓dnA, Tryz.f187, h1, leafSum]
  | true =>
    simp (config := { maxSteps := 4000000 }) only [go_sem, simprocAttr, ↓dnA, Tryz.f187, h1]
    refine CallTo.det (c_l1In _ _ _) fun _ => ?_
    cases h2 : inB v 0 1000000 with
    | false => simp (config := { maxSteps := 4000000 }) only [go_sem, simprocAttr, ↓dnA, Tryz.f187, h1, h2, leafSum]
    | true =>
      simp (config := { maxSteps := 4000000 }) only [go_sem, simprocAttr, ↓dnA, Tryz.f187, h1, h2]
      have h1' := inB_iff.1 h1
      have h2' := inB_iff.1 h2
      refine CallTo.det (c_spec_l1Sum 1 _ [k, v] (by simp) (by omega) (by simp; omega)) fun _ => ?_
      simp (config := { maxSteps := 4000000 }) only [go_sem, simprocAttr, ↓dnA, Tryz.f187, h1, h2, leafSum]

theorem c_impl_LeafSum (k v : Int) : Det Tryz.prog 163 [.int .i64 k, .int .i64 v] (.int .i64 (leafSum k v)) := by
  refine fspec_det tab_ok Tryz.call163 Tryz.func163 rfl 17 Tryz.ntmps163 (of_decide_eq_true rfl) fun B => codeK_sound tab_ok _ _ _ ?_
  simp (config := { maxSteps := 4000000 }) only [go_sem, simprocAttr, ↓dnA, Tryz.f163]
  refine CallTo.det (c_impl_isKey _) fun _ => ?_
  cases h1 : inB k 0 31 with
  | false => simp (config := { maxSteps := 4000000 }) only [go_sem, simprocAttr, ↓dnA, Tryz.f163, h1, leafSum]
  | true =>
    simp (config := { maxSteps := 4000000 }) only [go_sem, simprocAttr, ↓dnA, Tryz.f163, h1]
    refine CallTo.det (c_impl_isValue _) fun _ => ?_
    cases h2 : inB v 0 1000000 with
    | false => simp (config := { maxSteps := 4000000 }) only [go_sem, simprocAttr, ↓dnA, Tryz.f163, h1, h2, leafSum]
    | true =>
      simp (config := { maxSteps := 4000000 }) only [go_sem, simprocAttr, ↓dnA, Tryz.f163, h1, h2]
      have h1' := inB_iff.1 h1
      have h2' := inB_iff.1 h2
      refine CallTo.det (c_impl_SumOf 1 _ [k, v] (by simp)) fun _ => ?_
      simp (config := { maxSteps := 4000000 }) only [go_sem, simprocAttr, ↓dnA, Tryz.f163, h1, h2, leafSum]
      simp [sumOf, isSummedB]
      omega

theorem c_spec_l3Node (a b : Int) (ha : 0 ≤ a ∧ a ≤ 2000000) (hb : 0 ≤ b ∧ b ≤ 2000000) : Det Tryz.prog 189 [.int .i64 a, .int .i64 b] (.int .i64 (sumI 19 [a, b])) := by
  refine fspec_det tab_ok Tryz.call189 Tryz.func189 rfl 9 Tryz.ntmps189 (of_decide_eq_true rfl) fun B => codeK_sound tab_ok _ _ _ ?_
  simp (config := { maxSteps := 4000000 }) only [go_sem, simprocAttr, ↓dnA, Tryz.f189]
  refine CallTo.det (c_spec_l1Sum 2 _ [a, b] (by simp) (by omega) (by simp; omega)) fun _ => ?_
  simp (config := { maxSteps := 4000000 }) only [go_sem, simprocAttr, ↓dnA, Tryz.f189]

/-- The value of a key. -/
def valAt : List Entry → Int → Int
  | [], _ => 0
  | e :: r, k => if e.key = k then e.value else valAt r k

theorem c_spec_l2At (n1 : Option Bool) (xs : List Entry) (k : Int) (hx : xs.length < 2 ^ 62) : Det Tryz.prog 188 [.sl n1 (rows encE xs), .int .i64 k] (.int .i64 (valAt xs k)) := by
  refine fspec_det tab_ok Tryz.call188 Tryz.func188 rfl 24 Tryz.ntmps188 (of_decide_eq_true rfl) fun B => codeK_sound tab_ok _ _ _ ?_
  simp (config := { maxSteps := 4000000 }) only [go_sem, simprocAttr, ↓dnA, Tryz.f188, rows_length]
  refine semL_for tab_ok (fun i : Nat => ⟨24, [(0, .sl n1 (rows encE xs)), (1, .int .i64 k), (5, .int .i64 i)], []⟩) (fun i => xs.length - i)
    (fun i => i ≤ xs.length ∧ valAt (xs.drop i) k = valAt xs k) 0 [] (Weak.of rfl trivial ?_ rfl) ⟨by omega, rfl⟩ ?_
  · simp (config := { maxSteps := 4000000 }) only [go_sem, simprocAttr, ↓dnA, Tryz.f188, frW, wk2, wk1, wkL, wkB, hpW, List.mem_cons, Prod.mk.injEq, exists_eq_left, exists_eq_right, exists_eq]
  · rintro i ⟨hi, hp⟩
    by_cases h : i < xs.length
    · rw [drop_cons xs i h] at hp
      simp only [valAt] at hp
      simp (config := { maxSteps := 4000000 }) only [go_sem, simprocAttr, ↓dnA, Tryz.f188, rows_length, rows_get _ _ _ h, encE, nlt h, nn0]
      refine ⟨fun he => ?_, fun he => ?_⟩
      · rw [if_pos (by simpa using he)] at hp
        exact hp.symm
      · rw [if_neg (by simpa using he)] at hp
        refine ⟨i + 1, [], ⟨by omega, hp⟩, by dsimp only; omega, Weak.of rfl trivial ?_ rfl⟩
        simp (config := { maxSteps := 4000000 }) only [go_sem, simprocAttr, ↓dnA, Tryz.f188, wsucc h hx, frW, wk2, wk1, wkL, wkB, hpW, List.mem_cons, Prod.mk.injEq, exists_eq_left, exists_eq_right, exists_eq]
    · have : i = xs.length := by omega
      subst this
      simp only [List.drop_length] at hp
      simp (config := { maxSteps := 4000000 }) only [go_sem, simprocAttr, ↓dnA, Tryz.f188, rows_length, nlf h]
      exact hp.symm

end Go.Proofs.YthcfafpjkbbaoaaGreat

/- Contracts: roots. -/
set_option linter.unusedSimpArgs false
set_option linter.unusedVariables false
set_option maxRecDepth 20000
set_option maxHeartbeats 2000000
namespace Go.Proofs.YthcfafpjkbbaoaaGreat
open Go Go.RowKit

/-- The values of a function at 0..n-1. -/
def upto (f : Int → Int) (n : Nat) : List Int := (List.range n).map fun k : Nat => f (k : Int)

theorem upto_succ (f : Int → Int) (n : Nat) : upto f (n + 1) = upto f n ++ [f n] := by simp [upto, List.range_succ]
theorem upto_length (f : Int → Int) (n : Nat) : (upto f n).length = n := by simp [upto]

/-- The next level. -/
def pairUp : List Int → List Int
  | a :: b :: r => sumI 19 [a, b] :: pairUp r
  | _ => []

def upN : Nat → List Int → List Int
  | 0, l => l
  | n + 1, l => upN n (pairUp l)

/-- Numbers that sums take. -/
def Smd (l : List Int) : Prop := ∀ x, x ∈ l → 0 ≤ x ∧ x ≤ 2000000

theorem sumI2_bd (s a b : Int) : 0 ≤ sumI s [a, b] ∧ sumI s [a, b] ≤ 2000000 := by
  have := moreI_bd (moreI s a) b
  show 0 ≤ moreI (moreI s a) b ∧ moreI (moreI s a) b ≤ 2000000
  omega

theorem pairUp_smd : ∀ (l : List Int), Smd (pairUp l)
  | a :: b :: r => by
    intro x hx
    rcases List.mem_cons.1 hx with rfl | hx
    · exact sumI2_bd _ _ _
    · exact pairUp_smd r x hx
  | [] => fun x hx => by cases hx
  | [_] => fun x hx => by cases hx

theorem pairUp_len : ∀ (l : List Int), 2 * (pairUp l).length ≤ l.length
  | a :: b :: r => by have := pairUp_len r; simp [pairUp]; omega
  | [] => by simp [pairUp]
  | [_] => by simp [pairUp]

theorem leafSum_bd {k v : Int} (hk : 0 ≤ k ∧ k ≤ 31) (hv : 0 ≤ v ∧ v ≤ 1000000) : 0 ≤ leafSum k v ∧ leafSum k v ≤ 2000000 := by
  unfold leafSum
  rw [inB_iff.2 hk, inB_iff.2 hv]
  exact sumI2_bd _ _ _

/-- The sums of the leaves. -/
def leaves (xs : List Entry) : List Int := upto (fun k => leafSum k (valAt xs k)) 32

theorem leaves_smd (xs : List Entry) (hv : ∀ k, 0 ≤ valAt xs k ∧ valAt xs k ≤ 1000000) : Smd (leaves xs) := by
  intro x hx
  simp only [leaves, upto, List.mem_map, List.mem_range] at hx
  obtain ⟨k, hk, rfl⟩ := hx
  exact leafSum_bd (by omega) (hv _)

theorem rows_snoc {α : Type} (e : α → List AV) (xs : List α) (x : α) : rows e xs ++ [e x] = rows e (xs ++ [x]) := by simp [rows]
theorem take_rows {α : Type} (e : α → List AV) (xs : List α) (n : Nat) (h : n = xs.length) : (rows e xs).take n = rows e xs := by
  rw [List.take_of_length_le]; simp [rows]; omega

theorem c_spec_l3Level (n1 : Option Bool) (xs : List Entry) (lv : Nat) (hx : xs.length < 2 ^ 62) (hlv : lv ≤ 5) (hv : ∀ k, 0 ≤ valAt xs k ∧ valAt xs k ≤ 1000000) :
    Det Tryz.prog 173 [.sl n1 (rows encE xs), .int .i64 lv] (.osl true 1 (rows encI (upN lv (leaves xs)))) := by
  refine fspec_det tab_ok Tryz.call173 Tryz.func173 rfl 51 Tryz.ntmps173 (of_decide_eq_true rfl) fun B => codeK_sound tab_ok _ _ _ ?_
  simp (config := { maxSteps := 4000000 }) only [go_sem, simprocAttr, ↓dnA, Tryz.f173]
  refine semL_for tab_ok (fun i : Nat => ⟨51, [(0, .sl n1 (rows encE xs)), (1, .int .i64 lv), (5, .row 10 i), (6, .int .i64 i)], [(10, .row true true 1 (rows encI (upto (fun k => leafSum k (valAt xs k)) i)))]⟩) (fun i => 32 - i)
    (fun i => i ≤ 32) 0 [(10, 10)] (Weak.of rfl ?_ ?_ rfl) (by omega) ?_
  · simp (config := { maxSteps := 4000000 }) only [go_sem, simprocAttr, ↓dnA, Tryz.f173, frW, wk2, wk1, wkL, wkB, hpW, List.mem_cons, Prod.mk.injEq, exists_eq_left, exists_eq_right, exists_eq]
    rfl
  · simp (config := { maxSteps := 4000000 }) only [go_sem, simprocAttr, ↓dnA, Tryz.f173, frW, wk2, wk1, wkL, wkB, hpW, List.mem_cons, Prod.mk.injEq, exists_eq_left, exists_eq_right, exists_eq]
  · rintro i hi
    by_cases h : i < 32
    · have hd : decide ((i : Int) ≤ 31) = true := by simp; omega
      have hw : IntKind.i64.wrap ((i : Int) + 1) = ((i + 1 : Nat) : Int) := by rw [wrap_small _ (by omega) (by omega)]; simp
      have ht := take_rows encI (upto (fun k => leafSum k (valAt xs k)) i) i (upto_length _ _).symm
      simp (config := { maxSteps := 4000000 }) only [go_sem, simprocAttr, ↓dnA, Tryz.f173, hd, rows_length, upto_length]
      refine CallTo.det (c_spec_l2At _ _ _ hx) fun _ => ?_
      simp (config := { maxSteps := 4000000 }) only [go_sem, simprocAttr, ↓dnA, Tryz.f173, hd, rows_length, upto_length]
      refine CallTo.det (c_spec_LeafSum _ _) fun _ => ?_
      simp (config := { maxSteps := 4000000 }) only [go_sem, simprocAttr, ↓dnA, Tryz.f173, hd, rows_length, upto_length, hw, ht]
      repeat refine And.intro (by first | omega | (simp; done) | (simp; omega) | assumption) ?_
      refine ⟨i + 1, [(22, 10)], by omega, by dsimp only; omega, Weak.of (by rfl) ?_ ?_ (by rfl)⟩
      · simp (config := { maxSteps := 4000000 }) only [go_sem, simprocAttr, ↓dnA, Tryz.f173, upto_succ, frW, wk2, wk1, wkL, wkB, hpW, List.mem_cons, Prod.mk.injEq, exists_eq_left, exists_eq_right, exists_eq]
        exact (rows_snoc encI _ _).symm
      · simp (config := { maxSteps := 4000000 }) only [go_sem, simprocAttr, ↓dnA, Tryz.f173, frW, wk2, wk1, wkL, wkB, hpW, List.mem_cons, Prod.mk.injEq, exists_eq_left, exists_eq_right, exists_eq]
    · have : i = 32 := by omega
      subst this
      simp (config := { maxSteps := 4000000 }) only [go_sem, simprocAttr, ↓dnA, Tryz.f173, rows_length, upto_length]
      refine semL_for tab_ok (fun p : Nat × List Int => ⟨51, [(0, .sl n1 (rows encE xs)), (1, .int .i64 lv), (5, .row 10 p.2.length), (7, .int .i64 p.1)], [(10, .row true true 1 (rows encI p.2))]⟩) (fun p => lv - p.1)
        (fun p => p.1 ≤ lv ∧ Smd p.2 ∧ p.2.length ≤ 32 ∧ upN (lv - p.1) p.2 = upN lv (leaves xs)) (0, leaves xs) [(10, 10)] (Weak.of rfl ?_ ?_ rfl) ⟨by omega, leaves_smd xs hv, by simp [leaves, upto_length], rfl⟩ ?_
      · simp (config := { maxSteps := 4000000 }) only [go_sem, simprocAttr, ↓dnA, Tryz.f173, frW, wk2, wk1, wkL, wkB, hpW, List.mem_cons, Prod.mk.injEq, exists_eq_left, exists_eq_right, exists_eq]
        rfl
      · simp (config := { maxSteps := 4000000 }) only [go_sem, simprocAttr, ↓dnA, Tryz.f173, leaves, upto_length, frW, wk2, wk1, wkL, wkB, hpW, List.mem_cons, Prod.mk.injEq, exists_eq_left, exists_eq_right, exists_eq]
      · rintro ⟨i, r⟩ ⟨hi, hr, hl, hu⟩
        simp only at hi hr hl hu
        by_cases h : i < lv
        · simp (config := { maxSteps := 4000000 }) only [go_sem, simprocAttr, ↓dnA, Tryz.f173, rows_length, nlt h]
          refine semL_for tab_ok (fun p : Nat × List Int => ⟨51, [(0, .sl n1 (rows encE xs)), (1, .int .i64 lv), (5, .row 10 r.length), (7, .int .i64 i), (8, .row 28 p.2.length), (9, .int .i64 p.1)], [(10, .row true true 1 (rows encI r)), (28, .row true true 1 (rows encI p.2))]⟩) (fun p => r.length - p.1)
            (fun p => p.1 ≤ r.length ∧ p.2.length ≤ 32 ∧ p.2 ++ pairUp (r.drop p.1) = pairUp r) (0, []) [(10, 10), (28, 28)] (Weak.of rfl ?_ ?_ rfl) ⟨by omega, by simp, rfl⟩ ?_
          · simp (config := { maxSteps := 4000000 }) only [go_sem, simprocAttr, ↓dnA, Tryz.f173, frW, wk2, wk1, wkL, wkB, hpW, List.mem_cons, Prod.mk.injEq, exists_eq_left, exists_eq_right, exists_eq]
            rfl
          · simp (config := { maxSteps := 4000000 }) only [go_sem, simprocAttr, ↓dnA, Tryz.f173, frW, wk2, wk1, wkL, wkB, hpW, List.mem_cons, Prod.mk.injEq, exists_eq_left, exists_eq_right, exists_eq]
          · rintro ⟨j, nx⟩ ⟨hj, hn, hp⟩
            simp only at hj hn hp
            have hw1 : IntKind.i64.wrap ((j : Int) + 1) = ((j + 1 : Nat) : Int) := by rw [wrap_small _ (by omega) (by omega)]; simp
            by_cases h1 : j + 1 < r.length
            · have h0 : j < r.length := by omega
              simp (config := { maxSteps := 4000000 }) only [go_sem, simprocAttr, ↓dnA, Tryz.f173, rows_length, hw1, nlt h1]
              refine semL_drawL tab_ok 13 mixed_ rfl (ord := [(0, []), (1, []), (2, []), (3, []), (4, []), (5, []), (6, []), (7, []), (8, []), (9, []), (10, [0]), (11, [0]), (12, [])]) (by dsimp only; decide +kernel) ?_
              simp (config := { maxSteps := 4000000 }) only [go_sem, simprocAttr, ↓dnA, Tryz.f173, rows_length, hw1, nlt h1, nlt h0, nn0, rows_get _ _ _ h0, rows_get _ _ _ h1, encI]
              have hb1 := hr _ (List.getElem_mem h0)
              have hb2 := hr _ (List.getElem_mem h1)
              have hw2 : IntKind.i64.wrap ((j : Int) + 2) = ((j + 2 : Nat) : Int) := by rw [wrap_small _ (by omega) (by omega)]; simp
              have ht := take_rows encI nx nx.length rfl
              have hnl : nx.length < 32 := by
                have h2 := congrArg List.length hp
                have h3 := pairUp_len r
                rw [drop_cons r j h0, drop_cons r (j + 1) h1] at h2
                simp [pairUp] at h2
                omega
              rw [drop_cons r j h0, drop_cons r (j + 1) h1] at hp
              simp only [pairUp] at hp
              refine ⟨h0, h1, CallTo.det (c_spec_l3Node _ _ hb1 hb2) fun _ => ?_⟩
              simp (config := { maxSteps := 4000000 }) only [go_sem, simprocAttr, ↓dnA, Tryz.f173, rows_length, hw1, nlt h1, nlt h0, nn0, rows_get _ _ _ h0, rows_get _ _ _ h1, encI, ht, hw2]
              repeat refine And.intro (by first | omega | (simp; done) | (simp; omega) | assumption) ?_
              refine ⟨(j + 2, nx ++ [sumI 19 [r[j], r[j + 1]]]), [(10, 10), (48, 28)], ⟨by dsimp only; omega, by simp; omega, ?_⟩, by dsimp only; omega, Weak.of (by rfl) ?_ ?_ (by rfl)⟩
              · rw [← hp]; simp
              · simp (config := { maxSteps := 4000000 }) only [go_sem, simprocAttr, ↓dnA, Tryz.f173, frW, wk2, wk1, wkL, wkB, hpW, List.mem_cons, Prod.mk.injEq, exists_eq_left, exists_eq_right, exists_eq]
                exact (rows_snoc encI _ _).symm
              · simp (config := { maxSteps := 4000000 }) only [go_sem, simprocAttr, ↓dnA, Tryz.f173, List.length_append, frW, wk2, wk1, wkL, wkB, hpW, List.mem_cons, Prod.mk.injEq, exists_eq_left, exists_eq_right, exists_eq]
            · simp (config := { maxSteps := 4000000 }) only [go_sem, simprocAttr, ↓dnA, Tryz.f173, rows_length, hw1, nlf h1]
              have hw : IntKind.i64.wrap ((i : Int) + 1) = ((i + 1 : Nat) : Int) := by rw [wrap_small _ (by omega) (by omega)]; simp
              have hd : pairUp (r.drop j) = [] := by
                rcases Nat.lt_or_ge j r.length with hjl | hjl
                · rw [drop_cons r j hjl, List.drop_of_length_le (by omega)]; rfl
                · rw [List.drop_of_length_le hjl]; rfl
              rw [hd, List.append_nil] at hp
              subst hp
              refine ⟨(i + 1, pairUp r), [(28, 10)], ⟨by dsimp only; omega, pairUp_smd r, hn, ?_⟩, by dsimp only; omega, Weak.of (by rfl) ?_ ?_ (by rfl)⟩
              · rw [← hu, show lv - i = (lv - (i + 1)) + 1 by omega]; rfl
              · simp (config := { maxSteps := 4000000 }) only [go_sem, simprocAttr, ↓dnA, Tryz.f173, frW, wk2, wk1, wkL, wkB, hpW, List.mem_cons, Prod.mk.injEq, exists_eq_left, exists_eq_right, exists_eq]
              · simp (config := { maxSteps := 4000000 }) only [go_sem, simprocAttr, ↓dnA, Tryz.f173, hw, frW, wk2, wk1, wkL, wkB, hpW, List.mem_cons, Prod.mk.injEq, exists_eq_left, exists_eq_right, exists_eq]
        · have : i = lv := by omega
          subst this
          simp (config := { maxSteps := 4000000 }) only [go_sem, simprocAttr, ↓dnA, Tryz.f173, rows_length, nlf h]
          simp only [Nat.sub_self, upN] at hu
          rw [hu]
          try simp

end Go.Proofs.YthcfafpjkbbaoaaGreat

/- Contracts: values of all keys, levels, roots. -/
set_option linter.unusedSimpArgs false
set_option linter.unusedVariables false
set_option maxRecDepth 20000
set_option maxHeartbeats 2000000
namespace Go.Proofs.YthcfafpjkbbaoaaGreat
open Go Go.RowKit

def cellsI (v : List Int) : List AV := v.map fun n => .int .i64 n
theorem cellsI_length (v : List Int) : (cellsI v).length = v.length := by simp [cellsI]

theorem cellsI_wk (ρ : List (Nat × Nat)) : ∀ v : List Int, wkL ρ (cellsI v) (cellsI v) = True
  | [] => by simp [cellsI, wkL]
  | n :: v => by
    have := cellsI_wk ρ v
    simp only [cellsI] at this
    simp [cellsI, wkL, wk1, this]
theorem cellsI_exp (s : AState) (fin : Bool) : ∀ (v : List Int) (K : List AV → List Nat → Prop), expL s fin (cellsI v) K = K (cellsI v) []
  | [], K => rfl
  | n :: v, K => by
    have := cellsI_exp s fin v
    show expL s fin (cellsI v) _ = _
    rw [this]; rfl
theorem cellsI_rw : ∀ v : List Int, rwL (cellsI v) (cellsI v) = True
  | [] => by simp [cellsI, rwL]
  | n :: v => by
    have := cellsI_rw v
    simp only [cellsI] at this
    simp [cellsI, rwL, rwC, this]
theorem cellsI_set (v : List Int) (i : Nat) (x : Int) : (cellsI v).set i (.int .i64 x) = cellsI (v.set i x) := by simp [cellsI, List.map_set]
theorem cellsI_one (v : List Int) : (cellsI v).all AV.one = true := by simp [cellsI, AV.one]
theorem cellsI_take (v : List Int) (n : Nat) (h : v.length = n) : (cellsI v).take n = cellsI v := by rw [List.take_of_length_le]; simp [cellsI, h]

theorem cellsI_impL : ∀ (v : List Int) (n : Nat), impL n (cellsI v) = cellsI v
  | [], _ => rfl
  | x :: v, n => by
    have := cellsI_impL v (n + 1)
    simp only [cellsI] at this
    simp [cellsI, impL, impC, this]
theorem cellsI_impLB : ∀ (v : List Int) (n : Nat), impLB n (cellsI v) = []
  | [], _ => rfl
  | x :: v, n => by
    have := cellsI_impLB v (n + 1)
    simp only [cellsI] at this
    simp [cellsI, impLB, impCB, this]

def zeros32 : List Int := List.replicate 32 0
theorem zeros32_cells : cellsI zeros32 = List.replicate 32 (.int .i64 0) := by simp [cellsI, zeros32]

def putV (v : List Int) (e : Entry) : List Int := v.set e.key.toNat e.value
def valuesL (xs : List Entry) : List Int := xs.foldl putV zeros32

theorem c_impl_valuesOf (n1 : Option Bool) (xs : List Entry) (hx : xs.length < 2 ^ 62) (hk : ∀ e, e ∈ xs → 0 ≤ e.key ∧ e.key ≤ 31) : Det Tryz.prog 122 [.sl n1 (rows encE xs)] (.agg (cellsI (valuesL xs))) := by
  refine fspec_det tab_ok Tryz.call122 Tryz.func122 rfl 19 Tryz.ntmps122 (of_decide_eq_true rfl) fun B => codeK_sound tab_ok _ _ _ ?_
  simp (config := { maxSteps := 4000000 }) only [go_sem, simprocAttr, ↓dnA, Tryz.f122, rows_length]
  refine semL_for tab_ok (fun p : Nat × List Int => ⟨19, [(2, .loc 2 0), (3, .loc 3 0), (6, .sl n1 (rows encE xs)), (7, .int .i64 xs.length), (8, .int .i64 p.1)], [(2, .var (cellsI zeros32)), (3, .var (cellsI p.2))]⟩) (fun p => xs.length - p.1)
    (fun p => p.1 ≤ xs.length ∧ p.2.length = 32 ∧ (xs.drop p.1).foldl putV p.2 = valuesL xs) (0, zeros32) [(2, 2), (3, 3)] (Weak.of rfl ?_ ?_ rfl) ⟨by omega, by simp [zeros32], rfl⟩ ?_
  · simp (config := { maxSteps := 4000000 }) only [go_sem, simprocAttr, ↓dnA, Tryz.f122, zeros32_cells, frW, wk2, wk1, wkL, wkB, hpW, List.mem_cons, Prod.mk.injEq, exists_eq_left, exists_eq_right, exists_eq]
  · simp (config := { maxSteps := 4000000 }) only [go_sem, simprocAttr, ↓dnA, Tryz.f122, frW, wk2, wk1, wkL, wkB, hpW, List.mem_cons, Prod.mk.injEq, exists_eq_left, exists_eq_right, exists_eq]
  · rintro ⟨i, v⟩ ⟨hi, hv, hp⟩
    dsimp only at hi hp hv
    have cl : (cellsI v).length = 32 := by rw [cellsI_length, hv]
    have cz : (cellsI zeros32).length = 32 := by rw [cellsI_length]; rfl
    by_cases h : i < xs.length
    · rw [drop_cons xs i h, List.foldl_cons] at hp
      have hb := hk _ (List.getElem_mem h)
      have hw : IntKind.i64.wrap ((i : Int) + 1) = ((i + 1 : Nat) : Int) := wsucc h hx
      simp (config := { maxSteps := 4000000 }) only [go_sem, simprocAttr, ↓dnA, Tryz.f122, rows_length, rows_get _ _ _ h, encE, nlt h, nn0, cl, cellsI_set, Nat.mul_one, show ¬ (1 = 32) by decide]
      refine ⟨⟨by omega, by omega⟩, by omega, (i + 1, putV v xs[i]), [(2, 2), (3, 3)], ⟨by dsimp only; omega, by simp [putV, hv], hp⟩, by dsimp only; omega, Weak.of (by rfl) ?_ ?_ (by rfl)⟩
      · simp (config := { maxSteps := 4000000 }) only [go_sem, simprocAttr, ↓dnA, Tryz.f122, cellsI_wk, putV, frW, wk2, wk1, wkL, wkB, hpW, List.mem_cons, Prod.mk.injEq, exists_eq_left, exists_eq_right, exists_eq]
      · simp (config := { maxSteps := 4000000 }) only [go_sem, simprocAttr, ↓dnA, Tryz.f122, hw, frW, wk2, wk1, wkL, wkB, hpW, List.mem_cons, Prod.mk.injEq, exists_eq_left, exists_eq_right, exists_eq]
    · have : i = xs.length := by omega
      subst this
      simp only [List.drop_length, List.foldl_nil] at hp
      subst hp
      simp (config := { maxSteps := 4000000 }) only [go_sem, simprocAttr, ↓dnA, Tryz.f122, nlf h, cl, cz, cellsI_take _ 32 hv, cellsI_one, cellsI_exp, cellsI_rw]

theorem foldl_putV (xs : List Entry) (v : List Int) (k : Nat) (hv : v.length = 32) (hk : k < 32) (ha : ∀ e, e ∈ xs → 0 ≤ e.key) (hd : (xs.map Entry.key).Nodup) :
    ((xs.foldl putV v).length = 32) ∧ (xs.foldl putV v).getD k 0 = if (k : Int) ∈ xs.map Entry.key then valAt xs k else v.getD k 0 := by
  induction xs generalizing v with
  | nil => exact ⟨hv, by simp⟩
  | cons e r ih =>
    have h0 : 0 ≤ e.key := ha e (by simp)
    rw [List.map_cons, List.nodup_cons] at hd
    have hv' : (putV v e).length = 32 := by simp [putV, hv]
    obtain ⟨h1, h2⟩ := ih (putV v e) hv' (fun x hx => ha x (List.mem_cons_of_mem _ hx)) hd.2
    refine ⟨h1, ?_⟩
    rw [List.foldl_cons, h2]
    simp only [List.map_cons, List.mem_cons]
    rw [show valAt (e :: r) k = if e.key = (k : Int) then e.value else valAt r k from rfl]
    by_cases he : e.key = (k : Int)
    · have : ¬ (k : Int) ∈ r.map Entry.key := by rw [← he]; exact hd.1
      rw [if_neg this, if_pos (.inl he.symm), if_pos he]
      have hkt : e.key.toNat = k := by omega
      simp [putV, List.getD_eq_getElem?_getD, hkt, hv, hk]
    · rw [if_neg he]
      have hkt : e.key.toNat ≠ k := by omega
      have : (putV v e).getD k 0 = v.getD k 0 := by simp [putV, List.getD_eq_getElem?_getD, hkt]
      rw [this]
      have he' : ¬ (k : Int) = e.key := fun h => he h.symm
      simp only [he', false_or]

/-- Keys of a store. -/
theorem entOk_spec (least : Int) : ∀ (xs : List Entry) (last : Int), entOk least last xs = true → (∀ e, e ∈ xs → last < e.key ∧ e.key ≤ 31 ∧ least ≤ e.value ∧ e.value ≤ 1000000) ∧ (xs.map Entry.key).Nodup
  | [], _, _ => ⟨fun e he => (by cases he), by simp⟩
  | e :: r, last, h => by
    simp only [entOk, Bool.and_eq_true] at h
    obtain ⟨⟨h1, h2⟩, h3⟩ := h
    have h1 := inB_iff.1 h1
    have h2 := inB_iff.1 h2
    obtain ⟨h4, h5⟩ := entOk_spec least r _ h3
    refine ⟨fun x hx => ?_, ?_⟩
    · rcases List.mem_cons.1 hx with rfl | hx
      · omega
      · have := h4 x hx; omega
    · rw [List.map_cons, List.nodup_cons]
      refine ⟨fun hm => ?_, h5⟩
      obtain ⟨x, hx, e'⟩ := List.mem_map.1 hm
      have := h4 x hx; omega

theorem valAt_bd {xs : List Entry} (h : ∀ e, e ∈ xs → 0 ≤ e.value ∧ e.value ≤ 1000000) (k : Int) : 0 ≤ valAt xs k ∧ valAt xs k ≤ 1000000 := by
  induction xs with
  | nil => simp [valAt]
  | cons e r ih =>
    unfold valAt
    split
    · exact h e (by simp)
    · exact ih fun x hx => h x (List.mem_cons_of_mem _ hx)

theorem valAt_none {xs : List Entry} {k : Int} (h : ¬ k ∈ xs.map Entry.key) : valAt xs k = 0 := by
  induction xs with
  | nil => rfl
  | cons e r ih =>
    simp only [List.map_cons, List.mem_cons, not_or] at h
    unfold valAt
    rw [if_neg (fun e => h.1 e.symm)]
    exact ih h.2

/-- The values of a store, one by one. -/
theorem valuesL_get {xs : List Entry} (h : storeValid xs = true) (k : Nat) (hk : k < 32) : (valuesL xs).length = 32 ∧ (valuesL xs).getD k 0 = valAt xs k := by
  obtain ⟨h1, h2⟩ := entOk_spec 1 xs (-1) h
  obtain ⟨h3, h4⟩ := foldl_putV xs zeros32 k rfl hk (fun e he => by have := h1 e he; omega) h2
  refine ⟨h3, ?_⟩
  unfold valuesL
  rw [h4]
  split
  · rfl
  · rename_i hm
    rw [valAt_none hm]
    simp only [zeros32, List.getD_eq_getElem?_getD, List.getElem?_replicate, hk, if_true, Option.getD_some]

end Go.Proofs.YthcfafpjkbbaoaaGreat

/- Contracts: levels, roots. -/
set_option linter.unusedSimpArgs false
set_option linter.unusedVariables false
set_option maxRecDepth 20000
set_option maxHeartbeats 2000000
namespace Go.Proofs.YthcfafpjkbbaoaaGreat
open Go Go.RowKit

/-- The root of a store. -/
def rootOf (xs : List Entry) : Int := if storeValid xs then (upN 5 (leaves xs)).getD 0 0 else -1

def encL (l : List Int) : List AV := [.sl none (rows encI l)]

theorem upN_succ : ∀ (n : Nat) (l : List Int), upN (n + 1) l = pairUp (upN n l)
  | 0, _ => rfl
  | n + 1, l => upN_succ n (pairUp l)

theorem pairUp_lenE : ∀ (l : List Int), l.length % 2 = 0 → 2 * (pairUp l).length = l.length
  | a :: b :: r, h => by have := pairUp_lenE r (by simp at h; omega); simp [pairUp]; omega
  | [], _ => by simp [pairUp]
  | [_], h => by simp at h

theorem cellsI_get (v : List Int) (i : Nat) (d : AV) (h : i < v.length) : (cellsI v).getD i d = .int .i64 (v.getD i 0) := by
  simp [cellsI, List.getD_eq_getElem?_getD, h]

theorem c_impl_levels (n1 : Option Bool) (xs : List Entry) (hx : xs.length < 2 ^ 62) (hs : storeValid xs = true) :
    Det Tryz.prog 123 [.sl n1 (rows encE xs)] (.sl none (rows encL [leaves xs, upN 1 (leaves xs), upN 2 (leaves xs), upN 3 (leaves xs), upN 4 (leaves xs), upN 5 (leaves xs)])) := by
  obtain ⟨hk, _⟩ := entOk_spec 1 xs (-1) hs
  have hv : ∀ k, 0 ≤ valAt xs k ∧ valAt xs k ≤ 1000000 := valAt_bd fun e he => by have := hk e he; omega
  refine fspec_det tab_ok Tryz.call123 Tryz.func123 rfl 48 Tryz.ntmps123 (of_decide_eq_true rfl) fun B => codeK_sound tab_ok _ _ _ ?_
  simp (config := { maxSteps := 4000000 }) only [go_sem, simprocAttr, ↓dnA, Tryz.f123]
  refine CallTo.det (c_impl_valuesOf _ _ hx fun e he => by have := hk e he; omega) fun _ => ?_
  simp (config := { maxSteps := 4000000 }) only [go_sem, simprocAttr, ↓dnA, Tryz.f123, cellsI_impL, cellsI_impLB]
  refine semL_nilA 3 3 1 true (by rfl) (by rfl) (by decide) (by decide) ?_
  refine semL_ghostX ?_
  refine semL_for tab_ok (fun i : Nat => ⟨48, [(3, .row 3 i), (10, .agg (cellsI (valuesL xs))), (11, .int .i64 i)], [(3, .row true false 1 (rows encI (upto (fun k => leafSum k (valAt xs k)) i)))]⟩) (fun i => 32 - i)
    (fun i => i ≤ 32) 0 [(3, 3)] (Weak.of (by rfl) ?_ ?_ (by rfl)) (by omega) ?_
  · simp (config := { maxSteps := 4000000 }) only [go_sem, simprocAttr, ↓dnA, Tryz.f123, frW, wk2, wk1, wkL, wkB, hpW, List.mem_cons, Prod.mk.injEq, exists_eq_left, exists_eq_right, exists_eq]
    rfl
  · simp (config := { maxSteps := 4000000 }) only [go_sem, simprocAttr, ↓dnA, Tryz.f123, cellsI_wk, frW, wk2, wk1, wkL, wkB, hpW, List.mem_cons, Prod.mk.injEq, exists_eq_left, exists_eq_right, exists_eq]
  · rintro i hi
    by_cases h : i < 32
    · have hd : decide ((i : Int) < 32) = true := by simp; omega
      have hw : IntKind.i64.wrap ((i : Int) + 1) = ((i + 1 : Nat) : Int) := by rw [wrap_small _ (by omega) (by omega)]; simp
      have ht := take_rows encI (upto (fun k => leafSum k (valAt xs k)) i) i (upto_length _ _).symm
      obtain ⟨hl, hg⟩ := valuesL_get hs i h
      have hg' : (cellsI (valuesL xs)).getD i .top = .int .i64 (valAt xs i) := by rw [cellsI_get _ _ _ (by omega), hg]
      have hcl : (cellsI (valuesL xs)).length = 32 := by rw [cellsI_length]; exact hl
      simp (config := { maxSteps := 4000000 }) only [go_sem, simprocAttr, ↓dnA, Tryz.f123, hd, hw, hg', hcl, nn0]
      repeat refine And.intro (by first | omega | (simp; done) | (simp; omega) | assumption) ?_
      refine CallTo.det (c_impl_LeafSum _ _) fun _ => ?_
      simp (config := { maxSteps := 4000000 }) only [go_sem, simprocAttr, ↓dnA, Tryz.f123, hd, hw, hg', hcl, nn0, ht, rows_length, upto_length]
      repeat refine And.intro (by first | omega | (simp; done) | (simp; omega) | assumption) ?_
      refine ⟨i + 1, [(20, 3)], by omega, by dsimp only; omega, Weak.of (by rfl) ?_ ?_ (by rfl)⟩
      · simp (config := { maxSteps := 4000000 }) only [go_sem, simprocAttr, ↓dnA, Tryz.f123, upto_succ, frW, wk2, wk1, wkL, wkB, hpW, List.mem_cons, Prod.mk.injEq, exists_eq_left, exists_eq_right, exists_eq]
        exact (rows_snoc encI _ _).symm
      · simp (config := { maxSteps := 4000000 }) only [go_sem, simprocAttr, ↓dnA, Tryz.f123, cellsI_wk, frW, wk2, wk1, wkL, wkB, hpW, List.mem_cons, Prod.mk.injEq, exists_eq_left, exists_eq_right, exists_eq]
    · have : i = 32 := by omega
      subst this
      simp (config := { maxSteps := 4000000 }) only [go_sem, simprocAttr, ↓dnA, Tryz.f123]
      refine GhostK.go _ ((Ghost.weak (t := ⟨48, [(3, .row 3 32)], [(3, .fro 1 (rows encI (leaves xs)))]⟩) (ρ := [(3, 3)]) (Weak.of (by rfl) ?_ ?_ (by rfl))).trans ((Ghost.pure 3 3 32 1 rfl rfl ?_).trans
        (Ghost.weak (t := ⟨48, [(3, .sl none (rows encI (leaves xs)))], []⟩) (ρ := []) (Weak.of (by rfl) ?_ ?_ (by rfl))))) ?_
      · simp (config := { maxSteps := 4000000 }) only [go_sem, simprocAttr, ↓dnA, Tryz.f123, frW, wk2, wk1, wkL, wkB, hpW, List.mem_cons, Prod.mk.injEq, exists_eq_left, exists_eq_right, exists_eq]
        rfl
      · simp (config := { maxSteps := 4000000 }) only [go_sem, simprocAttr, ↓dnA, Tryz.f123, frW, wk2, wk1, wkL, wkB, hpW, List.mem_cons, Prod.mk.injEq, exists_eq_left, exists_eq_right, exists_eq]
      · simp [rows_length, leaves, upto_length]
      · simp (config := { maxSteps := 4000000 }) only [go_sem, simprocAttr, ↓dnA, Tryz.f123, frW, wk2, wk1, wkL, wkB, hpW, List.mem_cons, Prod.mk.injEq, exists_eq_left, exists_eq_right, exists_eq]
      · simp (config := { maxSteps := 4000000 }) only [go_sem, simprocAttr, ↓dnA, Tryz.f123, frW, wk2, wk1, wkL, wkB, hpW, List.mem_cons, Prod.mk.injEq, exists_eq_left, exists_eq_right, exists_eq]
      · simp (config := { maxSteps := 4000000 }) only [go_sem, simprocAttr, ↓dnA, Tryz.f123]
        refine semL_for tab_ok (fun p : Nat × List Int × List (List Int) => ⟨48, [(3, .sl none (rows encI p.2.1)), (6, .row 23 p.2.2.length), (24, .int .i64 p.1)], [(23, .row false true 1 (rows encL p.2.2))]⟩) (fun p => 5 - p.1)
          (fun p => p.1 ≤ 5 ∧ Smd p.2.1 ∧ p.2.1.length = 32 / 2 ^ p.1 ∧ p.2.1 = upN p.1 (leaves xs) ∧ p.2.2 = (List.range (p.1 + 1)).map fun j => upN j (leaves xs)) (0, leaves xs, [leaves xs]) [(23, 23)] (Weak.of (by rfl) ?_ ?_ (by rfl)) ⟨by omega, leaves_smd xs hv, by simp [leaves, upto_length], rfl, rfl⟩ ?_
        · simp (config := { maxSteps := 4000000 }) only [go_sem, simprocAttr, ↓dnA, Tryz.f123, frW, wk2, wk1, wkL, wkB, hpW, List.mem_cons, Prod.mk.injEq, exists_eq_left, exists_eq_right, exists_eq]
          rfl
        · simp (config := { maxSteps := 4000000 }) only [go_sem, simprocAttr, ↓dnA, Tryz.f123, frW, wk2, wk1, wkL, wkB, hpW, List.mem_cons, Prod.mk.injEq, exists_eq_left, exists_eq_right, exists_eq]
        · rintro ⟨i, r, acc⟩ ⟨hi, hr, hl, hu, hacc⟩
          dsimp only at hi hr hl hu hacc
          by_cases h : i < 5
          · have hd : decide ((i : Int) < 5) = true := by simp; omega
            simp (config := { maxSteps := 4000000 }) only [go_sem, simprocAttr, ↓dnA, Tryz.f123, hd]
            have he : r.length % 2 = 0 ∧ r.length ≤ 32 := by
              rcases (by omega : i = 0 ∨ i = 1 ∨ i = 2 ∨ i = 3 ∨ i = 4) with rfl | rfl | rfl | rfl | rfl <;> simp at hl <;> omega
            refine semL_nilA 7 7 1 true (by rfl) (by rfl) (by decide) (by decide) ?_
            refine semL_ghostX ?_
            refine semL_for tab_ok (fun p : Nat × List Int => ⟨48, [(3, .sl none (rows encI r)), (6, .row 23 acc.length), (7, .row 7 p.2.length), (8, .int .i64 p.1), (24, .int .i64 i)], [(7, .row true false 1 (rows encI p.2)), (23, .row false true 1 (rows encL acc))]⟩) (fun p => r.length - p.1)
              (fun p => p.1 ≤ r.length ∧ p.1 % 2 = 0 ∧ p.2.length ≤ 32 ∧ p.2 ++ pairUp (r.drop p.1) = pairUp r) (0, []) [(7, 7), (23, 23)] (Weak.of (by rfl) ?_ ?_ (by rfl)) ⟨by omega, rfl, by simp, rfl⟩ ?_
            · simp (config := { maxSteps := 4000000 }) only [go_sem, simprocAttr, ↓dnA, Tryz.f123, frW, wk2, wk1, wkL, wkB, hpW, List.mem_cons, Prod.mk.injEq, exists_eq_left, exists_eq_right, exists_eq]
              rfl
            · simp (config := { maxSteps := 4000000 }) only [go_sem, simprocAttr, ↓dnA, Tryz.f123, frW, wk2, wk1, wkL, wkB, hpW, List.mem_cons, Prod.mk.injEq, exists_eq_left, exists_eq_right, exists_eq]
            · rintro ⟨j, nx⟩ ⟨hj, hj2, hn, hp⟩
              dsimp only at hj hj2 hn hp
              by_cases h0 : j < r.length
              · have h1 : j + 1 < r.length := by omega
                have hw2 : IntKind.i64.wrap ((j : Int) + 2) = ((j + 2 : Nat) : Int) := by rw [wrap_small _ (by omega) (by omega)]; simp
                simp (config := { maxSteps := 4000000 }) only [go_sem, simprocAttr, ↓dnA, Tryz.f123, rows_length, nlt h0, hw2]
                have hb1 := hr _ (List.getElem_mem h0)
                have hb2 := hr _ (List.getElem_mem h1)
                have hsl : List.drop j (List.take (j + 2) (rows encI r)) = rows encI [r[j], r[j + 1]] := by
                  rw [List.drop_take, show rows encI r = r.map encI from rfl, ← List.map_drop, drop_cons r j h0, drop_cons r (j + 1) h1, show j + 2 - j = 2 by omega]; rfl
                have hso : sumOf 2 [r[j], r[j + 1]] = sumI 19 [r[j], r[j + 1]] := by
                  unfold sumOf; rw [if_pos (by simp [isSummedB]; omega)]; rfl
                have ht := take_rows encI nx nx.length rfl
                have hnl : nx.length < 32 := by
                  have h2 := congrArg List.length hp
                  have h3 := pairUp_len r
                  rw [drop_cons r j h0, drop_cons r (j + 1) h1] at h2
                  simp [pairUp] at h2
                  omega
                rw [drop_cons r j h0, drop_cons r (j + 1) h1] at hp
                simp only [pairUp] at hp
                rw [hsl]
                refine ⟨⟨by omega, by omega, by omega⟩, fun _ _ => by rw [rows_get _ _ 0 (by omega)]; rfl, CallTo.det (c_impl_SumOf 2 _ _ (by simp)) fun _ => ?_⟩
                simp (config := { maxSteps := 4000000 }) only [go_sem, simprocAttr, ↓dnA, Tryz.f123, rows_length, nlt h0, hw2, hso, ht]
                repeat refine And.intro (by first | omega | (simp; done) | (simp; omega) | assumption) ?_
                refine ⟨(j + 2, nx ++ [sumI 19 [r[j], r[j + 1]]]), [(40, 7), (23, 23)], ⟨by dsimp only; omega, by dsimp only; omega, by simp; omega, ?_⟩, by dsimp only; omega, Weak.of (by rfl) ?_ ?_ (by rfl)⟩
                · rw [← hp]; simp
                · simp (config := { maxSteps := 4000000 }) only [go_sem, simprocAttr, ↓dnA, Tryz.f123, frW, wk2, wk1, wkL, wkB, hpW, List.mem_cons, Prod.mk.injEq, exists_eq_left, exists_eq_right, exists_eq]
                  exact (rows_snoc encI _ _).symm
                · simp (config := { maxSteps := 4000000 }) only [go_sem, simprocAttr, ↓dnA, Tryz.f123, List.length_append, frW, wk2, wk1, wkL, wkB, hpW, List.mem_cons, Prod.mk.injEq, exists_eq_left, exists_eq_right, exists_eq]
              · simp (config := { maxSteps := 4000000 }) only [go_sem, simprocAttr, ↓dnA, Tryz.f123, rows_length, nlf h0]
                have hd' : pairUp (r.drop j) = [] := by rw [List.drop_of_length_le (by omega)]; rfl
                rw [hd', List.append_nil] at hp
                subst hp
                have hw : IntKind.i64.wrap ((i : Int) + 1) = ((i + 1 : Nat) : Int) := by rw [wrap_small _ (by omega) (by omega)]; simp
                have hal : acc.length = i + 1 := by rw [hacc]; simp
                have ht := take_rows encL acc acc.length rfl
                refine GhostK.go _ ((Ghost.weak (t := ⟨48, [(3, .sl none (rows encI r)), (6, .row 23 acc.length), (7, .row 7 (pairUp r).length), (24, .int .i64 i)], [(7, .fro 1 (rows encI (pairUp r))), (23, .row false true 1 (rows encL acc))]⟩) (ρ := [(7, 7), (23, 23)]) (Weak.of (by rfl) ?_ ?_ (by rfl))).trans ((Ghost.pure 7 7 (pairUp r).length 1 rfl rfl ?_).trans
                  (Ghost.weak (t := ⟨48, [(3, .sl none (rows encI r)), (6, .row 23 acc.length), (7, .sl none (rows encI (pairUp r))), (24, .int .i64 i)], [(23, .row false true 1 (rows encL acc))]⟩) (ρ := [(23, 23)]) (Weak.of (by rfl) ?_ ?_ (by rfl))))) ?_
                · simp (config := { maxSteps := 4000000 }) only [go_sem, simprocAttr, ↓dnA, Tryz.f123, frW, wk2, wk1, wkL, wkB, hpW, List.mem_cons, Prod.mk.injEq, exists_eq_left, exists_eq_right, exists_eq]
                · simp (config := { maxSteps := 4000000 }) only [go_sem, simprocAttr, ↓dnA, Tryz.f123, frW, wk2, wk1, wkL, wkB, hpW, List.mem_cons, Prod.mk.injEq, exists_eq_left, exists_eq_right, exists_eq]
                · simp [rows_length]
                · simp (config := { maxSteps := 4000000 }) only [go_sem, simprocAttr, ↓dnA, Tryz.f123, frW, wk2, wk1, wkL, wkB, hpW, List.mem_cons, Prod.mk.injEq, exists_eq_left, exists_eq_right, exists_eq]
                · simp (config := { maxSteps := 4000000 }) only [go_sem, simprocAttr, ↓dnA, Tryz.f123, frW, wk2, wk1, wkL, wkB, hpW, List.mem_cons, Prod.mk.injEq, exists_eq_left, exists_eq_right, exists_eq]
                · simp (config := { maxSteps := 4000000 }) only [go_sem, simprocAttr, ↓dnA, Tryz.f123, rows_length, ht, hw]
                  repeat refine And.intro (by first | omega | (simp; done) | (simp; omega) | assumption) ?_
                  refine ⟨(i + 1, pairUp r, acc ++ [pairUp r]), [(44, 23)], ⟨by dsimp only; omega, pairUp_smd r, ?_, by dsimp only; rw [upN_succ, ← hu], ?_⟩, by dsimp only; omega, Weak.of (by rfl) ?_ ?_ (by rfl)⟩
                  · have := pairUp_lenE r he.1
                    dsimp only
                    rw [Nat.pow_succ, ← Nat.div_div_eq_div_mul, ← hl]; omega
                  · dsimp only
                    rw [List.map_append, ← hacc, List.map_singleton, upN_succ, ← hu]
                  · simp (config := { maxSteps := 4000000 }) only [go_sem, simprocAttr, ↓dnA, Tryz.f123, frW, wk2, wk1, wkL, wkB, hpW, List.mem_cons, Prod.mk.injEq, exists_eq_left, exists_eq_right, exists_eq]
                    exact (rows_snoc encL _ _).symm
                  · simp (config := { maxSteps := 4000000 }) only [go_sem, simprocAttr, ↓dnA, Tryz.f123, List.length_append, frW, wk2, wk1, wkL, wkB, hpW, List.mem_cons, Prod.mk.injEq, exists_eq_left, exists_eq_right, exists_eq]
          · have : i = 5 := by omega
            subst this
            simp (config := { maxSteps := 4000000 }) only [go_sem, simprocAttr, ↓dnA, Tryz.f123]
            subst hacc
            refine ⟨by simp [rows_length], rfl⟩

theorem upN_len1 (xs : List Entry) : (upN 5 (leaves xs)).length = 1 := by
  have h0 : (leaves xs).length = 32 := by simp [leaves, upto_length]
  have h1 := pairUp_lenE (leaves xs) (by omega)
  have h2 := pairUp_lenE (pairUp (leaves xs)) (by omega)
  have h3 := pairUp_lenE (pairUp (pairUp (leaves xs))) (by omega)
  have h4 := pairUp_lenE (pairUp (pairUp (pairUp (leaves xs)))) (by omega)
  have h5 := pairUp_lenE (pairUp (pairUp (pairUp (pairUp (leaves xs))))) (by omega)
  show (pairUp (pairUp (pairUp (pairUp (pairUp (leaves xs)))))).length = 1
  omega

theorem c_spec_RootOf (n1 : Option Bool) (xs : List Entry) (hx : xs.length < 2 ^ 62) : Det Tryz.prog 137 [.sl n1 (rows encE xs)] (.int .i64 (rootOf xs)) := by
  refine fspec_det tab_ok Tryz.call137 Tryz.func137 rfl 10 Tryz.ntmps137 (of_decide_eq_true rfl) fun B => codeK_sound tab_ok _ _ _ ?_
  simp (config := { maxSteps := 4000000 }) only [go_sem, simprocAttr, ↓dnA, Tryz.f137]
  refine CallTo.det (c_spec_StoreValid _ _ hx) fun _ => ?_
  cases h : storeValid xs with
  | false => simp (config := { maxSteps := 4000000 }) only [go_sem, simprocAttr, ↓dnA, Tryz.f137, h, rootOf]
  | true =>
    obtain ⟨hk, _⟩ := entOk_spec 1 xs (-1) h
    simp (config := { maxSteps := 4000000 }) only [go_sem, simprocAttr, ↓dnA, Tryz.f137, h]
    refine CallTo.det (c_spec_l3Level _ _ 5 hx (by omega) (valAt_bd fun e he => by have := hk e he; omega)) fun _ => ?_
    have hl := upN_len1 xs
    simp (config := { maxSteps := 4000000 }) only [go_sem, simprocAttr, ↓dnA, Tryz.f137, h, rootOf, rows_length, hl, rows_get _ _ 0 (by omega : 0 < (upN 5 (leaves xs)).length), encI]
    simp [List.getD_eq_getElem?_getD, hl]

theorem c_impl_RootOf (n1 : Option Bool) (xs : List Entry) (hx : xs.length < 2 ^ 62) : Det Tryz.prog 55 [.sl n1 (rows encE xs)] (.int .i64 (rootOf xs)) := by
  refine fspec_det tab_ok Tryz.call55 Tryz.func55 rfl 12 Tryz.ntmps55 (of_decide_eq_true rfl) fun B => codeK_sound tab_ok _ _ _ ?_
  simp (config := { maxSteps := 4000000 }) only [go_sem, simprocAttr, ↓dnA, Tryz.f55]
  refine CallTo.det (c_impl_StoreValid _ _ hx) fun _ => ?_
  cases h : storeValid xs with
  | false => simp (config := { maxSteps := 4000000 }) only [go_sem, simprocAttr, ↓dnA, Tryz.f55, h, rootOf]
  | true =>
    simp (config := { maxSteps := 4000000 }) only [go_sem, simprocAttr, ↓dnA, Tryz.f55, h]
    refine CallTo.det (c_impl_levels _ _ hx h) fun _ => ?_
    have hl := upN_len1 xs
    have hg : (rows encI (upN 5 (leaves xs))).getD 0 [] = [.int .i64 ((upN 5 (leaves xs)).getD 0 0)] := by
      rw [rows_get _ _ 0 (by omega)]; simp [encI, List.getD_eq_getElem?_getD, hl]
    have hr : ∀ a b c d e f : List Int, rows encL [a, b, c, d, e, f] = [[.sl none (rows encI a)], [.sl none (rows encI b)], [.sl none (rows encI c)], [.sl none (rows encI d)], [.sl none (rows encI e)], [.sl none (rows encI f)]] := fun _ _ _ _ _ _ => rfl
    simp (config := { maxSteps := 4000000 }) only [go_sem, simprocAttr, ↓dnA, Tryz.f55, h, rootOf, rows_length, hr, hl, hg]

end Go.Proofs.YthcfafpjkbbaoaaGreat

/- Contracts: sums of blocks. -/
set_option linter.unusedSimpArgs false
set_option linter.unusedVariables false
set_option maxRecDepth 20000
set_option maxHeartbeats 2000000
namespace Go.Proofs.YthcfafpjkbbaoaaGreat
open Go Go.RowKit

def actNums (a : Action) : List Int := [a.kind, a.fr, a.to, a.amount]
def headNums (b : Block) : List Int := [b.before, b.height, b.view, b.list.length]
def blockNums (b : Block) : List Int := headNums b ++ b.list.flatMap actNums ++ [b.root, b.effects]
def blockSum (b : Block) : Int := if blockValid b then sumI 22 (blockNums b) else -1

theorem kindOk_bd {a : Action} (h : kindOk a = true) : 1 ≤ a.kind ∧ a.kind ≤ 6 := by
  unfold kindOk at h
  split at h
  · rename_i h1; simp at h1; omega
  · split at h
    · rename_i h1; simp at h1; omega
    · simp at h; omega

theorem actNums_smd {a : Action} (h : actionValid a = true) : Smd (actNums a) := by
  simp only [actionValid, Bool.and_eq_true] at h
  obtain ⟨⟨⟨h1, h2⟩, h3⟩, h4⟩ := h
  have h1 := inB_iff.1 h1
  have h2 := inB_iff.1 h2
  have h3 := inB_iff.1 h3
  have h4 := kindOk_bd h4
  intro x hx
  simp only [actNums, List.mem_cons, List.not_mem_nil, or_false] at hx
  rcases hx with rfl | rfl | rfl | rfl <;> omega

theorem blockNums_smd {b : Block} (h : blockValid b = true) : Smd (blockNums b) ∧ b.list.length ≤ 10 := by
  simp only [blockValid, Bool.and_eq_true] at h
  obtain ⟨⟨⟨⟨⟨h1, h2⟩, h3⟩, h4⟩, h5⟩, h6⟩ := h
  have h1 := inB_iff.1 h1
  have h2 := inB_iff.1 h2
  have h3 := inB_iff.1 h3
  have h4 := inB_iff.1 h4
  have h5 := inB_iff.1 h5
  simp only [actionsValid, Bool.and_eq_true, decide_eq_true_eq] at h6
  refine ⟨fun x hx => ?_, h6.1⟩
  simp only [blockNums, headNums, List.mem_append, List.mem_cons, List.not_mem_nil, or_false, List.mem_flatMap] at hx
  rcases hx with (hx | ⟨a, ha, hx⟩) | hx
  · rcases hx with rfl | rfl | rfl | rfl <;> omega
  · exact actNums_smd (List.all_eq_true.1 h6.2 a ha) x hx
  · rcases hx with rfl | rfl <;> omega

theorem flat_len (l : List Action) : (l.flatMap actNums).length = 4 * l.length := by
  induction l with
  | nil => rfl
  | cons a r ih => simp [List.flatMap_cons, ih, actNums]; omega

theorem c_impl_BlockSum (n : Option Bool) (b : Block) (hx : b.list.length < 2 ^ 62) : Det Tryz.prog 101 [.agg (encBk n b)] (.int .i64 (blockSum b)) := by
  refine fspec_det tab_ok Tryz.call101 Tryz.func101 rfl 46 Tryz.ntmps101 (of_decide_eq_true rfl) fun B => codeK_sound tab_ok _ _ _ ?_
  unfold encBk
  simp (config := { maxSteps := 4000000 }) only [go_sem, simprocAttr, ↓dnA, Tryz.f101]
  refine CallTo.det (c_impl_BlockValid n b hx) fun _ => ?_
  cases h : blockValid b with
  | false => simp (config := { maxSteps := 4000000 }) only [go_sem, simprocAttr, ↓dnA, Tryz.f101, h, blockSum]
  | true =>
    obtain ⟨hs, h10⟩ := blockNums_smd h
    simp (config := { maxSteps := 4000000 }) only [go_sem, simprocAttr, ↓dnA, Tryz.f101, h, rows_length]
    refine semL_for tab_ok (fun i : Nat => ⟨46, [(1, .loc 1 0), (3, .row 18 (4 + 4 * i)), (20, .sl n (rows encA b.list)), (21, .int .i64 b.list.length), (22, .int .i64 i)], [(1, .var (encBk n b)), (18, .row true true 1 (rows encI (headNums b ++ (b.list.take i).flatMap actNums)))]⟩) (fun i => b.list.length - i)
      (fun i => i ≤ b.list.length) 0 [(1, 1), (18, 18)] (Weak.of (by rfl) ?_ ?_ (by rfl)) (by omega) ?_
    · simp (config := { maxSteps := 4000000 }) only [go_sem, simprocAttr, ↓dnA, Tryz.f101, encBk, frW, wk2, wk1, wkL, wkB, hpW, List.mem_cons, Prod.mk.injEq, exists_eq_left, exists_eq_right, exists_eq]
      rfl
    · simp (config := { maxSteps := 4000000 }) only [go_sem, simprocAttr, ↓dnA, Tryz.f101, frW, wk2, wk1, wkL, wkB, hpW, List.mem_cons, Prod.mk.injEq, exists_eq_left, exists_eq_right, exists_eq]
    · rintro i hi
      have hfl : (rows encI (headNums b ++ (b.list.take i).flatMap actNums)).length = 4 + 4 * i := by
        rw [rows_length, List.length_append, flat_len, List.length_take]
        have : (headNums b).length = 4 := rfl
        omega
      have ht := List.take_of_length_le (Nat.le_of_eq hfl)
      by_cases h' : i < b.list.length
      · have hw : IntKind.i64.wrap ((i : Int) + 1) = ((i + 1 : Nat) : Int) := wsucc h' hx
        simp (config := { maxSteps := 4000000 }) only [go_sem, simprocAttr, ↓dnA, Tryz.f101, rows_length, rows_get _ _ _ h', nlt h', nn0, encA, ht, hfl, hw]
        have htk : b.list.take (i + 1) = b.list.take i ++ [b.list[i]] := (List.take_append_getElem h').symm
        repeat refine And.intro (by first | omega | (simp; done) | (simp; omega) | assumption) ?_
        refine ⟨i + 1, [(1, 1), (36, 18)], by omega, by dsimp only; omega, Weak.of (by rfl) ?_ ?_ (by rfl)⟩
        · simp (config := { maxSteps := 4000000 }) only [go_sem, simprocAttr, ↓dnA, Tryz.f101, encBk, htk, frW, wk2, wk1, wkL, wkB, hpW, List.mem_cons, Prod.mk.injEq, exists_eq_left, exists_eq_right, exists_eq]
          simp only [rows, List.flatMap_append, List.map_append, List.append_assoc, List.flatMap_cons, List.flatMap_nil, List.append_nil]
          rfl
        · simp (config := { maxSteps := 4000000 }) only [go_sem, simprocAttr, ↓dnA, Tryz.f101, show 4 + 4 * (i + 1) = 4 + 4 * i + 4 by omega, frW, wk2, wk1, wkL, wkB, hpW, List.mem_cons, Prod.mk.injEq, exists_eq_left, exists_eq_right, exists_eq]
      · have : i = b.list.length := by omega
        subst this
        rw [List.take_length] at ht hfl
        have hrw : rows encI (headNums b ++ b.list.flatMap actNums) ++ [[.int .i64 b.root], [.int .i64 b.effects]] = rows encI (blockNums b) := by simp [rows, blockNums, encI]
        have hl2 : (rows encI (blockNums b)).length = 4 + 4 * b.list.length + 2 := by rw [← hrw, List.length_append, hfl]; rfl
        have hso : sumOf 5 (blockNums b) = sumI 22 (blockNums b) := by
          unfold sumOf
          rw [if_pos]
          · rfl
          · simp only [Bool.and_eq_true, decide_eq_true_eq, List.all_eq_true]
            exact ⟨by omega, fun x hx => by have := hs x hx; simp [isSummedB]; omega⟩
        simp (config := { maxSteps := 4000000 }) only [go_sem, simprocAttr, ↓dnA, Tryz.f101, nlf h', encBk, ht, hfl, List.take_length, hrw, hl2]
        repeat refine And.intro (by first | omega | (simp; done) | (simp; omega) | assumption) ?_
        refine CallTo.det (c_impl_SumOf 5 _ _ (by rw [rows_length] at hl2; omega)) fun _ => ?_
        simp (config := { maxSteps := 4000000 }) only [go_sem, simprocAttr, ↓dnA, Tryz.f101, nlf h', encBk, ht, hfl, List.take_length, hrw, hl2, blockSum, h, hso]

theorem c_spec_BlockSum (n : Option Bool) (b : Block) (hx : b.list.length < 2 ^ 62) : Det Tryz.prog 73 [.agg (encBk n b)] (.int .i64 (blockSum b)) := by
  refine fspec_det tab_ok Tryz.call73 Tryz.func73 rfl 60 Tryz.ntmps73 (of_decide_eq_true rfl) fun B => codeK_sound tab_ok _ _ _ ?_
  unfold encBk
  simp (config := { maxSteps := 4000000 }) only [go_sem, simprocAttr, ↓dnA, Tryz.f73]
  refine CallTo.det (c_spec_BlockValid n b hx) fun _ => ?_
  cases h : blockValid b with
  | false => simp (config := { maxSteps := 4000000 }) only [go_sem, simprocAttr, ↓dnA, Tryz.f73, h, blockSum]
  | true =>
    obtain ⟨hs, h10⟩ := blockNums_smd h
    simp (config := { maxSteps := 4000000 }) only [go_sem, simprocAttr, ↓dnA, Tryz.f73, h, rows_length]
    refine semL_for tab_ok (fun i : Nat => ⟨60, [(1, .loc 1 0), (3, .row 17 (4 + 4 * i)), (4, .int .i64 i)], [(1, .var (encBk n b)), (17, .row true true 1 (rows encI (headNums b ++ (b.list.take i).flatMap actNums)))]⟩) (fun i => b.list.length - i)
      (fun i => i ≤ b.list.length) 0 [(1, 1), (17, 17)] (Weak.of (by rfl) ?_ ?_ (by rfl)) (by omega) ?_
    · simp (config := { maxSteps := 4000000 }) only [go_sem, simprocAttr, ↓dnA, Tryz.f73, encBk, frW, wk2, wk1, wkL, wkB, hpW, List.mem_cons, Prod.mk.injEq, exists_eq_left, exists_eq_right, exists_eq]
      rfl
    · simp (config := { maxSteps := 4000000 }) only [go_sem, simprocAttr, ↓dnA, Tryz.f73, frW, wk2, wk1, wkL, wkB, hpW, List.mem_cons, Prod.mk.injEq, exists_eq_left, exists_eq_right, exists_eq]
    · rintro i hi
      have hfl : (rows encI (headNums b ++ (b.list.take i).flatMap actNums)).length = 4 + 4 * i := by
        rw [rows_length, List.length_append, flat_len, List.length_take]
        have : (headNums b).length = 4 := rfl
        omega
      have ht := List.take_of_length_le (Nat.le_of_eq hfl)
      by_cases h' : i < b.list.length
      · have hw : IntKind.i64.wrap ((i : Int) + 1) = ((i + 1 : Nat) : Int) := wsucc h' hx
        simp (config := { maxSteps := 4000000 }) only [go_sem, simprocAttr, ↓dnA, Tryz.f73, encBk, rows_length, nlt h']
        refine semL_drawL tab_ok 27 mixed_ rfl (ord := [(0, []), (1, []), (2, []), (3, []), (4, []), (5, []), (6, []), (7, []), (8, []), (9, []), (10, []), (11, []), (12, []), (13, []), (14, []), (15, []), (16, []), (17, []), (18, []), (19, []), (20, []), (21, []), (22, []), (23, []), (24, []), (25, [0]), (26, [])]) (by dsimp only; decide +kernel) ?_
        simp (config := { maxSteps := 4000000 }) only [go_sem, simprocAttr, ↓dnA, Tryz.f73, encBk, rows_length, rows_get _ _ _ h', nlt h', nn0, encA, ht, hfl, hw]
        have htk : b.list.take (i + 1) = b.list.take i ++ [b.list[i]] := (List.take_append_getElem h').symm
        repeat refine And.intro (by first | omega | (simp; done) | (simp; omega) | assumption) ?_
        refine ⟨i + 1, [(1, 1), (51, 17)], by omega, by dsimp only; omega, Weak.of (by rfl) ?_ ?_ (by rfl)⟩
        · simp (config := { maxSteps := 4000000 }) only [go_sem, simprocAttr, ↓dnA, Tryz.f73, encBk, htk, frW, wk2, wk1, wkL, wkB, hpW, List.mem_cons, Prod.mk.injEq, exists_eq_left, exists_eq_right, exists_eq]
          simp only [rows, List.flatMap_append, List.map_append, List.append_assoc, List.flatMap_cons, List.flatMap_nil, List.append_nil]
          rfl
        · simp (config := { maxSteps := 4000000 }) only [go_sem, simprocAttr, ↓dnA, Tryz.f73, show 4 + 4 * (i + 1) = 4 + 4 * i + 4 by omega, frW, wk2, wk1, wkL, wkB, hpW, List.mem_cons, Prod.mk.injEq, exists_eq_left, exists_eq_right, exists_eq]
      · have : i = b.list.length := by omega
        subst this
        rw [List.take_length] at ht hfl
        have hrw : rows encI (headNums b ++ b.list.flatMap actNums) ++ [[.int .i64 b.root], [.int .i64 b.effects]] = rows encI (blockNums b) := by simp [rows, blockNums, encI]
        have hl2 : (rows encI (blockNums b)).length = 4 + 4 * b.list.length + 2 := by rw [← hrw, List.length_append, hfl]; rfl
        simp (config := { maxSteps := 4000000 }) only [go_sem, simprocAttr, ↓dnA, Tryz.f73, nlf h', encBk, ht, hfl, List.take_length, hrw, hl2, rows_length]
        repeat refine And.intro (by first | omega | (simp; done) | (simp; omega) | assumption) ?_
        refine CallTo.det (c_spec_l1Sum 5 _ _ (by rw [rows_length] at hl2; omega) (by omega) hs) fun _ => ?_
        simp (config := { maxSteps := 4000000 }) only [go_sem, simprocAttr, ↓dnA, Tryz.f73, nlf h', encBk, ht, hfl, List.take_length, hrw, hl2, blockSum, h]

theorem blockSum_neg (b : Block) : blockSum b < 0 ↔ blockValid b = false := by
  unfold blockSum
  split
  · rename_i h
    have : ∀ (l : List Int) (s : Int), 0 ≤ s → 0 ≤ sumI s l := by
      intro l
      induction l with
      | nil => intro s hs; exact hs
      | cons x r ih => intro s _; exact ih _ (by have := moreI_bd s x; omega)
    have := this (blockNums b) 22 (by omega)
    simp [h]; omega
  · rename_i h
    simp [h]

end Go.Proofs.YthcfafpjkbbaoaaGreat

/- Contracts: first blocks, equality of blocks. -/
set_option linter.unusedSimpArgs false
set_option linter.unusedVariables false
set_option maxRecDepth 20000
set_option maxHeartbeats 2000000
namespace Go.Proofs.YthcfafpjkbbaoaaGreat
open Go Go.RowKit

theorem c_spec_SumOf (tag : Int) (n1 : Option Bool) (xs : List Int) (hx : xs.length < 2 ^ 62) : Det Tryz.prog 175 [.int .i64 tag, .sl n1 (rows encI xs)] (.int .i64 (sumOf tag xs)) := by
  refine fspec_det tab_ok Tryz.call175 Tryz.func175 rfl 24 Tryz.ntmps175 (of_decide_eq_true rfl) fun B => codeK_sound tab_ok _ _ _ ?_
  simp (config := { maxSteps := 4000000 }) only [go_sem, simprocAttr, ↓dnA, Tryz.f175, rows_length]
  refine semL_for tab_ok (fun i : Nat => ⟨24, [(0, .int .i64 tag), (1, .sl n1 (rows encI xs)), (5, .int .i64 i)], []⟩) (fun i => xs.length - i)
    (fun i => i ≤ xs.length ∧ (xs.drop i).all isSummedB = xs.all isSummedB) 0 [] (Weak.of (by rfl) trivial ?_ (by rfl)) ⟨by omega, rfl⟩ ?_
  · simp (config := { maxSteps := 4000000 }) only [go_sem, simprocAttr, ↓dnA, Tryz.f175, frW, wk2, wk1, wkL, wkB, hpW, List.mem_cons, Prod.mk.injEq, exists_eq_left, exists_eq_right, exists_eq]
  · rintro i ⟨hi, hp⟩
    by_cases h : i < xs.length
    · rw [drop_cons xs i h, List.all_cons] at hp
      simp (config := { maxSteps := 4000000 }) only [go_sem, simprocAttr, ↓dnA, Tryz.f175, rows_length, rows_get _ _ _ h, encI, nlt h, nn0]
      refine CallTo.det (c_l1In _ _ _) fun _ => ?_
      cases h1 : inB xs[i] 0 2000000 with
      | false =>
        have h1' : isSummedB xs[i] = false := h1
        rw [h1', Bool.false_and] at hp
        simp (config := { maxSteps := 4000000 }) only [go_sem, simprocAttr, ↓dnA, Tryz.f175, rows_length, rows_get _ _ _ h, encI, nlt h, nn0, h1]
        unfold sumOf
        rw [← hp, Bool.and_false]
        rfl
      | true =>
        have h1' : isSummedB xs[i] = true := h1
        rw [h1', Bool.true_and] at hp
        simp (config := { maxSteps := 4000000 }) only [go_sem, simprocAttr, ↓dnA, Tryz.f175, rows_length, rows_get _ _ _ h, encI, nlt h, nn0, h1, wsucc h hx]
        refine ⟨i + 1, [], ⟨by omega, hp⟩, by dsimp only; omega, Weak.of (by rfl) trivial ?_ (by rfl)⟩
        simp (config := { maxSteps := 4000000 }) only [go_sem, simprocAttr, ↓dnA, Tryz.f175, frW, wk2, wk1, wkL, wkB, hpW, List.mem_cons, Prod.mk.injEq, exists_eq_left, exists_eq_right, exists_eq]
    · have : i = xs.length := by omega
      subst this
      simp only [List.drop_length, List.all_nil] at hp
      simp (config := { maxSteps := 4000000 }) only [go_sem, simprocAttr, ↓dnA, Tryz.f175, rows_length, nlf h]
      refine CallTo.det (c_l1In _ _ _) fun _ => ?_
      cases h1 : inB tag 0 9 with
      | false =>
        have h1' : (decide (0 ≤ tag) && decide (tag ≤ 9)) = false := h1
        simp (config := { maxSteps := 4000000 }) only [go_sem, simprocAttr, ↓dnA, Tryz.f175, rows_length, nlf h, h1]
        unfold sumOf
        rw [h1', Bool.false_and]
        rfl
      | true =>
        have h1' : (decide (0 ≤ tag) && decide (tag ≤ 9)) = true := h1
        have h2 := inB_iff.1 h1
        simp (config := { maxSteps := 4000000 }) only [go_sem, simprocAttr, ↓dnA, Tryz.f175, rows_length, nlf h, h1]
        refine CallTo.det (c_spec_l1Sum tag _ xs hx h2 (fun x hx => by simpa [isSummedB] using List.all_eq_true.1 hp.symm x hx)) fun _ => ?_
        simp (config := { maxSteps := 4000000 }) only [go_sem, simprocAttr, ↓dnA, Tryz.f175, rows_length, nlf h, h1]
        unfold sumOf
        rw [h1', ← hp]
        rfl

theorem c_impl_EffectsSum0 (n1 : Option Bool) : Det Tryz.prog 147 [.sl n1 []] (.int .i64 21) := by
  refine fspec_det tab_ok Tryz.call147 Tryz.func147 rfl 23 Tryz.ntmps147 (of_decide_eq_true rfl) fun B => codeK_sound tab_ok _ _ _ ?_
  simp (config := { maxSteps := 4000000 }) only [go_sem, simprocAttr, ↓dnA, Tryz.f147]
  refine semL_for tab_ok (fun _ : Unit => ⟨23, [(3, .sl (some false) []), (9, .sl n1 []), (10, .int .i64 0), (11, .int .i64 0)], []⟩) (fun _ => 0) (fun _ => True) () [] (Weak.of (by rfl) trivial ?_ (by rfl)) trivial ?_
  · simp (config := { maxSteps := 4000000 }) only [go_sem, simprocAttr, ↓dnA, Tryz.f147, frW, wk2, wk1, wkL, wkB, hpW, List.mem_cons, Prod.mk.injEq, exists_eq_left, exists_eq_right, exists_eq]
  · rintro _ _
    simp (config := { maxSteps := 4000000 }) only [go_sem, simprocAttr, ↓dnA, Tryz.f147]
    refine CallTo.det (c_impl_SumOf 4 _ [] (by simp)) fun _ => ?_
    simp (config := { maxSteps := 4000000 }) only [go_sem, simprocAttr, ↓dnA, Tryz.f147]
    decide

theorem c_spec_EffectsSum0 (n1 : Option Bool) : Det Tryz.prog 138 [.sl n1 []] (.int .i64 21) := by
  refine fspec_det tab_ok Tryz.call138 Tryz.func138 rfl 25 Tryz.ntmps138 (of_decide_eq_true rfl) fun B => codeK_sound tab_ok _ _ _ ?_
  simp (config := { maxSteps := 4000000 }) only [go_sem, simprocAttr, ↓dnA, Tryz.f138]
  refine semL_for tab_ok (fun _ : Unit => ⟨25, [(0, .sl n1 []), (3, .row 5 0), (4, .int .i64 0)], [(5, .row true true 1 [])]⟩) (fun _ => 0) (fun _ => True) () [(5, 5)] (Weak.of (by rfl) ?_ ?_ (by rfl)) trivial ?_
  · simp (config := { maxSteps := 4000000 }) only [go_sem, simprocAttr, ↓dnA, Tryz.f138, frW, wk2, wk1, wkL, wkB, hpW, List.mem_cons, Prod.mk.injEq, exists_eq_left, exists_eq_right, exists_eq]
  · simp (config := { maxSteps := 4000000 }) only [go_sem, simprocAttr, ↓dnA, Tryz.f138, frW, wk2, wk1, wkL, wkB, hpW, List.mem_cons, Prod.mk.injEq, exists_eq_left, exists_eq_right, exists_eq]
  · rintro _ _
    simp (config := { maxSteps := 4000000 }) only [go_sem, simprocAttr, ↓dnA, Tryz.f138]
    refine CallTo.det (c_spec_SumOf 4 _ [] (by simp)) fun _ => ?_
    simp (config := { maxSteps := 4000000 }) only [go_sem, simprocAttr, ↓dnA, Tryz.f138]
    decide

/-- The first block over a store. -/
def firstBlock (s : List Entry) : Block := if storeValid s then ⟨0, 0, 0, [], rootOf s, 21⟩ else ⟨0, 0, 0, [], 0, 0⟩

theorem c_impl_FirstBlock (n1 : Option Bool) (s : List Entry) (hx : s.length < 2 ^ 62) : Det Tryz.prog 100 [.sl n1 (rows encE s)] (.agg (encBk none (firstBlock s))) := by
  refine fspec_det tab_ok Tryz.call100 Tryz.func100 rfl 11 Tryz.ntmps100 (of_decide_eq_true rfl) fun B => codeK_sound tab_ok _ _ _ ?_
  simp (config := { maxSteps := 4000000 }) only [go_sem, simprocAttr, ↓dnA, Tryz.f100]
  refine CallTo.det (c_impl_StoreValid _ _ hx) fun _ => ?_
  cases h : storeValid s with
  | false => simp (config := { maxSteps := 4000000 }) only [go_sem, simprocAttr, ↓dnA, Tryz.f100, h, firstBlock, encBk, rows_nil]
  | true =>
    simp (config := { maxSteps := 4000000 }) only [go_sem, simprocAttr, ↓dnA, Tryz.f100, h]
    refine CallTo.det (c_impl_RootOf _ _ hx) fun _ => ?_
    simp (config := { maxSteps := 4000000 }) only [go_sem, simprocAttr, ↓dnA, Tryz.f100, h]
    refine CallTo.det (c_impl_EffectsSum0 _) fun _ => ?_
    simp (config := { maxSteps := 4000000 }) only [go_sem, simprocAttr, ↓dnA, Tryz.f100, h, firstBlock, encBk, rows_nil]

theorem c_spec_FirstBlock (n1 : Option Bool) (s : List Entry) (hx : s.length < 2 ^ 62) : Det Tryz.prog 75 [.sl n1 (rows encE s)] (.agg (encBk none (firstBlock s))) := by
  refine fspec_det tab_ok Tryz.call75 Tryz.func75 rfl 12 Tryz.ntmps75 (of_decide_eq_true rfl) fun B => codeK_sound tab_ok _ _ _ ?_
  simp (config := { maxSteps := 4000000 }) only [go_sem, simprocAttr, ↓dnA, Tryz.f75]
  refine CallTo.det (c_spec_StoreValid _ _ hx) fun _ => ?_
  cases h : storeValid s with
  | false => simp (config := { maxSteps := 4000000 }) only [go_sem, simprocAttr, ↓dnA, Tryz.f75, h, firstBlock, encBk, rows_nil]
  | true =>
    simp (config := { maxSteps := 4000000 }) only [go_sem, simprocAttr, ↓dnA, Tryz.f75, h]
    refine CallTo.det (c_spec_RootOf _ _ hx) fun _ => ?_
    simp (config := { maxSteps := 4000000 }) only [go_sem, simprocAttr, ↓dnA, Tryz.f75, h]
    refine CallTo.det (c_spec_EffectsSum0 _) fun _ => ?_
    simp (config := { maxSteps := 4000000 }) only [go_sem, simprocAttr, ↓dnA, Tryz.f75, h, firstBlock, encBk, rows_nil]

end Go.Proofs.YthcfafpjkbbaoaaGreat

/- Contracts: equality of blocks, numbers in lists, blocks by their sums. -/
set_option linter.unusedSimpArgs false
set_option linter.unusedVariables false
set_option maxRecDepth 20000
set_option maxHeartbeats 2000000
namespace Go.Proofs.YthcfafpjkbbaoaaGreat
open Go Go.RowKit

theorem rows_gd {α : Type} [Inhabited α] (e : α → List AV) (xs : List α) (i : Nat) (h : i < xs.length) : (rows e xs).getD i [] = e (xs.getD i default) := by
  rw [rows_get _ _ _ h]; simp [List.getD_eq_getElem?_getD, h]

theorem getD_get {α : Type} [Inhabited α] (xs : List α) (i : Nat) (h : i < xs.length) : xs.getD i default = xs[i] := by
  simp [List.getD_eq_getElem?_getD, h]

theorem take_snoc {α : Type} (xs : List α) (i : Nat) (h : i < xs.length) : xs.take (i + 1) = xs.take i ++ [xs[i]] := (List.take_append_getElem h).symm

/-- Comparing lists one by one: what is behind i decides. -/
theorem eq_drop {α : Type} [DecidableEq α] (xs ys : List α) (i : Nat) (hl : xs.length = ys.length) (h : i < xs.length) :
    decide (xs.drop i = ys.drop i) = (decide (xs[i] = ys[i]'(by omega)) && decide (xs.drop (i + 1) = ys.drop (i + 1))) := by
  rw [drop_cons xs i h, drop_cons ys i (by omega), ← Bool.decide_and]
  exact decide_eq_decide.2 (by rw [List.cons.injEq])

theorem eqA (a b : Action) (K : Bool → Prop) : eqCellsK [.int .i64 a.kind, .int .i64 a.fr, .int .i64 a.to, .int .i64 a.amount] [.int .i64 b.kind, .int .i64 b.fr, .int .i64 b.to, .int .i64 b.amount] true K = K (decide (a = b)) := by
  simp only [eqCellsK, true_and, Bool.true_and]
  congr 1
  obtain ⟨a1, a2, a3, a4⟩ := a
  obtain ⟨b1, b2, b3, b4⟩ := b
  rw [Bool.eq_iff_iff]
  simp only [Bool.and_eq_true, beq_iff_eq, decide_eq_true_eq, Action.mk.injEq, and_assoc]

theorem c_slices_Equal_Action (n1 n2 : Option Bool) (xs ys : List Action) (hx : xs.length < 2 ^ 62) (hy : ys.length < 2 ^ 62) :
    Det Tryz.prog 150 [.sl n1 (rows encA xs), .sl n2 (rows encA ys)] (.bool (decide (xs = ys))) := by
  refine fspec_det tab_ok Tryz.call150 Tryz.func150 rfl 26 Tryz.ntmps150 (of_decide_eq_true rfl) fun B => codeK_sound tab_ok _ _ _ ?_
  by_cases hl : xs.length = ys.length
  · have hd : (((xs.length : Int) != (ys.length : Int))) = false := by simp [hl]
    simp (config := { maxSteps := 4000000 }) only [go_sem, simprocAttr, ↓dnA, Tryz.f150, rows_length, hd]
    refine semL_for tab_ok (fun i : Nat => ⟨26, [(0, .sl n1 (rows encA xs)), (1, .sl n2 (rows encA ys)), (12, .int .i64 xs.length), (13, .int .i64 i)], []⟩) (fun i => xs.length - i)
      (fun i => i ≤ xs.length ∧ decide (xs.drop i = ys.drop i) = decide (xs = ys)) 0 [] (Weak.of (by rfl) trivial ?_ (by rfl)) ⟨by omega, rfl⟩ ?_
    · simp (config := { maxSteps := 4000000 }) only [go_sem, simprocAttr, ↓dnA, Tryz.f150, rows_length, frW, wk2, wk1, wkL, wkB, hpW, List.mem_cons, Prod.mk.injEq, exists_eq_left, exists_eq_right, exists_eq]
    · rintro i ⟨hi, hp⟩
      by_cases h : i < xs.length
      · have h2 : i < ys.length := by omega
        rw [eq_drop xs ys i hl h] at hp
        simp (config := { maxSteps := 4000000 }) only [go_sem, simprocAttr, ↓dnA, Tryz.f150, rows_length, nlt h]
        refine semL_still tab_ok mixed_ (by decide +kernel) ?_
        cases he : decide (xs[i] = ys[i]) with
        | false =>
          rw [he, Bool.false_and] at hp
          simp (config := { maxSteps := 4000000 }) only [go_sem, simprocAttr, ↓dnA, Tryz.f150, rows_length, rows_get _ _ _ h, rows_get _ _ _ h2, encA, nn0, nlt h, nlt h2, eqA, he, ← hp]
        | true =>
          rw [he, Bool.true_and] at hp
          simp (config := { maxSteps := 4000000 }) only [go_sem, simprocAttr, ↓dnA, Tryz.f150, rows_length, rows_get _ _ _ h, rows_get _ _ _ h2, encA, nn0, nlt h, nlt h2, eqA, he]
          refine ⟨i + 1, [], ⟨by omega, hp⟩, by dsimp only; omega, Weak.of (by rfl) trivial ?_ (by rfl)⟩
          simp (config := { maxSteps := 4000000 }) only [go_sem, simprocAttr, ↓dnA, Tryz.f150, wsucc h hx, frW, wk2, wk1, wkL, wkB, hpW, List.mem_cons, Prod.mk.injEq, exists_eq_left, exists_eq_right, exists_eq]
      · have : i = xs.length := by omega
        subst this
        rw [List.drop_length, List.drop_of_length_le (by omega)] at hp
        simp (config := { maxSteps := 4000000 }) only [go_sem, simprocAttr, ↓dnA, Tryz.f150, nlf h, ← hp]
  · have hd : (((xs.length : Int) != (ys.length : Int))) = true := by simp; omega
    have hne : xs ≠ ys := fun e => hl (by rw [e])
    simp (config := { maxSteps := 4000000 }) only [go_sem, simprocAttr, ↓dnA, Tryz.f150, rows_length, hd, decide_eq_false hne]

theorem c_slices_Index_int (n1 : Option Bool) (xs : List Int) (v : Int) (hx : xs.length < 2 ^ 62) : Det Tryz.prog 151 [.sl n1 (rows encI xs), .int .i64 v] (.int .i64 (idxF (fun x => v == x) xs 0)) := by
  refine fspec_det tab_ok Tryz.call151 Tryz.func151 rfl 19 Tryz.ntmps151 (of_decide_eq_true rfl) fun B => codeK_sound tab_ok _ _ _ ?_
  simp (config := { maxSteps := 4000000 }) only [go_sem, simprocAttr, ↓dnA, Tryz.f151, rows_length]
  refine semL_for tab_ok (fun i : Nat => ⟨19, [(0, .sl n1 (rows encI xs)), (1, .int .i64 v), (7, .int .i64 xs.length), (8, .int .i64 i)], []⟩) (fun i => xs.length - i)
    (fun i => i ≤ xs.length ∧ idxF (fun x => v == x) (xs.drop i) i = idxF (fun x => v == x) xs 0) 0 [] (Weak.of (by rfl) trivial ?_ (by rfl)) ⟨by omega, rfl⟩ ?_
  · simp (config := { maxSteps := 4000000 }) only [go_sem, simprocAttr, ↓dnA, Tryz.f151, frW, wk2, wk1, wkL, wkB, hpW, List.mem_cons, Prod.mk.injEq, exists_eq_left, exists_eq_right, exists_eq]
  · rintro i ⟨hi, hp⟩
    by_cases h : i < xs.length
    · rw [drop_cons xs i h] at hp
      have hp : (if (v == xs[i]) = true then (i : Int) else idxF (fun x => v == x) (xs.drop (i + 1)) (i + 1)) = idxF (fun x => v == x) xs 0 := hp
      cases he : (v == xs[i]) with
      | true =>
        rw [if_pos he] at hp
        simp (config := { maxSteps := 4000000 }) only [go_sem, simprocAttr, ↓dnA, Tryz.f151, rows_length, rows_get _ _ _ h, encI, nlt h, nn0, he, ← hp]
      | false =>
        rw [if_neg (by rw [he]; simp)] at hp
        simp (config := { maxSteps := 4000000 }) only [go_sem, simprocAttr, ↓dnA, Tryz.f151, rows_length, rows_get _ _ _ h, encI, nlt h, nn0, he]
        refine ⟨i + 1, [], ⟨by omega, hp⟩, by dsimp only; omega, Weak.of (by rfl) trivial ?_ (by rfl)⟩
        simp (config := { maxSteps := 4000000 }) only [go_sem, simprocAttr, ↓dnA, Tryz.f151, wsucc h hx, frW, wk2, wk1, wkL, wkB, hpW, List.mem_cons, Prod.mk.injEq, exists_eq_left, exists_eq_right, exists_eq]
    · have : i = xs.length := by omega
      subst this
      rw [List.drop_length] at hp
      simp (config := { maxSteps := 4000000 }) only [go_sem, simprocAttr, ↓dnA, Tryz.f151, nlf h, ← hp]
      rfl

theorem c_slices_Contains_int (n1 : Option Bool) (xs : List Int) (v : Int) (hx : xs.length < 2 ^ 62) : Det Tryz.prog 102 [.sl n1 (rows encI xs), .int .i64 v] (.bool (xs.any fun x => v == x)) := by
  refine fspec_det tab_ok Tryz.call102 Tryz.func102 rfl 9 Tryz.ntmps102 (of_decide_eq_true rfl) fun B => codeK_sound tab_ok _ _ _ ?_
  simp (config := { maxSteps := 4000000 }) only [go_sem, simprocAttr, ↓dnA, Tryz.f102]
  refine CallTo.det (c_slices_Index_int _ _ _ hx) fun _ => ?_
  simp (config := { maxSteps := 4000000 }) only [go_sem, simprocAttr, ↓dnA, Tryz.f102, idxF_any]

end Go.Proofs.YthcfafpjkbbaoaaGreat

/- Contracts: equality of blocks. -/
set_option linter.unusedSimpArgs false
set_option linter.unusedVariables false
set_option maxRecDepth 20000
set_option maxHeartbeats 2000000
namespace Go.Proofs.YthcfafpjkbbaoaaGreat
open Go Go.RowKit

def sameB (b c : Block) : Bool := (b.before == c.before) && ((b.height == c.height) && ((b.view == c.view) && ((b.root == c.root) && ((b.effects == c.effects) && decide (b.list = c.list)))))

theorem sameB_iff (b c : Block) : sameB b c = true ↔ b = c := by
  obtain ⟨b1, b2, b3, b4, b5, b6⟩ := b
  obtain ⟨c1, c2, c3, c4, c5, c6⟩ := c
  simp only [sameB, Bool.and_eq_true, beq_iff_eq, decide_eq_true_eq, Block.mk.injEq]
  constructor
  · rintro ⟨h1, h2, h3, h4, h5, h6⟩; exact ⟨h1, h2, h3, h6, h4, h5⟩
  · rintro ⟨h1, h2, h3, h4, h5, h6⟩; exact ⟨h1, h2, h3, h5, h6, h4⟩

theorem c_impl_same (n1 n2 : Option Bool) (b c : Block) (hx : b.list.length < 2 ^ 62) (hy : c.list.length < 2 ^ 62) : Det Tryz.prog 99 [.agg (encBk n1 b), .agg (encBk n2 c)] (.bool (sameB b c)) := by
  refine fspec_det tab_ok Tryz.call99 Tryz.func99 rfl 45 Tryz.ntmps99 (of_decide_eq_true rfl) fun B => codeK_sound tab_ok _ _ _ ?_
  unfold encBk
  cases h1 : (b.before == c.before) with
  | false => simp (config := { maxSteps := 4000000 }) only [go_sem, simprocAttr, ↓dnA, Tryz.f99, h1, sameB]
  | true =>
    cases h2 : (b.height == c.height) with
    | false => simp (config := { maxSteps := 4000000 }) only [go_sem, simprocAttr, ↓dnA, Tryz.f99, h1, h2, sameB]
    | true =>
      cases h3 : (b.view == c.view) with
      | false => simp (config := { maxSteps := 4000000 }) only [go_sem, simprocAttr, ↓dnA, Tryz.f99, h1, h2, h3, sameB]
      | true =>
        cases h4 : (b.root == c.root) with
        | false => simp (config := { maxSteps := 4000000 }) only [go_sem, simprocAttr, ↓dnA, Tryz.f99, h1, h2, h3, h4, sameB]
        | true =>
          cases h5 : (b.effects == c.effects) with
          | false => simp (config := { maxSteps := 4000000 }) only [go_sem, simprocAttr, ↓dnA, Tryz.f99, h1, h2, h3, h4, h5, sameB]
          | true =>
            simp (config := { maxSteps := 4000000 }) only [go_sem, simprocAttr, ↓dnA, Tryz.f99, h1, h2, h3, h4, h5]
            refine CallTo.det (c_slices_Equal_Action _ _ _ _ hx hy) fun _ => ?_
            simp (config := { maxSteps := 4000000 }) only [go_sem, simprocAttr, ↓dnA, Tryz.f99, h1, h2, h3, h4, h5, sameB]

theorem c_spec_same (n1 n2 : Option Bool) (b c : Block) (hx : b.list.length < 2 ^ 62) (hy : c.list.length < 2 ^ 62) : Det Tryz.prog 74 [.agg (encBk n1 b), .agg (encBk n2 c)] (.bool (sameB b c)) := by
  refine fspec_det tab_ok Tryz.call74 Tryz.func74 rfl 66 Tryz.ntmps74 (of_decide_eq_true rfl) fun B => codeK_sound tab_ok _ _ _ ?_
  unfold encBk
  cases h1 : (b.before == c.before) with
  | false => simp (config := { maxSteps := 4000000 }) only [go_sem, simprocAttr, ↓dnA, Tryz.f74, bne, h1, sameB]
  | true =>
    cases h2 : (b.height == c.height) with
    | false => simp (config := { maxSteps := 4000000 }) only [go_sem, simprocAttr, ↓dnA, Tryz.f74, bne, h1, h2, sameB]
    | true =>
      cases h3 : (b.view == c.view) with
      | false => simp (config := { maxSteps := 4000000 }) only [go_sem, simprocAttr, ↓dnA, Tryz.f74, bne, h1, h2, h3, sameB]
      | true =>
        cases h4 : (b.root == c.root) with
        | false => simp (config := { maxSteps := 4000000 }) only [go_sem, simprocAttr, ↓dnA, Tryz.f74, bne, h1, h2, h3, h4, sameB]
        | true =>
          cases h5 : (b.effects == c.effects) with
          | false => simp (config := { maxSteps := 4000000 }) only [go_sem, simprocAttr, ↓dnA, Tryz.f74, bne, h1, h2, h3, h4, h5, sameB]
          | true =>
            by_cases hl : b.list.length = c.list.length
            · have hd : ((b.list.length : Int) == (c.list.length : Int)) = true := by simp [hl]
              have hsb : sameB b c = decide (b.list = c.list) := by simp [sameB, h1, h2, h3, h4, h5]
              simp (config := { maxSteps := 4000000 }) only [go_sem, simprocAttr, ↓dnA, Tryz.f74, bne, rows_length, h1, h2, h3, h4, h5, hd]
              refine semL_for tab_ok (fun i : Nat => ⟨66, [(2, .loc 2 0), (3, .loc 3 0), (5, .int .i64 i)], [(2, .var (encBk n1 b)), (3, .var (encBk n2 c))]⟩) (fun i => b.list.length - i)
                (fun i => i ≤ b.list.length ∧ decide (b.list.drop i = c.list.drop i) = sameB b c) 0 [(2, 2), (3, 3)] (Weak.of (by rfl) ?_ ?_ (by rfl)) ⟨by omega, hsb.symm⟩ ?_
              · simp (config := { maxSteps := 4000000 }) only [go_sem, simprocAttr, ↓dnA, Tryz.f74, encBk, frW, wk2, wk1, wkL, wkB, hpW, List.mem_cons, Prod.mk.injEq, exists_eq_left, exists_eq_right, exists_eq]
              · simp (config := { maxSteps := 4000000 }) only [go_sem, simprocAttr, ↓dnA, Tryz.f74, encBk, frW, wk2, wk1, wkL, wkB, hpW, List.mem_cons, Prod.mk.injEq, exists_eq_left, exists_eq_right, exists_eq]
              · rintro i ⟨hi, hp⟩
                by_cases h : i < b.list.length
                · have h' : i < c.list.length := by omega
                  rw [eq_drop _ _ i hl h] at hp
                  simp (config := { maxSteps := 4000000 }) only [go_sem, simprocAttr, ↓dnA, Tryz.f74, encBk, rows_length, nlt h]
                  refine semL_still tab_ok mixed_ (by decide +kernel) ?_
                  cases he : decide (b.list[i] = c.list[i]) with
                  | false =>
                    rw [he, Bool.false_and] at hp
                    simp (config := { maxSteps := 4000000 }) only [go_sem, simprocAttr, ↓dnA, Tryz.f74, encBk, rows_length, rows_get _ _ _ h, rows_get _ _ _ h', encA, nn0, nlt h, nlt h', eqA, he, ← hp]
                  | true =>
                    rw [he, Bool.true_and] at hp
                    simp (config := { maxSteps := 4000000 }) only [go_sem, simprocAttr, ↓dnA, Tryz.f74, encBk, rows_length, rows_get _ _ _ h, rows_get _ _ _ h', encA, nn0, nlt h, nlt h', eqA, he]
                    refine ⟨i + 1, [(2, 2), (3, 3)], ⟨by omega, hp⟩, by dsimp only; omega, Weak.of (by rfl) ?_ ?_ (by rfl)⟩
                    · simp (config := { maxSteps := 4000000 }) only [go_sem, simprocAttr, ↓dnA, Tryz.f74, encBk, frW, wk2, wk1, wkL, wkB, hpW, List.mem_cons, Prod.mk.injEq, exists_eq_left, exists_eq_right, exists_eq]
                    · simp (config := { maxSteps := 4000000 }) only [go_sem, simprocAttr, ↓dnA, Tryz.f74, wsucc h hx, frW, wk2, wk1, wkL, wkB, hpW, List.mem_cons, Prod.mk.injEq, exists_eq_left, exists_eq_right, exists_eq]
                · have : i = b.list.length := by omega
                  subst this
                  rw [List.drop_length, List.drop_of_length_le (by omega)] at hp
                  simp (config := { maxSteps := 4000000 }) only [go_sem, simprocAttr, ↓dnA, Tryz.f74, encBk, rows_length, nlf h, ← hp]
            · have hd : ((b.list.length : Int) == (c.list.length : Int)) = false := by simp; omega
              have hne : decide (b.list = c.list) = false := decide_eq_false fun e => hl (by rw [e])
              simp (config := { maxSteps := 4000000 }) only [go_sem, simprocAttr, ↓dnA, Tryz.f74, bne, rows_length, h1, h2, h3, h4, h5, hd, sameB, hne]

end Go.Proofs.YthcfafpjkbbaoaaGreat

/- Contracts: blocks by their sums. -/
set_option linter.unusedSimpArgs false
set_option linter.unusedVariables false
set_option maxRecDepth 20000
set_option maxHeartbeats 2000000
namespace Go.Proofs.YthcfafpjkbbaoaaGreat
open Go Go.RowKit

structure Tree where
  base : List Entry
  blocks : List Block
  before : List Int
deriving DecidableEq, Inhabited

def encB1 (b : Block) : List AV := encBk none b
def encT (n1 n2 n3 : Option Bool) (t : Tree) : List AV := [.sl n1 (rows encE t.base), .sl n2 (rows encB1 t.blocks), .sl n3 (rows encI t.before)]

/-- Sizes that fit. -/
structure TreeSz (t : Tree) : Prop where
  base : t.base.length < 2 ^ 62
  blocks : t.blocks.length < 2 ^ 62
  before : t.before.length < 2 ^ 62
  list : ∀ b, b ∈ t.blocks → b.list.length < 2 ^ 62

theorem c_impl_find1 (n : Option Bool) (b : Block) (sum : Int) (hx : b.list.length < 2 ^ 62) : Det Tryz.prog 168 [.agg (encBk n b), .pel [.int .i64 sum]] (.bool (blockSum b == sum)) := by
  refine fspec_det tab_ok Tryz.call168 Tryz.func168 rfl 8 Tryz.ntmps168 (of_decide_eq_true rfl) fun B => codeK_sound tab_ok _ _ _ ?_
  unfold encBk
  simp (config := { maxSteps := 4000000 }) only [go_sem, simprocAttr, ↓dnA, Tryz.f168]
  refine semL_draw tab_ok mixed_ rfl (ord := [(0, []), (2, []), (1, [2]), (3, []), (4, [])]) (by dsimp only; decide +kernel) ?_
  simp (config := { maxSteps := 4000000 }) only [go_sem, simprocAttr, ↓dnA, Tryz.f168]
  refine CallTo.det (c_impl_BlockSum n b hx) fun _ => ?_
  simp (config := { maxSteps := 4000000 }) only [go_sem, simprocAttr, ↓dnA, Tryz.f168]

theorem c_slices_IndexFunc_Block (n1 : Option Bool) (xs : List Block) (k : FuncId) (c : Int) (p : Block → Bool) (hx : xs.length < 2 ^ 62) (hm : mutB k = false) (hp : ∀ x, x ∈ xs → Det Tryz.prog k [.agg (encB1 x), .pel [.int .i64 c]] (.bool (p x))) :
    Det Tryz.prog 167 [.sl n1 (rows encB1 xs), .fn k [.pel [.int .i64 c]]] (.int .i64 (idxF p xs 0)) := by
  simp only [mutB] at hm
  refine fspec_det tab_ok Tryz.call167 Tryz.func167 rfl 19 Tryz.ntmps167 (of_decide_eq_true rfl) fun B => codeK_sound tab_ok _ _ _ ?_
  simp (config := { maxSteps := 4000000 }) only [go_sem, simprocAttr, ↓dnA, Tryz.f167, rows_length, hm]
  refine semL_for tab_ok (fun i : Nat => ⟨19, [(0, .sl n1 (rows encB1 xs)), (1, .fn k [.pel [.int .i64 c]]), (7, .int .i64 xs.length), (8, .int .i64 i)], []⟩) (fun i => xs.length - i)
    (fun i => i ≤ xs.length ∧ idxF p (xs.drop i) i = idxF p xs 0) 0 [] (Weak.of (by rfl) trivial ?_ (by rfl)) ⟨by omega, rfl⟩ ?_
  · simp (config := { maxSteps := 4000000 }) only [go_sem, simprocAttr, ↓dnA, Tryz.f167, frW, wk2, wk1, wkL, wkB, hpW, List.mem_cons, Prod.mk.injEq, exists_eq_left, exists_eq_right, exists_eq]
  · rintro i ⟨hi, hp'⟩
    by_cases h : i < xs.length
    · simp (config := { maxSteps := 4000000 }) only [go_sem, simprocAttr, ↓dnA, Tryz.f167, rows_length, rows_get _ _ _ h, encB1, encBk, nlt h, nn0, hm]
      refine CallTo.det (hp _ (List.getElem_mem h)) fun _ => ?_
      rw [drop_cons xs i h] at hp'
      simp (config := { maxSteps := 4000000 }) only [go_sem, simprocAttr, ↓dnA, Tryz.f167, rows_length, rows_get _ _ _ h, encB1, encBk, nlt h, hm]
      refine ⟨fun h => ?_, fun h' => ?_⟩
      · rw [← hp']; simp [idxF, h]
      · refine ⟨i + 1, [], ⟨by omega, ?_⟩, by dsimp only; omega, Weak.of (by rfl) trivial ?_ (by rfl)⟩
        · rw [← hp']; simp [idxF, h']
        · simp (config := { maxSteps := 4000000 }) only [go_sem, simprocAttr, ↓dnA, Tryz.f167, wsucc h hx, frW, wk2, wk1, wkL, wkB, hpW, List.mem_cons, Prod.mk.injEq, exists_eq_left, exists_eq_right, exists_eq]
    · have : i = xs.length := by omega
      subst this
      rw [List.drop_length] at hp'
      simp (config := { maxSteps := 4000000 }) only [go_sem, simprocAttr, ↓dnA, Tryz.f167, nlf h, hm]
      rw [← hp']
      rfl

/-- The number of the block with a sum. -/
def findB (bs : List Block) (sum : Int) : Int := idxF (fun b => blockSum b == sum) bs 0

theorem c_impl_find (n1 n2 n3 : Option Bool) (t : Tree) (sum : Int) (hx : TreeSz t) : Det Tryz.prog 127 [.agg (encT n1 n2 n3 t), .int .i64 sum] (.int .i64 (findB t.blocks sum)) := by
  refine fspec_det tab_ok Tryz.call127 Tryz.func127 rfl 9 Tryz.ntmps127 (of_decide_eq_true rfl) fun B => codeK_sound tab_ok _ _ _ ?_
  unfold encT
  simp (config := { maxSteps := 4000000 }) only [go_sem, simprocAttr, ↓dnA, Tryz.f127]
  refine CallTo.det (c_slices_IndexFunc_Block n2 t.blocks _ sum (fun b => blockSum b == sum) hx.blocks rfl fun b hb => c_impl_find1 none b sum (hx.list b hb)) fun _ => ?_
  simp (config := { maxSteps := 4000000 }) only [go_sem, simprocAttr, ↓dnA, Tryz.f127]
  rfl

theorem c_spec_find (n1 n2 n3 : Option Bool) (t : Tree) (sum : Int) (hx : TreeSz t) : Det Tryz.prog 72 [.agg (encT n1 n2 n3 t), .int .i64 sum] (.int .i64 (findB t.blocks sum)) := by
  refine fspec_det tab_ok Tryz.call72 Tryz.func72 rfl 22 Tryz.ntmps72 (of_decide_eq_true rfl) fun B => codeK_sound tab_ok _ _ _ ?_
  unfold encT
  simp (config := { maxSteps := 4000000 }) only [go_sem, simprocAttr, ↓dnA, Tryz.f72]
  refine semL_for tab_ok (fun i : Nat => ⟨22, [(1, .int .i64 sum), (2, .loc 2 0), (5, .int .i64 i)], [(2, .var (encT n1 n2 n3 t))]⟩) (fun i => t.blocks.length - i)
    (fun i => i ≤ t.blocks.length ∧ idxF (fun b => blockSum b == sum) (t.blocks.drop i) i = findB t.blocks sum) 0 [(2, 2)] (Weak.of (by rfl) ?_ ?_ (by rfl)) ⟨by omega, rfl⟩ ?_
  · simp (config := { maxSteps := 4000000 }) only [go_sem, simprocAttr, ↓dnA, Tryz.f72, encT, frW, wk2, wk1, wkL, wkB, hpW, List.mem_cons, Prod.mk.injEq, exists_eq_left, exists_eq_right, exists_eq]
  · simp (config := { maxSteps := 4000000 }) only [go_sem, simprocAttr, ↓dnA, Tryz.f72, frW, wk2, wk1, wkL, wkB, hpW, List.mem_cons, Prod.mk.injEq, exists_eq_left, exists_eq_right, exists_eq]
  · rintro i ⟨hi, hp⟩
    by_cases h : i < t.blocks.length
    · simp (config := { maxSteps := 4000000 }) only [go_sem, simprocAttr, ↓dnA, Tryz.f72, encT, rows_length, rows_get _ _ _ h, encB1, encBk, nlt h, nn0]
      refine CallTo.det (c_spec_BlockSum none _ (hx.list _ (List.getElem_mem h))) fun _ => ?_
      rw [drop_cons t.blocks i h] at hp
      have hp : (if (blockSum t.blocks[i] == sum) = true then (i : Int) else idxF (fun b => blockSum b == sum) (t.blocks.drop (i + 1)) (i + 1)) = findB t.blocks sum := hp
      cases he : (blockSum t.blocks[i] == sum) with
      | true =>
        rw [if_pos he] at hp
        simp (config := { maxSteps := 4000000 }) only [go_sem, simprocAttr, ↓dnA, Tryz.f72, encT, rows_length, rows_get _ _ _ h, nlt h, nn0, he, ← hp]
      | false =>
        rw [if_neg (by rw [he]; simp)] at hp
        simp (config := { maxSteps := 4000000 }) only [go_sem, simprocAttr, ↓dnA, Tryz.f72, encT, rows_length, rows_get _ _ _ h, nlt h, nn0, he]
        refine ⟨i + 1, [(2, 2)], ⟨by omega, hp⟩, by dsimp only; omega, Weak.of (by rfl) ?_ ?_ (by rfl)⟩
        · simp (config := { maxSteps := 4000000 }) only [go_sem, simprocAttr, ↓dnA, Tryz.f72, encT, frW, wk2, wk1, wkL, wkB, hpW, List.mem_cons, Prod.mk.injEq, exists_eq_left, exists_eq_right, exists_eq]
        · simp (config := { maxSteps := 4000000 }) only [go_sem, simprocAttr, ↓dnA, Tryz.f72, wsucc h hx.blocks, frW, wk2, wk1, wkL, wkB, hpW, List.mem_cons, Prod.mk.injEq, exists_eq_left, exists_eq_right, exists_eq]
    · have : i = t.blocks.length := by omega
      subst this
      rw [List.drop_length] at hp
      simp (config := { maxSteps := 4000000 }) only [go_sem, simprocAttr, ↓dnA, Tryz.f72, encT, rows_length, nlf h, ← hp]
      rfl

end Go.Proofs.YthcfafpjkbbaoaaGreat

/- Contracts: valid trees of blocks. -/
set_option linter.unusedSimpArgs false
set_option linter.unusedVariables false
set_option maxRecDepth 20000
set_option maxHeartbeats 4000000
namespace Go.Proofs.YthcfafpjkbbaoaaGreat
open Go Go.RowKit

def Tree.blk (t : Tree) (i : Nat) : Block := t.blocks.getD i default
def Tree.bef (t : Tree) (i : Nat) : Int := t.before.getD i 0

theorem Tree.blk_get (t : Tree) (i : Nat) (h : i < t.blocks.length) : t.blocks[i] = t.blk i := (getD_get _ _ h).symm
theorem Tree.bef_get (t : Tree) (i : Nat) (h : i < t.before.length) : t.before[i] = t.bef i := by
  simp [Tree.bef, List.getD_eq_getElem?_getD, h]

/-- The block k is behind the one that it names. -/
structure Link (t : Tree) (k : Nat) : Prop where
  lo : 0 ≤ t.bef k
  hi : t.bef k < k
  sum : blockSum (t.blk (t.bef k).toNat) = (t.blk k).before
  height : (t.blk (t.bef k).toNat).height + 1 = (t.blk k).height
  view : (t.blk (t.bef k).toNat).view < (t.blk k).view

/-- Valid trees. -/
structure TreeOk (t : Tree) : Prop where
  store : storeValid t.base = true
  len : 1 ≤ t.blocks.length ∧ t.blocks.length ≤ 14
  bef : t.before.length = t.blocks.length
  first : t.blk 0 = firstBlock t.base
  bef0 : t.bef 0 = -1
  valid : ∀ i, i < t.blocks.length → blockValid (t.blk i) = true
  dist : ∀ i j, i < j → j < t.blocks.length → blockSum (t.blk i) ≠ blockSum (t.blk j)
  link : ∀ k, 0 < k → k < t.blocks.length → Link t k

open Classical in
noncomputable def treeValid (t : Tree) : Bool := decide (TreeOk t)

theorem treeValid_false {t : Tree} (h : ¬ TreeOk t) : treeValid t = false := by simp [treeValid, h]
theorem treeValid_true {t : Tree} (h : TreeOk t) : treeValid t = true := by simp [treeValid, h]
theorem treeOk_of {t : Tree} (h : treeValid t = true) : TreeOk t := by simpa [treeValid] using h

theorem firstBlock_list (s : List Entry) : (firstBlock s).list = [] := by unfold firstBlock; split <;> rfl

theorem blk_bd {b : Block} (h : blockValid b = true) : 0 ≤ b.height ∧ b.height ≤ 100 ∧ 0 ≤ b.view ∧ b.view ≤ 1000 := by
  simp only [blockValid, Bool.and_eq_true] at h
  have h4 := inB_iff.1 h.1.1.2
  have h5 := inB_iff.1 h.1.2
  omega

/-- What is known of a tree before its blocks are looked at one by one. -/
structure TreePre (t : Tree) : Prop where
  store : storeValid t.base = true
  len : 1 ≤ t.blocks.length ∧ t.blocks.length ≤ 14
  bef : t.before.length = t.blocks.length
  first : t.blk 0 = firstBlock t.base
  bef0 : t.bef 0 = -1

/-- What is known of a tree when its first i blocks have been looked at. -/
structure TreeTo (t : Tree) (i : Nat) : Prop where
  valid : ∀ k, k < i → blockValid (t.blk k) = true
  dist : ∀ j k, j < k → k < i → blockSum (t.blk j) ≠ blockSum (t.blk k)
  link : ∀ k, 0 < k → k < i → Link t k

theorem TreePre.ok {t : Tree} (h : TreePre t) (h' : TreeTo t t.blocks.length) : TreeOk t :=
  ⟨h.store, h.len, h.bef, h.first, h.bef0, h'.valid, h'.dist, h'.link⟩

def sumsTo (t : Tree) (i : Nat) : List Int := (List.range i).map fun k => blockSum (t.blk k)
theorem sumsTo_len (t : Tree) (i : Nat) : (sumsTo t i).length = i := by simp [sumsTo]
theorem sumsTo_succ (t : Tree) (i : Nat) : sumsTo t (i + 1) = sumsTo t i ++ [blockSum (t.blk i)] := by simp [sumsTo, List.range_succ]
theorem sumsTo_get (t : Tree) (i k : Nat) (h : k < i) : (sumsTo t i)[k]'(by rw [sumsTo_len]; exact h) = blockSum (t.blk k) := by simp [sumsTo]
theorem sumsTo_any (t : Tree) (i : Nat) (v : Int) : ((sumsTo t i).any fun x => v == x) = true ↔ ∃ k, k < i ∧ blockSum (t.blk k) = v := by
  simp only [sumsTo, List.any_map, List.any_eq_true, List.mem_range, Function.comp, beq_iff_eq]
  constructor
  · rintro ⟨k, h1, h2⟩; exact ⟨k, h1, h2.symm⟩
  · rintro ⟨k, h1, h2⟩; exact ⟨k, h1, h2.symm⟩

theorem c_impl_BlockTreeValid (n1 n2 n3 : Option Bool) (t : Tree) (hx : TreeSz t) : Det Tryz.prog 33 [.agg (encT n1 n2 n3 t)] (.bool (treeValid t)) := by
  refine fspec_det tab_ok Tryz.call33 Tryz.func33 rfl 112 Tryz.ntmps33 (of_decide_eq_true rfl) fun B => codeK_sound tab_ok _ _ _ ?_
  unfold encT
  simp (config := { maxSteps := 4000000 }) only [go_sem, simprocAttr, ↓dnA, Tryz.f33]
  refine semL_draw tab_ok mixed_ rfl (ord := [(0, []), (1, []), (2, []), (3, []), (4, []), (5, []), (6, []), (7, []), (8, []), (9, []), (10, []), (11, []), (12, []), (13, []), (14, []), (15, []), (16, []), (17, []), (18, []), (19, []), (20, []), (21, []), (22, []), (23, []), (24, []), (25, []), (26, []), (27, [21, 22, 23, 24]), (28, []), (29, []), (30, []), (31, []), (32, []), (33, []), (34, []), (35, []), (36, []), (37, [])]) (by dsimp only; decide +kernel) ?_
  simp (config := { maxSteps := 4000000 }) only [go_sem, simprocAttr, ↓dnA, Tryz.f33]
  refine CallTo.det (c_impl_StoreValid _ _ hx.base) fun _ => ?_
  cases h1 : storeValid t.base with
  | false =>
    have hn : treeValid t = false := treeValid_false fun h => by have := h.store; rw [h1] at this; cases this
    simp (config := { maxSteps := 4000000 }) only [go_sem, simprocAttr, ↓dnA, Tryz.f33, h1, hn]
  | true =>
    simp (config := { maxSteps := 4000000 }) only [go_sem, simprocAttr, ↓dnA, Tryz.f33, h1, rows_length]
    refine CallTo.det (c_in _ _ _) fun _ => ?_
    cases h2 : inB (t.blocks.length) 1 14 with
    | false =>
      have hn : treeValid t = false := treeValid_false fun h => by have := h.len; rw [inB_iff.2 (by omega)] at h2; cases h2
      simp (config := { maxSteps := 4000000 }) only [go_sem, simprocAttr, ↓dnA, Tryz.f33, h1, h2, hn, rows_length]
    | true =>
      have h2' := inB_iff.1 h2
      have h0 : 0 < t.blocks.length := by omega
      by_cases h3 : t.before.length = t.blocks.length
      · have hd : ((t.before.length : Int) != (t.blocks.length : Int)) = false := by simp [h3]
        have hp0 : ((0 : Int) < (t.blocks.length : Int)) = True := by simp; omega
        have hq0 : ((0 : Int) < (t.before.length : Int)) = True := by simp; omega
        have hg0 : (rows encB1 t.blocks).getD 0 [] = encB1 (t.blk 0) := rows_gd encB1 t.blocks 0 h0
        have hgb : (rows encI t.before).getD 0 [] = [.int .i64 (t.bef 0)] := by rw [rows_get _ _ 0 (by omega), t.bef_get 0 (by omega)]; rfl
        have hfl : (firstBlock t.base).list.length < 2 ^ 62 := by rw [firstBlock_list]; decide
        have hbl : ∀ i, i < t.blocks.length → (t.blk i).list.length < 2 ^ 62 := fun i hi => hx.list _ (by rw [← t.blk_get i hi]; exact List.getElem_mem hi)
        simp (config := { maxSteps := 4000000 }) only [go_sem, simprocAttr, ↓dnA, Tryz.f33, h1, h2, hd, rows_length, hp0, hg0, encB1, encBk]
        refine CallTo.det (c_impl_FirstBlock _ _ hx.base) fun _ => ?_
        simp (config := { maxSteps := 4000000 }) only [go_sem, simprocAttr, ↓dnA, Tryz.f33, h1, h2, hd, rows_length, hp0, hg0, encB1, encBk]
        refine CallTo.det (c_impl_same none none (t.blk 0) (firstBlock t.base) (hbl 0 h0) hfl) fun _ => ?_
        cases h4 : sameB (t.blk 0) (firstBlock t.base) with
        | false =>
          have hn : treeValid t = false := treeValid_false fun h => by have := (sameB_iff _ _).2 h.first; rw [h4] at this; cases this
          simp (config := { maxSteps := 4000000 }) only [go_sem, simprocAttr, ↓dnA, Tryz.f33, h1, h2, hd, h4, hn, rows_length, encBk]
        | true =>
          have h4' := (sameB_iff _ _).1 h4
          by_cases h5 : t.bef 0 = -1
          · have hd5 : (t.bef 0 != -1) = false := by simp [h5]
            have hpre : TreePre t := ⟨h1, by omega, h3, h4', h5⟩
            simp (config := { maxSteps := 4000000 }) only [go_sem, simprocAttr, ↓dnA, Tryz.f33, h1, h2, hd, h4, hd5, rows_length, hq0, hgb, encBk]
            refine semL_nilA 3 3 1 true (by rfl) (by rfl) (by decide) (by decide) ?_
            refine semL_for tab_ok (fun i : Nat => ⟨112, [(1, .loc 1 0), (3, .row 3 i), (47, .sl n2 (rows encB1 t.blocks)), (48, .int .i64 t.blocks.length), (49, .int .i64 i)], [(1, .var (encT n1 n2 n3 t)), (3, .row true false 1 (rows encI (sumsTo t i)))]⟩) (fun i => t.blocks.length - i)
              (fun i => i ≤ t.blocks.length ∧ TreeTo t i) 0 [(1, 1), (3, 3)] (Weak.of (by rfl) ?_ ?_ (by rfl)) ⟨by omega, ⟨fun k hk => by omega, fun j k _ hk => by omega, fun k _ hk => by omega⟩⟩ ?_
            · simp (config := { maxSteps := 4000000 }) only [go_sem, simprocAttr, ↓dnA, Tryz.f33, encT, frW, wk2, wk1, wkL, wkB, hpW, List.mem_cons, Prod.mk.injEq, exists_eq_left, exists_eq_right, exists_eq]
              rfl
            · simp (config := { maxSteps := 4000000 }) only [go_sem, simprocAttr, ↓dnA, Tryz.f33, frW, wk2, wk1, wkL, wkB, hpW, List.mem_cons, Prod.mk.injEq, exists_eq_left, exists_eq_right, exists_eq]
            · clear hd5 hd h4 h5
              rintro i ⟨hi, hto⟩
              by_cases h : i < t.blocks.length
              · have hgi : (rows encB1 t.blocks).getD i [] = encB1 (t.blk i) := rows_gd encB1 t.blocks i h
                have hsl : (rows encI (sumsTo t i)).length = i := by rw [rows_length, sumsTo_len]
                simp (config := { maxSteps := 4000000 }) only [go_sem, simprocAttr, ↓dnA, Tryz.f33, rows_length, nlt h, nn0, hgi, encB1, encBk]
                refine CallTo.det (c_impl_BlockSum none (t.blk i) (hbl i h)) fun _ => ?_
                cases hs : decide (blockSum (t.blk i) < 0) with
                | true =>
                  have hn : treeValid t = false := treeValid_false fun hk => by
                    have h1 := (blockSum_neg _).1 (of_decide_eq_true hs)
                    rw [hk.valid i h] at h1; cases h1
                  simp (config := { maxSteps := 4000000 }) only [go_sem, simprocAttr, ↓dnA, Tryz.f33, hs, hn]
                | false =>
                  have hva : blockValid (t.blk i) = true := by
                    have h1 := of_decide_eq_false hs
                    rw [blockSum_neg] at h1; simpa using h1
                  simp (config := { maxSteps := 4000000 }) only [go_sem, simprocAttr, ↓dnA, Tryz.f33, hs, hsl]
                  refine CallTo.det (c_slices_Contains_int _ _ _ (by rw [sumsTo_len]; omega)) fun _ => ?_
                  cases ha : (sumsTo t i).any fun x => blockSum (t.blk i) == x with
                  | true =>
                    have hn : treeValid t = false := treeValid_false fun hk => by
                      obtain ⟨k, hk1, hk2⟩ := (sumsTo_any t i _).1 ha
                      exact hk.dist k i hk1 h hk2
                    simp (config := { maxSteps := 4000000 }) only [go_sem, simprocAttr, ↓dnA, Tryz.f33, hs, hsl, ha, hn]
                  | false =>
                    have hdist : ∀ k, k < i → blockSum (t.blk k) ≠ blockSum (t.blk i) := fun k hk e => by
                      have := (sumsTo_any t i _).2 ⟨k, hk, e⟩
                      rw [ha] at this; cases this
                    have hw : IntKind.i64.wrap ((i : Int) + 1) = ((i + 1 : Nat) : Int) := wsucc h hx.blocks
                    have ht := take_rows encI (sumsTo t i) i (sumsTo_len t i).symm
                    have hnext : (0 < i → Link t i) → TreeTo t (i + 1) := fun hl => ⟨fun k hk => by
                        rcases Nat.lt_succ_iff_lt_or_eq.1 hk with h | rfl
                        · exact hto.valid k h
                        · exact hva, fun j k hjk hk => by
                        rcases Nat.lt_succ_iff_lt_or_eq.1 hk with h | rfl
                        · exact hto.dist j k hjk h
                        · exact hdist j hjk, fun k h0 hk => by
                        rcases Nat.lt_succ_iff_lt_or_eq.1 hk with h | rfl
                        · exact hto.link k h0 h
                        · exact hl h0⟩
                    rcases Nat.eq_zero_or_pos i with hz | hz
                    · have hz' : ((i : Int) == 0) = true := by simp [hz]
                      simp (config := { maxSteps := 4000000 }) only [go_sem, simprocAttr, ↓dnA, Tryz.f33, hs, hsl, ha, hz', hw, ht, rows_length, sumsTo_len]
                      repeat refine And.intro (by first | omega | (simp; done) | (simp; omega) | assumption) ?_
                      refine ⟨i + 1, [(1, 1), (66, 3)], ⟨by omega, hnext fun h => by omega⟩, by dsimp only; omega, Weak.of (by rfl) ?_ ?_ (by rfl)⟩
                      · simp (config := { maxSteps := 4000000 }) only [go_sem, simprocAttr, ↓dnA, Tryz.f33, encT, sumsTo_succ, frW, wk2, wk1, wkL, wkB, hpW, List.mem_cons, Prod.mk.injEq, exists_eq_left, exists_eq_right, exists_eq]
                        exact (rows_snoc encI _ _).symm
                      · simp (config := { maxSteps := 4000000 }) only [go_sem, simprocAttr, ↓dnA, Tryz.f33, frW, wk2, wk1, wkL, wkB, hpW, List.mem_cons, Prod.mk.injEq, exists_eq_left, exists_eq_right, exists_eq]
                    · have hz' : ((i : Int) == 0) = false := by simp; omega
                      have hib : i < t.before.length := by rw [h3]; exact h
                      have hgk : (rows encI t.before).getD i [] = [.int .i64 (t.bef i)] := by rw [rows_get _ _ i hib, t.bef_get i hib]; rfl
                      simp (config := { maxSteps := 4000000 }) only [go_sem, simprocAttr, ↓dnA, Tryz.f33, hs, hsl, ha, hz', hw, ht, rows_length, sumsTo_len, encT, nn0, nlt hib, hgk]
                      repeat refine And.intro (by first | omega | (simp; done) | (simp; omega) | assumption) ?_
                      refine ?_
                      refine semL_draw tab_ok mixed_ rfl (ord := [(0, []), (1, []), (2, []), (3, []), (4, []), (5, []), (6, []), (7, []), (8, []), (9, []), (10, []), (11, []), (12, []), (13, []), (14, []), (15, []), (16, []), (17, []), (18, []), (19, []), (20, []), (21, []), (22, []), (23, []), (24, []), (25, []), (26, []), (27, []), (28, []), (29, []), (30, []), (31, []), (32, []), (33, []), (34, []), (35, []), (36, [])]) (by dsimp only; decide +kernel) ?_
                      have hw1 : IntKind.i64.wrap ((i : Int) - 1) = (i : Int) - 1 := wrap_small _ (by omega) (by omega)
                      simp (config := { maxSteps := 4000000 }) only [go_sem, simprocAttr, ↓dnA, Tryz.f33, hw1]
                      refine CallTo.det (c_in _ _ _) fun _ => ?_
                      cases hin : inB (t.bef i) 0 ((i : Int) - 1) with
                      | false =>
                        have hn : treeValid t = false := treeValid_false fun hk => by
                          have := hk.link i hz h
                          have h1 := this.lo; have h2 := this.hi
                          rw [inB_iff.2 (by omega)] at hin; cases hin
                        simp (config := { maxSteps := 4000000 }) only [go_sem, simprocAttr, ↓dnA, Tryz.f33, hin, hn]
                      | true =>
                        have hin' := inB_iff.1 hin
                        obtain ⟨k, hk⟩ : ∃ k : Nat, t.bef i = (k : Int) := ⟨(t.bef i).toNat, by omega⟩
                        have hki : k < i := by omega
                        have hkn : k < t.blocks.length := by omega
                        have hgk2 : (rows encB1 t.blocks).getD k [] = encB1 (t.blk k) := rows_gd encB1 t.blocks k hkn
                        have hgs : (rows encI (sumsTo t i) ++ [[AV.int .i64 (blockSum (t.blk i))]]).getD k [] = [.int .i64 (blockSum (t.blk k))] := by
                          rw [show [AV.int .i64 (blockSum (t.blk i))] = encI (blockSum (t.blk i)) from rfl, rows_snoc, rows_get _ _ k (by simp [sumsTo_len]; omega), List.getElem_append_left (by rw [sumsTo_len]; exact hki), sumsTo_get t i k hki]; rfl
                        have hkt : (t.bef i).toNat = k := by omega
                        have hki1 : k < i + 1 := by omega
                        have hkl : (k < i + 1) = True := by simp [hki1]
                        have hsla : (rows encI (sumsTo t i) ++ [[AV.int .i64 (blockSum (t.blk i))]]).length = i + 1 := by simp [hsl]
                        have hbk := blk_bd (hto.valid k hki)
                        have hbi := blk_bd hva
                        have hw2 : IntKind.i64.wrap ((t.blk k).height + 1) = (t.blk k).height + 1 := wrap_small _ (by omega) (by omega)
                        cases e1 : ((t.blk i).before != blockSum (t.blk k)) with
                        | true =>
                          have hn : treeValid t = false := treeValid_false fun hl => by
                            have := (hl.link i hz h).sum
                            rw [hkt] at this; simp [this] at e1
                          simp (config := { maxSteps := 4000000 }) only [go_sem, simprocAttr, ↓dnA, Tryz.f33, hin, hk, encB1, encBk, hgs, hgk2, hw2, hsla, hkl, rows_length, nn0, nlt hkn, nlt hki1, hn, e1]
                        | false =>
                          cases e2 : ((t.blk i).height != (t.blk k).height + 1) with
                          | true =>
                            have hn : treeValid t = false := treeValid_false fun hl => by
                              have := (hl.link i hz h).height
                              rw [hkt] at this; simp [this] at e2
                            simp (config := { maxSteps := 4000000 }) only [go_sem, simprocAttr, ↓dnA, Tryz.f33, hin, hk, encB1, encBk, hgs, hgk2, hw2, hsla, hkl, rows_length, nn0, nlt hkn, nlt hki1, hn, e1, e2]
                          | false =>
                            cases e3 : decide ((t.blk i).view ≤ (t.blk k).view) with
                            | true =>
                              have hn : treeValid t = false := treeValid_false fun hl => by
                                have := (hl.link i hz h).view
                                rw [hkt] at this
                                have := of_decide_eq_true e3
                                omega
                              simp (config := { maxSteps := 4000000 }) only [go_sem, simprocAttr, ↓dnA, Tryz.f33, hin, hk, encB1, encBk, hgs, hgk2, hw2, hsla, hkl, rows_length, nn0, nlt hkn, nlt hki1, hn, e1, e2, e3]
                            | false =>
                              have e1' : (t.blk i).before = blockSum (t.blk k) := by simpa using e1
                              have e2' : (t.blk i).height = (t.blk k).height + 1 := by simpa using e2
                              have e3' := of_decide_eq_false e3
                              simp (config := { maxSteps := 4000000 }) only [go_sem, simprocAttr, ↓dnA, Tryz.f33, hin, hk, encB1, encBk, hgs, hgk2, hw2, hsla, hkl, rows_length, nn0, nlt hkn, nlt hki1, e1, e2, e3]
                              refine ⟨i + 1, [(1, 1), (66, 3)], ⟨by omega, hnext fun _ => ⟨by omega, by omega, by rw [hkt]; exact e1'.symm, by rw [hkt]; exact e2'.symm, by rw [hkt]; omega⟩⟩, by dsimp only; omega, Weak.of (by rfl) ?_ ?_ (by rfl)⟩
                              · simp (config := { maxSteps := 4000000 }) only [go_sem, simprocAttr, ↓dnA, Tryz.f33, encT, sumsTo_succ, frW, wk2, wk1, wkL, wkB, hpW, List.mem_cons, Prod.mk.injEq, exists_eq_left, exists_eq_right, exists_eq]
                                exact (rows_snoc encI _ _).symm
                              · simp (config := { maxSteps := 4000000 }) only [go_sem, simprocAttr, ↓dnA, Tryz.f33, hw, frW, wk2, wk1, wkL, wkB, hpW, List.mem_cons, Prod.mk.injEq, exists_eq_left, exists_eq_right, exists_eq]
              · have : i = t.blocks.length := by omega
                subst this
                have hn : treeValid t = true := treeValid_true (hpre.ok hto)
                simp (config := { maxSteps := 4000000 }) only [go_sem, simprocAttr, ↓dnA, Tryz.f33, rows_length, nlf h, hn]
          · have hd5 : (t.bef 0 != -1) = true := by simp [h5]
            have hn : treeValid t = false := treeValid_false fun h => h5 h.bef0
            simp (config := { maxSteps := 4000000 }) only [go_sem, simprocAttr, ↓dnA, Tryz.f33, h1, h2, hd, h4, hd5, hn, rows_length, hq0, hgb, encBk]
      · have hd : ((t.before.length : Int) != (t.blocks.length : Int)) = true := by simp; omega
        have hn : treeValid t = false := treeValid_false fun h => h3 h.bef
        simp (config := { maxSteps := 4000000 }) only [go_sem, simprocAttr, ↓dnA, Tryz.f33, h1, h2, hd, hn, rows_length]

end Go.Proofs.YthcfafpjkbbaoaaGreat

/- Contracts: valid trees of blocks, by the reference. -/
set_option linter.unusedSimpArgs false
set_option linter.unusedVariables false
set_option maxRecDepth 20000
set_option maxHeartbeats 4000000
namespace Go.Proofs.YthcfafpjkbbaoaaGreat
open Go Go.RowKit

theorem idxF_cases {α : Type} (p : α → Bool) : ∀ (l : List α) (s : Nat), (idxF p l s = -1 ∧ ∀ k (h : k < l.length), p l[k] = false) ∨ ∃ i, ∃ h : i < l.length, idxF p l s = ((s + i : Nat) : Int) ∧ p l[i] = true ∧ ∀ k (hk : k < i), p (l[k]'(by omega)) = false
  | [], s => .inl ⟨rfl, fun k h => absurd h (by simp)⟩
  | x :: r, s => by
    cases hx : p x with
    | true => exact .inr ⟨0, by simp, by simp [idxF, hx], hx, fun k hk => by omega⟩
    | false =>
      rcases idxF_cases p r (s + 1) with ⟨h1, h2⟩ | ⟨i, h, h1, h2, h3⟩
      · refine .inl ⟨by simp [idxF, hx, h1], fun k h => ?_⟩
        cases k with
        | zero => exact hx
        | succ k => exact h2 k (by simpa using h)
      · refine .inr ⟨i + 1, by simpa using h, ?_, h2, fun k hk => ?_⟩
        · simp only [idxF, hx, Bool.false_eq_true, if_false]; rw [h1]; congr 1; omega
        · cases k with
          | zero => exact hx
          | succ k => exact h3 k (by omega)

/-- The first block with a sum. -/
theorem findB_cases (t : Tree) (sum : Int) : (findB t.blocks sum = -1 ∧ ∀ k, k < t.blocks.length → blockSum (t.blk k) ≠ sum) ∨
    ∃ i, i < t.blocks.length ∧ findB t.blocks sum = (i : Int) ∧ blockSum (t.blk i) = sum ∧ ∀ k, k < i → blockSum (t.blk k) ≠ sum := by
  rcases idxF_cases (fun b => blockSum b == sum) t.blocks 0 with ⟨h1, h2⟩ | ⟨i, h, h1, h2, h3⟩
  · refine .inl ⟨h1, fun k hk e => ?_⟩
    have := h2 k hk
    rw [t.blk_get k hk, e] at this; simp at this
  · refine .inr ⟨i, h, by unfold findB; rw [h1, Nat.zero_add], ?_, fun k hk e => ?_⟩
    · rw [t.blk_get i h] at h2; simpa using h2
    · have := h3 k hk
      rw [t.blk_get k (by omega), e] at this; simp at this

theorem findB_self (t : Tree) (i : Nat) (h : i < t.blocks.length) : findB t.blocks (blockSum (t.blk i)) = (i : Int) ↔ ∀ k, k < i → blockSum (t.blk k) ≠ blockSum (t.blk i) := by
  constructor
  · intro e
    rcases findB_cases t (blockSum (t.blk i)) with ⟨h1, _⟩ | ⟨j, h1, h2, h3, h4⟩
    · omega
    · have : j = i := by omega
      subst this; exact h4
  · intro hk
    rcases findB_cases t (blockSum (t.blk i)) with ⟨_, h2⟩ | ⟨j, h1, h2, h3, h4⟩
    · exact absurd rfl (h2 i h)
    · rcases Nat.lt_trichotomy j i with hlt | rfl | hgt
      · exact absurd h3 (hk j hlt)
      · exact h2
      · exact absurd rfl (h4 i hgt)

theorem c_spec_BlockTreeValid (n1 n2 n3 : Option Bool) (t : Tree) (hx : TreeSz t) : Det Tryz.prog 24 [.agg (encT n1 n2 n3 t)] (.bool (treeValid t)) := by
  refine fspec_det tab_ok Tryz.call24 Tryz.func24 rfl 130 Tryz.ntmps24 (of_decide_eq_true rfl) fun B => codeK_sound tab_ok _ _ _ ?_
  unfold encT
  simp (config := { maxSteps := 4000000 }) only [go_sem, simprocAttr, ↓dnA, Tryz.f24]
  refine CallTo.det (c_spec_StoreValid _ _ hx.base) fun _ => ?_
  cases h1 : storeValid t.base with
  | false =>
    have hn : treeValid t = false := treeValid_false fun h => by have := h.store; rw [h1] at this; cases this
    simp (config := { maxSteps := 4000000 }) only [go_sem, simprocAttr, ↓dnA, Tryz.f24, h1, hn]
  | true =>
    simp (config := { maxSteps := 4000000 }) only [go_sem, simprocAttr, ↓dnA, Tryz.f24, h1, rows_length]
    refine CallTo.det (c_l1In _ _ _) fun _ => ?_
    cases h2 : inB (t.blocks.length) 1 14 with
    | false =>
      have hn : treeValid t = false := treeValid_false fun h => by have := h.len; rw [inB_iff.2 (by omega)] at h2; cases h2
      simp (config := { maxSteps := 4000000 }) only [go_sem, simprocAttr, ↓dnA, Tryz.f24, h1, h2, hn, rows_length]
    | true =>
      have h2' := inB_iff.1 h2
      have h0 : 0 < t.blocks.length := by omega
      by_cases h3 : t.before.length = t.blocks.length
      · have hd : ((t.before.length : Int) != (t.blocks.length : Int)) = false := by simp [h3]
        have hq0 : ((0 : Int) < (t.before.length : Int)) = True := by simp; omega
        have hp0 : ((0 : Int) < (t.blocks.length : Int)) = True := by simp; omega
        have hg0 : (rows encB1 t.blocks).getD 0 [] = encB1 (t.blk 0) := rows_gd encB1 t.blocks 0 h0
        have hgb : (rows encI t.before).getD 0 [] = [.int .i64 (t.bef 0)] := by rw [rows_get _ _ 0 (by omega), t.bef_get 0 (by omega)]; rfl
        have hfl : (firstBlock t.base).list.length < 2 ^ 62 := by rw [firstBlock_list]; decide
        have hbl : ∀ i, i < t.blocks.length → (t.blk i).list.length < 2 ^ 62 := fun i hi => hx.list _ (by rw [← t.blk_get i hi]; exact List.getElem_mem hi)
        by_cases h5 : t.bef 0 = -1
        · have hd5 : (t.bef 0 != -1) = false := by simp [h5]
          simp (config := { maxSteps := 4000000 }) only [go_sem, simprocAttr, ↓dnA, Tryz.f24, h1, h2, hd, hd5, rows_length, hq0, hgb]
          clear hd5 hd
          refine semL_for tab_ok (fun i : Nat => ⟨130, [(1, .loc 1 0), (3, .int .i64 i)], [(1, .var (encT n1 n2 n3 t))]⟩) (fun i => t.blocks.length - i)
            (fun i => i ≤ t.blocks.length ∧ (∀ k, k < i → blockValid (t.blk k) = true) ∧ ∀ j k, j < k → k < i → blockSum (t.blk j) ≠ blockSum (t.blk k)) 0 [(1, 1)] (Weak.of (by rfl) ?_ ?_ (by rfl)) ⟨by omega, fun k hk => by omega, fun j k _ hk => by omega⟩ ?_
          · simp (config := { maxSteps := 4000000 }) only [go_sem, simprocAttr, ↓dnA, Tryz.f24, encT, frW, wk2, wk1, wkL, wkB, hpW, List.mem_cons, Prod.mk.injEq, exists_eq_left, exists_eq_right, exists_eq]
          · simp (config := { maxSteps := 4000000 }) only [go_sem, simprocAttr, ↓dnA, Tryz.f24, frW, wk2, wk1, wkL, wkB, hpW, List.mem_cons, Prod.mk.injEq, exists_eq_left, exists_eq_right, exists_eq]
          · rintro i ⟨hi, hva, hdi⟩
            by_cases h : i < t.blocks.length
            · have hgi : (rows encB1 t.blocks).getD i [] = encB1 (t.blk i) := rows_gd encB1 t.blocks i h
              simp (config := { maxSteps := 4000000 }) only [go_sem, simprocAttr, ↓dnA, Tryz.f24, encT, rows_length, nlt h]
              refine semL_draw tab_ok mixed_ rfl (ord := [(0, []), (1, []), (2, []), (3, []), (4, []), (5, []), (6, []), (7, []), (8, []), (9, []), (10, []), (11, []), (12, []), (13, []), (16, []), (14, [8, 16]), (15, [16]), (17, []), (18, [])]) (by dsimp only; decide +kernel) ?_
              simp (config := { maxSteps := 4000000 }) only [go_sem, simprocAttr, ↓dnA, Tryz.f24, encT, rows_length, nlt h, nn0, hgi, encB1, encBk]
              refine CallTo.det (c_spec_BlockValid none (t.blk i) (hbl i h)) fun _ => ?_
              cases hv : blockValid (t.blk i) with
              | false =>
                have hn : treeValid t = false := treeValid_false fun hk => by have := hk.valid i h; rw [hv] at this; cases this
                simp (config := { maxSteps := 4000000 }) only [go_sem, simprocAttr, ↓dnA, Tryz.f24, hv, hn]
              | true =>
                simp (config := { maxSteps := 4000000 }) only [go_sem, simprocAttr, ↓dnA, Tryz.f24, encT, rows_length, nlt h, nn0, hgi, encB1, encBk, hv]
                refine CallTo.det (c_spec_BlockSum none (t.blk i) (hbl i h)) fun _ => ?_
                simp (config := { maxSteps := 4000000 }) only [go_sem, simprocAttr, ↓dnA, Tryz.f24, hv]
                refine CallTo.det (c_spec_find n1 n2 n3 t _ hx) fun _ => ?_
                cases hf : (findB t.blocks (blockSum (t.blk i)) != (i : Int)) with
                | true =>
                  have hn : treeValid t = false := treeValid_false fun hk => by
                    have := (findB_self t i h).2 fun k hki => hk.dist k i hki h
                    simp [this] at hf
                  simp (config := { maxSteps := 4000000 }) only [go_sem, simprocAttr, ↓dnA, Tryz.f24, hv, hf, hn]
                | false =>
                  have hf' := (findB_self t i h).1 (by simpa using hf)
                  simp (config := { maxSteps := 4000000 }) only [go_sem, simprocAttr, ↓dnA, Tryz.f24, hv, hf, wsucc h hx.blocks]
                  refine ⟨i + 1, [(1, 1)], ⟨by omega, fun k hk => ?_, fun j k hjk hk => ?_⟩, by dsimp only; omega, Weak.of (by rfl) ?_ ?_ (by rfl)⟩
                  · rcases Nat.lt_succ_iff_lt_or_eq.1 hk with hk | rfl
                    · exact hva k hk
                    · exact hv
                  · rcases Nat.lt_succ_iff_lt_or_eq.1 hk with hk | rfl
                    · exact hdi j k hjk hk
                    · exact hf' j hjk
                  · simp (config := { maxSteps := 4000000 }) only [go_sem, simprocAttr, ↓dnA, Tryz.f24, encT, frW, wk2, wk1, wkL, wkB, hpW, List.mem_cons, Prod.mk.injEq, exists_eq_left, exists_eq_right, exists_eq]
                  · simp (config := { maxSteps := 4000000 }) only [go_sem, simprocAttr, ↓dnA, Tryz.f24, frW, wk2, wk1, wkL, wkB, hpW, List.mem_cons, Prod.mk.injEq, exists_eq_left, exists_eq_right, exists_eq]
            · have : i = t.blocks.length := by omega
              subst this
              simp (config := { maxSteps := 4000000 }) only [go_sem, simprocAttr, ↓dnA, Tryz.f24, encT, rows_length, nlf h]
              refine semL_for tab_ok (fun i : Nat => ⟨130, [(1, .loc 1 0), (4, .int .i64 i)], [(1, .var (encT n1 n2 n3 t))]⟩) (fun i => t.blocks.length - i)
                (fun i => 0 < i ∧ i ≤ t.blocks.length ∧ ∀ k, 0 < k → k < i → Link t k) 1 [(1, 1)] (Weak.of (by rfl) ?_ ?_ (by rfl)) ⟨by omega, by omega, fun k _ hk => by omega⟩ ?_
              · simp (config := { maxSteps := 4000000 }) only [go_sem, simprocAttr, ↓dnA, Tryz.f24, encT, frW, wk2, wk1, wkL, wkB, hpW, List.mem_cons, Prod.mk.injEq, exists_eq_left, exists_eq_right, exists_eq]
              · simp (config := { maxSteps := 4000000 }) only [go_sem, simprocAttr, ↓dnA, Tryz.f24, show ((1 : Nat) : Int) = 1 from rfl, frW, wk2, wk1, wkL, wkB, hpW, List.mem_cons, Prod.mk.injEq, exists_eq_left, exists_eq_right, exists_eq]
              · rintro i ⟨hz, hi, hli⟩
                by_cases h : i < t.blocks.length
                · have hgi : (rows encB1 t.blocks).getD i [] = encB1 (t.blk i) := rows_gd encB1 t.blocks i h
                  have hib : i < t.before.length := by rw [h3]; exact h
                  have hgk : (rows encI t.before).getD i [] = [.int .i64 (t.bef i)] := by rw [rows_get _ _ i hib, t.bef_get i hib]; rfl
                  simp (config := { maxSteps := 4000000 }) only [go_sem, simprocAttr, ↓dnA, Tryz.f24, encT, rows_length, nlt h, nn0, nlt hib, hgk]
                  refine semL_draw tab_ok mixed_ rfl (ord := [(0, []), (1, []), (2, []), (3, []), (4, []), (5, []), (6, []), (7, []), (8, []), (9, []), (10, []), (12, []), (13, []), (14, []), (15, []), (16, []), (17, []), (11, [12, 13, 14, 15, 16, 17]), (18, []), (19, []), (20, []), (21, []), (22, []), (23, []), (24, []), (25, []), (26, []), (27, []), (28, []), (29, []), (30, []), (31, []), (32, []), (33, []), (34, []), (35, []), (36, []), (37, []), (38, []), (39, []), (40, []), (41, []), (42, []), (43, []), (44, []), (45, []), (46, []), (47, []), (48, []), (49, []), (50, [])]) (by dsimp only; decide +kernel) ?_
                  have hw1 : IntKind.i64.wrap ((i : Int) - 1) = (i : Int) - 1 := wrap_small _ (by omega) (by omega)
                  simp (config := { maxSteps := 4000000 }) only [go_sem, simprocAttr, ↓dnA, Tryz.f24, hw1]
                  refine CallTo.det (c_l1In _ _ _) fun _ => ?_
                  cases hin : inB (t.bef i) 0 ((i : Int) - 1) with
                  | false =>
                    have hn : treeValid t = false := treeValid_false fun hk => by
                      have := hk.link i hz h
                      have h1 := this.lo; have h2 := this.hi
                      rw [inB_iff.2 (by omega)] at hin; cases hin
                    simp (config := { maxSteps := 4000000 }) only [go_sem, simprocAttr, ↓dnA, Tryz.f24, hin, hn]
                  | true =>
                    have hin' := inB_iff.1 hin
                    obtain ⟨k, hk⟩ : ∃ k : Nat, t.bef i = (k : Int) := ⟨(t.bef i).toNat, by omega⟩
                    have hki : k < i := by omega
                    have hkn : k < t.blocks.length := by omega
                    have hgk2 : (rows encB1 t.blocks).getD k [] = encB1 (t.blk k) := rows_gd encB1 t.blocks k hkn
                    have hkt : (t.bef i).toNat = k := by omega
                    have hbk := blk_bd (hva k hkn)
                    have hbi := blk_bd (hva i h)
                    have hw2 : IntKind.i64.wrap ((t.blk i).height - 1) = (t.blk i).height - 1 := wrap_small _ (by omega) (by omega)
                    simp (config := { maxSteps := 4000000 }) only [go_sem, simprocAttr, ↓dnA, Tryz.f24, hin, hk, encT, encB1, encBk, hgk2, hgi, rows_length, nn0, nlt hkn, nlt h]
                    refine CallTo.det (c_spec_BlockSum none (t.blk k) (hbl k hkn)) fun _ => ?_
                    cases e1 : (blockSum (t.blk k) != (t.blk i).before) with
                    | true =>
                      have hn : treeValid t = false := treeValid_false fun hl => by
                        have := (hl.link i hz h).sum
                        rw [hkt] at this; simp [this] at e1
                      simp (config := { maxSteps := 4000000 }) only [go_sem, simprocAttr, ↓dnA, Tryz.f24, hin, hk, encT, encB1, encBk, hgk2, hgi, rows_length, nn0, nlt hkn, nlt h, hn, e1]
                    | false =>
                      cases e2 : ((t.blk k).height != (t.blk i).height - 1) with
                      | true =>
                        have hn : treeValid t = false := treeValid_false fun hl => by
                          have := (hl.link i hz h).height
                          rw [hkt] at this; simp at e2; omega
                        simp (config := { maxSteps := 4000000 }) only [go_sem, simprocAttr, ↓dnA, Tryz.f24, hin, hk, encT, encB1, encBk, hgk2, hgi, rows_length, nn0, nlt hkn, nlt h, hn, e1, e2, hw2]
                      | false =>
                        cases e3 : decide ((t.blk k).view ≥ (t.blk i).view) with
                        | true =>
                          have hn : treeValid t = false := treeValid_false fun hl => by
                            have := (hl.link i hz h).view
                            rw [hkt] at this
                            have := of_decide_eq_true e3
                            omega
                          simp (config := { maxSteps := 4000000 }) only [go_sem, simprocAttr, ↓dnA, Tryz.f24, hin, hk, encT, encB1, encBk, hgk2, hgi, rows_length, nn0, nlt hkn, nlt h, hn, e1, e2, e3, hw2]
                        | false =>
                          have e1' : blockSum (t.blk k) = (t.blk i).before := by simpa using e1
                          have e2' : (t.blk k).height = (t.blk i).height - 1 := by simpa using e2
                          have e3' := of_decide_eq_false e3
                          simp (config := { maxSteps := 4000000 }) only [go_sem, simprocAttr, ↓dnA, Tryz.f24, hin, hk, encT, encB1, encBk, hgk2, hgi, rows_length, nn0, nlt hkn, nlt h, e1, e2, e3, hw2, wsucc h hx.blocks]
                          refine ⟨i + 1, [(1, 1)], ⟨by omega, by omega, fun k' h0 hk' => ?_⟩, by dsimp only; omega, Weak.of (by rfl) ?_ ?_ (by rfl)⟩
                          · rcases Nat.lt_succ_iff_lt_or_eq.1 hk' with hk' | rfl
                            · exact hli k' h0 hk'
                            · exact ⟨by omega, by omega, by rw [hkt]; exact e1', by rw [hkt]; omega, by rw [hkt]; omega⟩
                          · simp (config := { maxSteps := 4000000 }) only [go_sem, simprocAttr, ↓dnA, Tryz.f24, encT, frW, wk2, wk1, wkL, wkB, hpW, List.mem_cons, Prod.mk.injEq, exists_eq_left, exists_eq_right, exists_eq]
                          · simp (config := { maxSteps := 4000000 }) only [go_sem, simprocAttr, ↓dnA, Tryz.f24, frW, wk2, wk1, wkL, wkB, hpW, List.mem_cons, Prod.mk.injEq, exists_eq_left, exists_eq_right, exists_eq]
                · have : i = t.blocks.length := by omega
                  subst this
                  simp (config := { maxSteps := 4000000 }) only [go_sem, simprocAttr, ↓dnA, Tryz.f24, encT, rows_length, nlf h]
                  refine semL_draw tab_ok mixed_ rfl (ord := [(0, []), (1, []), (2, []), (3, []), (4, []), (5, []), (6, [0, 1, 2, 3]), (7, []), (8, [])]) (by dsimp only; decide +kernel) ?_
                  simp (config := { maxSteps := 4000000 }) only [go_sem, simprocAttr, ↓dnA, Tryz.f24, encT, rows_length, hp0, hg0, encB1, encBk]
                  refine CallTo.det (c_spec_FirstBlock _ _ hx.base) fun _ => ?_
                  simp (config := { maxSteps := 4000000 }) only [go_sem, simprocAttr, ↓dnA, Tryz.f24, encT, rows_length, hp0, hg0, encB1, encBk]
                  refine CallTo.det (c_spec_same none none (t.blk 0) (firstBlock t.base) (hbl 0 h0) hfl) fun _ => ?_
                  have hr : sameB (t.blk 0) (firstBlock t.base) = treeValid t := by
                    cases h4 : sameB (t.blk 0) (firstBlock t.base) with
                    | true => exact (treeValid_true ⟨h1, by omega, h3, (sameB_iff _ _).1 h4, h5, hva, hdi, hli⟩).symm
                    | false => exact (treeValid_false fun h => by rw [(sameB_iff _ _).2 h.first] at h4; cases h4).symm
                  simp (config := { maxSteps := 4000000 }) only [go_sem, simprocAttr, ↓dnA, Tryz.f24, encT, rows_length, hp0, hg0, encB1, encBk, hr]
        · have hd5 : (t.bef 0 != -1) = true := by simp [h5]
          have hn : treeValid t = false := treeValid_false fun h => h5 h.bef0
          simp (config := { maxSteps := 4000000 }) only [go_sem, simprocAttr, ↓dnA, Tryz.f24, h1, h2, hd, hd5, hn, rows_length, hq0, hgb]
      · have hd : ((t.before.length : Int) != (t.blocks.length : Int)) = true := by simp; omega
        have hn : treeValid t = false := treeValid_false fun h => h3 h.bef
        simp (config := { maxSteps := 4000000 }) only [go_sem, simprocAttr, ↓dnA, Tryz.f24, h1, h2, hd, hn, rows_length]

end Go.Proofs.YthcfafpjkbbaoaaGreat

/- Contracts: votes. -/
set_option linter.unusedSimpArgs false
set_option linter.unusedVariables false
set_option maxRecDepth 20000
set_option maxHeartbeats 4000000
namespace Go.Proofs.YthcfafpjkbbaoaaGreat
open Go Go.RowKit

structure Voter where
  last : Int
  lock : Int
deriving DecidableEq, Inhabited

theorem c_impl_has (n1 n2 n3 : Option Bool) (t : Tree) (n : Int) (hx : TreeSz t) : Det Tryz.prog 87 [.agg (encT n1 n2 n3 t), .int .i64 n] (.bool (inB n 0 ((t.blocks.length : Int) - 1))) := by
  refine fspec_det tab_ok Tryz.call87 Tryz.func87 rfl 11 Tryz.ntmps87 (of_decide_eq_true rfl) fun B => codeK_sound tab_ok _ _ _ ?_
  unfold encT
  have hw : IntKind.i64.wrap ((t.blocks.length : Int) - 1) = (t.blocks.length : Int) - 1 := wrap_small _ (by omega) (by have := hx.blocks; omega)
  simp (config := { maxSteps := 4000000 }) only [go_sem, simprocAttr, ↓dnA, Tryz.f87, rows_length, hw]
  refine CallTo.det (c_in _ _ _) fun _ => ?_
  simp (config := { maxSteps := 4000000 }) only [go_sem, simprocAttr, ↓dnA, Tryz.f87]

end Go.Proofs.YthcfafpjkbbaoaaGreat

/- Contracts: the laws' copies. -/
set_option linter.unusedSimpArgs false
set_option linter.unusedVariables false
set_option maxRecDepth 20000
set_option maxHeartbeats 4000000
namespace Go.Proofs.YthcfafpjkbbaoaaGreat
open Go Go.RowKit

def encBkO (b : Block) : List AV := [.int .i64 b.before, .int .i64 b.height, .int .i64 b.view, .osl true 4 (rows encA b.list), .int .i64 b.root, .int .i64 b.effects]

/-- How much the actions of blocks are. -/
def lsum : List Block → Nat
  | [] => 0
  | b :: r => b.list.length + lsum r

theorem lsum_mem : ∀ (bs : List Block) (b : Block), b ∈ bs → b.list.length ≤ lsum bs
  | [], b, h => by cases h
  | c :: r, b, h => by
    unfold lsum
    rcases List.mem_cons.1 h with rfl | h
    · omega
    · have := lsum_mem r b h; omega

/-- How much a tree is. -/
def tsz (t : Tree) : Nat := t.base.length + (t.blocks.length + lsum t.blocks) + t.before.length

/-- Sizes of a law's tree. -/
structure TreeS32 (t : Tree) : Prop where
  sum : tsz t ≤ 1048576
theorem TreeS32.base {t : Tree} (h : TreeS32 t) : t.base.length < 2 ^ 32 := by have := h.sum; unfold tsz at this; omega
theorem TreeS32.blocks {t : Tree} (h : TreeS32 t) : t.blocks.length < 2 ^ 32 := by have := h.sum; unfold tsz at this; omega
theorem TreeS32.before {t : Tree} (h : TreeS32 t) : t.before.length < 2 ^ 32 := by have := h.sum; unfold tsz at this; omega
theorem TreeS32.list {t : Tree} (h : TreeS32 t) : ∀ b, b ∈ t.blocks → b.list.length < 2 ^ 32 := fun b hb => by have := h.sum; have := lsum_mem t.blocks b hb; unfold tsz at *; omega
theorem TreeS32.sz {t : Tree} (h : TreeS32 t) : TreeSz t := ⟨by have := h.base; omega, by have := h.blocks; omega, by have := h.before; omega, fun b hb => by have := h.list b hb; omega⟩

end Go.Proofs.YthcfafpjkbbaoaaGreat

/- Contracts: the laws' sizes and tests. -/
set_option linter.unusedSimpArgs false
set_option linter.unusedVariables false
set_option maxRecDepth 20000
set_option maxHeartbeats 4000000
namespace Go.Proofs.YthcfafpjkbbaoaaGreat
open Go Go.RowKit

end Go.Proofs.YthcfafpjkbbaoaaGreat

/- Contracts: the laws' tests. -/
set_option linter.unusedSimpArgs false
set_option linter.unusedVariables false
set_option maxRecDepth 20000
set_option maxHeartbeats 4000000
namespace Go.Proofs.YthcfafpjkbbaoaaGreat
open Go Go.RowKit

end Go.Proofs.YthcfafpjkbbaoaaGreat

/- Contracts: certificates. -/
set_option linter.unusedSimpArgs false
set_option linter.unusedVariables false
set_option maxRecDepth 20000
set_option maxHeartbeats 4000000
namespace Go.Proofs.YthcfafpjkbbaoaaGreat
open Go Go.RowKit

structure Cert where
  sum : Int
  view : Int
  signers : Int
deriving DecidableEq, Inhabited

def encC (c : Cert) : List AV := [.int .i64 c.sum, .int .i64 c.view, .int .i64 c.signers]

/-- The members in a mask: the first i of them. -/
def manyTo (n : Int) : Nat → Int
  | 0 => 0
  | i + 1 => manyTo n i + (n / 2 ^ i) % 2
def many (n : Int) : Int := manyTo n 4

theorem many_stepF : ∀ (a : Fin 16) (i : Fin 4), IntKind.i64.wrap (manyTo (a.val : Int) i.val + (((a.val : Int)).fdiv (2 ^ min i.val 64)).tmod 2) = manyTo (a.val : Int) (i.val + 1) := by decide +kernel
theorem many_step {n : Int} (h : 0 ≤ n ∧ n ≤ 15) {i : Nat} (hi : i < 4) : IntKind.i64.wrap (manyTo n i + (n.fdiv (2 ^ min i 64)).tmod 2) = manyTo n (i + 1) := by
  obtain ⟨a, rfl⟩ : ∃ a : Nat, n = (a : Int) := ⟨n.toNat, by omega⟩
  exact many_stepF ⟨a, by omega⟩ ⟨i, hi⟩

def certValid (c : Cert) : Bool := inB c.sum 0 1000002 && inB c.view 0 1000 && inB c.signers 0 15
def certCounts (c : Cert) : Bool := certValid c && decide (many c.signers ≥ 3)

theorem c_spec_l15Many (n : Int) (h : 0 ≤ n ∧ n ≤ 15) : Det Tryz.prog 156 [.int .i64 n] (.int .i64 (many n)) := by
  refine fspec_det tab_ok Tryz.call156 Tryz.func156 rfl 16 Tryz.ntmps156 (of_decide_eq_true rfl) fun B => codeK_sound tab_ok _ _ _ ?_
  simp (config := { maxSteps := 4000000 }) only [go_sem, simprocAttr, ↓dnA, Tryz.f156]
  refine semL_for tab_ok (fun i : Nat => ⟨16, [(0, .int .i64 n), (3, .int .i64 (manyTo n i)), (4, .int .i64 i)], []⟩) (fun i => 4 - i) (fun i => i ≤ 4) 0 [] (Weak.of rfl trivial ?_ rfl) (by omega) ?_
  · simp (config := { maxSteps := 4000000 }) only [go_sem, simprocAttr, ↓dnA, Tryz.f156, manyTo, frW, wk2, wk1, wkL, wkB, hpW, List.mem_cons, Prod.mk.injEq, exists_eq_left, exists_eq_right, exists_eq]
  · rintro i hi
    by_cases h4 : i < 4
    · have hlt : ((i : Int) < 4) = True := by simp; omega
      simp (config := { maxSteps := 4000000 }) only [go_sem, simprocAttr, ↓dnA, Tryz.f156, hlt, nn0, many_step h h4]
      refine ⟨i + 1, [], by omega, by dsimp only; omega, Weak.of rfl trivial ?_ rfl⟩
      simp (config := { maxSteps := 4000000 }) only [go_sem, simprocAttr, ↓dnA, Tryz.f156, wsucc h4 (show 4 < 2 ^ 62 by decide), frW, wk2, wk1, wkL, wkB, hpW, List.mem_cons, Prod.mk.injEq, exists_eq_left, exists_eq_right, exists_eq]
    · have : i = 4 := by omega
      subst this
      simp (config := { maxSteps := 4000000 }) only [go_sem, simprocAttr, ↓dnA, Tryz.f156]
      rfl

theorem c_impl_isSigners (x : Int) : Det Tryz.prog 81 [.int .i64 x] (.bool (inB x 0 15)) := by
  refine fspec_det tab_ok Tryz.call81 Tryz.func81 rfl 5 Tryz.ntmps81 (of_decide_eq_true rfl) fun B => codeK_sound tab_ok _ _ _ ?_
  simp (config := { maxSteps := 4000000 }) only [go_sem, simprocAttr, ↓dnA, Tryz.f81]
  refine CallTo.det (c_in _ _ _) fun _ => ?_
  simp (config := { maxSteps := 4000000 }) only [go_sem, simprocAttr, ↓dnA, Tryz.f81]

theorem c_OnesCount64 (n : Int) (h : 0 ≤ n ∧ n ≤ 15) : Det Tryz.prog 195 [.int .u64 n] (.int .i64 (many n)) := by
  refine fspec_det tab_ok Tryz.call195 Tryz.func195 rfl 35 Tryz.ntmps195 (of_decide_eq_true rfl) fun B => codeK_sound tab_ok _ _ _ ?_
  simp (config := { maxSteps := 4000000 }) only [go_sem, simprocAttr, ↓dnA, Tryz.f195]
  obtain ⟨a, rfl⟩ : ∃ a : Fin 16, n = (a.val : Int) := ⟨⟨n.toNat, by omega⟩, by simp; omega⟩
  clear h
  revert a
  decide +kernel

theorem c_OnesCount (n : Int) (h : 0 ≤ n ∧ n ≤ 15) : Det Tryz.prog 183 [.int .u64 n] (.int .i64 (many n)) := by
  refine fspec_det tab_ok Tryz.call183 Tryz.func183 rfl 8 Tryz.ntmps183 (of_decide_eq_true rfl) fun B => codeK_sound tab_ok _ _ _ ?_
  simp (config := { maxSteps := 4000000 }) only [go_sem, simprocAttr, ↓dnA, Tryz.f183]
  refine CallTo.det (c_OnesCount64 n h) fun _ => ?_
  simp (config := { maxSteps := 4000000 }) only [go_sem, simprocAttr, ↓dnA, Tryz.f183]

theorem c_impl_enough (n : Int) (h : 0 ≤ n ∧ n ≤ 15) : Det Tryz.prog 153 [.int .i64 n] (.bool (decide (many n ≥ 3))) := by
  refine fspec_det tab_ok Tryz.call153 Tryz.func153 rfl 7 Tryz.ntmps153 (of_decide_eq_true rfl) fun B => codeK_sound tab_ok _ _ _ ?_
  have hw : IntKind.u64.wrap n = n := by
    obtain ⟨a, rfl⟩ : ∃ a : Fin 16, n = (a.val : Int) := ⟨⟨n.toNat, by omega⟩, by simp; omega⟩
    clear h
    revert a
    decide +kernel
  simp (config := { maxSteps := 4000000 }) only [go_sem, simprocAttr, ↓dnA, Tryz.f153, hw]
  refine CallTo.det (c_OnesCount n h) fun _ => ?_
  simp (config := { maxSteps := 4000000 }) only [go_sem, simprocAttr, ↓dnA, Tryz.f153]

theorem c_impl_CertValid (c : Cert) : Det Tryz.prog 166 [.agg (encC c)] (.bool (certValid c)) := by
  refine fspec_det tab_ok Tryz.call166 Tryz.func166 rfl 16 Tryz.ntmps166 (of_decide_eq_true rfl) fun B => codeK_sound tab_ok _ _ _ ?_
  unfold certValid
  simp (config := { maxSteps := 4000000 }) only [go_sem, simprocAttr, ↓dnA, Tryz.f166, encC]
  refine CallTo.det (c_impl_isSum _) fun _ => ?_
  cases h1 : inB c.sum 0 1000002 with
  | false => simp (config := { maxSteps := 4000000 }) only [go_sem, simprocAttr, ↓dnA, Tryz.f166, h1]
  | true =>
    simp (config := { maxSteps := 4000000 }) only [go_sem, simprocAttr, ↓dnA, Tryz.f166, h1]
    refine CallTo.det (c_isView _) fun _ => ?_
    cases h2 : inB c.view 0 1000 with
    | false => simp (config := { maxSteps := 4000000 }) only [go_sem, simprocAttr, ↓dnA, Tryz.f166, h1, h2]
    | true =>
      simp (config := { maxSteps := 4000000 }) only [go_sem, simprocAttr, ↓dnA, Tryz.f166, h1, h2]
      refine CallTo.det (c_impl_isSigners _) fun _ => ?_
      simp (config := { maxSteps := 4000000 }) only [go_sem, simprocAttr, ↓dnA, Tryz.f166, h1, h2]

theorem c_spec_CertValid (c : Cert) : Det Tryz.prog 185 [.agg (encC c)] (.bool (certValid c)) := by
  refine fspec_det tab_ok Tryz.call185 Tryz.func185 rfl 16 Tryz.ntmps185 (of_decide_eq_true rfl) fun B => codeK_sound tab_ok _ _ _ ?_
  unfold certValid
  simp (config := { maxSteps := 4000000 }) only [go_sem, simprocAttr, ↓dnA, Tryz.f185, encC]
  refine CallTo.det (c_l1In _ _ _) fun _ => ?_
  cases h1 : inB c.sum 0 1000002 with
  | false => simp (config := { maxSteps := 4000000 }) only [go_sem, simprocAttr, ↓dnA, Tryz.f185, h1]
  | true =>
    simp (config := { maxSteps := 4000000 }) only [go_sem, simprocAttr, ↓dnA, Tryz.f185, h1]
    refine CallTo.det (c_l1In _ _ _) fun _ => ?_
    cases h2 : inB c.view 0 1000 with
    | false => simp (config := { maxSteps := 4000000 }) only [go_sem, simprocAttr, ↓dnA, Tryz.f185, h1, h2]
    | true =>
      simp (config := { maxSteps := 4000000 }) only [go_sem, simprocAttr, ↓dnA, Tryz.f185, h1, h2]
      refine CallTo.det (c_l1In _ _ _) fun _ => ?_
      simp (config := { maxSteps := 4000000 }) only [go_sem, simprocAttr, ↓dnA, Tryz.f185, h1, h2]

theorem certValid_sg {c : Cert} (h : certValid c = true) : 0 ≤ c.signers ∧ c.signers ≤ 15 := by
  unfold certValid at h
  rw [Bool.and_eq_true] at h
  exact inB_iff.1 h.2

theorem c_impl_CertCounts (c : Cert) : Det Tryz.prog 126 [.agg (encC c)] (.bool (certCounts c)) := by
  refine fspec_det tab_ok Tryz.call126 Tryz.func126 rfl 10 Tryz.ntmps126 (of_decide_eq_true rfl) fun B => codeK_sound tab_ok _ _ _ ?_
  unfold certCounts
  simp (config := { maxSteps := 4000000 }) only [go_sem, simprocAttr, ↓dnA, Tryz.f126, encC]
  refine CallTo.det (c_impl_CertValid c) fun _ => ?_
  cases h1 : certValid c with
  | false => simp (config := { maxSteps := 4000000 }) only [go_sem, simprocAttr, ↓dnA, Tryz.f126, h1]
  | true =>
    simp (config := { maxSteps := 4000000 }) only [go_sem, simprocAttr, ↓dnA, Tryz.f126, h1]
    refine CallTo.det (c_impl_enough _ (certValid_sg h1)) fun _ => ?_
    simp (config := { maxSteps := 4000000 }) only [go_sem, simprocAttr, ↓dnA, Tryz.f126, h1]

theorem c_spec_CertCounts (c : Cert) : Det Tryz.prog 165 [.agg (encC c)] (.bool (certCounts c)) := by
  refine fspec_det tab_ok Tryz.call165 Tryz.func165 rfl 11 Tryz.ntmps165 (of_decide_eq_true rfl) fun B => codeK_sound tab_ok _ _ _ ?_
  unfold certCounts
  simp (config := { maxSteps := 4000000 }) only [go_sem, simprocAttr, ↓dnA, Tryz.f165, encC]
  refine CallTo.det (c_spec_CertValid c) fun _ => ?_
  cases h1 : certValid c with
  | false => simp (config := { maxSteps := 4000000 }) only [go_sem, simprocAttr, ↓dnA, Tryz.f165, h1]
  | true =>
    simp (config := { maxSteps := 4000000 }) only [go_sem, simprocAttr, ↓dnA, Tryz.f165, h1]
    refine CallTo.det (c_spec_l15Many _ (certValid_sg h1)) fun _ => ?_
    simp (config := { maxSteps := 4000000 }) only [go_sem, simprocAttr, ↓dnA, Tryz.f165, h1]

/-- The block for which a certificate counts. -/
def certBlock (t : Tree) (c : Cert) : Int :=
  if certCounts c then (if findB t.blocks c.sum < 0 then -1 else if (t.blk (findB t.blocks c.sum).toNat).view = c.view then findB t.blocks c.sum else -1) else -1

theorem c_impl_certBlock (n1 n2 n3 : Option Bool) (t : Tree) (c : Cert) (hx : TreeSz t) : Det Tryz.prog 63 [.agg (encT n1 n2 n3 t), .agg (encC c)] (.int .i64 (certBlock t c)) := by
  refine fspec_det tab_ok Tryz.call63 Tryz.func63 rfl 27 Tryz.ntmps63 (of_decide_eq_true rfl) fun B => codeK_sound tab_ok _ _ _ ?_
  unfold certBlock encT
  simp (config := { maxSteps := 4000000 }) only [go_sem, simprocAttr, ↓dnA, Tryz.f63, encC]
  refine CallTo.det (c_impl_CertCounts c) fun _ => ?_
  cases h1 : certCounts c with
  | false => simp (config := { maxSteps := 4000000 }) only [go_sem, simprocAttr, ↓dnA, Tryz.f63, h1]
  | true =>
    simp (config := { maxSteps := 4000000 }) only [go_sem, simprocAttr, ↓dnA, Tryz.f63, h1]
    refine CallTo.det (c_impl_find n1 n2 n3 t c.sum hx) fun _ => ?_
    simp (config := { maxSteps := 4000000 }) only [go_sem, simprocAttr, ↓dnA, Tryz.f63, h1]
    refine semL_draw tab_ok mixed_ rfl (ord := [(0, []), (1, []), (2, []), (3, []), (4, []), (5, []), (6, []), (7, []), (8, []), (9, []), (10, []), (11, []), (12, [])]) (by dsimp only; decide +kernel) ?_
    rcases findB_cases t c.sum with ⟨hf, _⟩ | ⟨i, hi, hf, _⟩
    · simp (config := { maxSteps := 4000000 }) only [go_sem, simprocAttr, ↓dnA, Tryz.f63, h1, hf]
    · have hd : decide ((i : Int) ≥ 0) = true := by simp
      have hn : ((i : Int) < 0) = False := by simp
      by_cases h2 : (t.blk i).view = c.view
      · have h2' : ((t.blk i).view != c.view) = false := by simp [h2]
        simp (config := { maxSteps := 4000000 }) only [go_sem, simprocAttr, ↓dnA, Tryz.f63, h1, hf, hd, nn0, nlt hi, rows_length, rows_gd _ _ i hi, Tree.blk, encB1, encBk, hn, h2, h2']
        all_goals (try unfold Tree.blk at h2 h2'); (try simp (config := { maxSteps := 4000000 }) only [go_sem, simprocAttr, ↓dnA, Tryz.f63, h1, hf, hd, nn0, nlt hi, rows_length, rows_gd _ _ i hi, encB1, encBk, hn, h2, h2'])
      · have h2' : ((t.blk i).view != c.view) = true := by simp [h2]
        simp (config := { maxSteps := 4000000 }) only [go_sem, simprocAttr, ↓dnA, Tryz.f63, h1, hf, hd, nn0, nlt hi, rows_length, rows_gd _ _ i hi, Tree.blk, encB1, encBk, hn, h2, h2']
        all_goals (try unfold Tree.blk at h2 h2'); (try simp (config := { maxSteps := 4000000 }) only [go_sem, simprocAttr, ↓dnA, Tryz.f63, h1, hf, hd, nn0, nlt hi, rows_length, rows_gd _ _ i hi, encB1, encBk, hn, h2, h2'])

end Go.Proofs.YthcfafpjkbbaoaaGreat

/- Contracts: the laws' marks. -/
set_option linter.unusedSimpArgs false
set_option linter.unusedVariables false
set_option maxRecDepth 20000
set_option maxHeartbeats 4000000
namespace Go.Proofs.YthcfafpjkbbaoaaGreat
open Go Go.RowKit

section
variable {α : Type} (e : α → List AV) (mk : α → Int → α) (st : α → Nat)

end

end Go.Proofs.YthcfafpjkbbaoaaGreat

/- Contracts: reversed lists, the way to a block. -/
set_option linter.unusedSimpArgs false
set_option linter.unusedVariables false
set_option maxRecDepth 20000
set_option maxHeartbeats 4000000
namespace Go.Proofs.YthcfafpjkbbaoaaGreat
open Go Go.RowKit

theorem semL_ghost {P : Program} {B : Base} {c : Code} {s t : AState} {Kx : Exit → AState → Prop} (hg : Ghost s t) (h : @SemL P B c t ⟨Kx⟩) : @SemL P B c s ⟨Kx⟩ := by
  intro X a w hB hR
  obtain ⟨X', e, hR'⟩ := hg X a w hR
  exact h X' a w (e.trans hB) hR'

/-- The first i elements are exchanged with the last i. -/
def revTo {α : Type} (xs : List α) (i : Nat) : List α := (xs.drop (xs.length - i)).reverse ++ ((xs.take (xs.length - i)).drop i) ++ (xs.take i).reverse

theorem revTo_zero {α : Type} (xs : List α) : revTo xs 0 = xs := by simp [revTo]
theorem revTo_length {α : Type} (xs : List α) (i : Nat) (h : 2 * i ≤ xs.length) : (revTo xs i).length = xs.length := by
  simp only [revTo, List.length_append, List.length_reverse, List.length_drop, List.length_take]; omega
theorem revTo_getElem {α : Type} (xs : List α) (i k : Nat) (h : 2 * i ≤ xs.length) (hk : k < xs.length) :
    (revTo xs i)[k]? = if k < i ∨ xs.length - i ≤ k then xs[xs.length - 1 - k]? else xs[k]? := by
  unfold revTo
  have l1 : ((xs.drop (xs.length - i)).reverse).length = i := by rw [List.length_reverse, List.length_drop]; omega
  have l2 : ((xs.take (xs.length - i)).drop i).length = xs.length - i - i := by rw [List.length_drop, List.length_take]; omega
  by_cases h1 : k < i
  · rw [if_pos (.inl h1), List.append_assoc, List.getElem?_append_left (by omega), List.getElem?_reverse (by rw [List.length_drop]; omega), List.length_drop, List.getElem?_drop]
    congr 1; omega
  · by_cases h2 : xs.length - i ≤ k
    · rw [if_pos (.inr h2), List.getElem?_append_right (by rw [List.length_append]; omega), List.length_append, l1, l2, List.getElem?_reverse (by rw [List.length_take]; omega), List.length_take, List.getElem?_take, if_pos (by omega)]
      congr 1; omega
    · rw [if_neg (by omega), List.append_assoc, List.getElem?_append_right (by omega), List.getElem?_append_left (by omega), List.getElem?_drop, List.getElem?_take, l1, if_pos (by omega)]
      congr 1; omega
theorem revTo_step {α : Type} (xs : List α) (i : Nat) (h : i < xs.length - 1 - i) :
    ((revTo xs i).set i (xs[xs.length - 1 - i]'(by omega))).set (xs.length - 1 - i) (xs[i]'(by omega)) = revTo xs (i + 1) := by
  apply List.ext_getElem?
  intro k
  have hl := revTo_length xs i (by omega)
  have hl' := revTo_length xs (i + 1) (by omega)
  by_cases hk : k < xs.length
  · rw [List.getElem?_set, List.getElem?_set, revTo_getElem xs i k (by omega) hk, revTo_getElem xs (i + 1) k (by omega) hk]
    simp only [List.length_set, hl]
    by_cases h1 : xs.length - 1 - i = k
    · subst h1
      rw [if_pos rfl, if_pos (by omega), if_pos (.inr (by omega)), show xs.length - 1 - (xs.length - 1 - i) = i by omega, List.getElem?_eq_getElem (by omega)]
    · rw [if_neg h1]
      by_cases h2 : i = k
      · subst h2
        rw [if_pos rfl, if_pos (by omega), if_pos (.inl (by omega)), List.getElem?_eq_getElem (by omega)]
      · rw [if_neg h2]
        by_cases h3 : k < i ∨ xs.length - i ≤ k
        · rw [if_pos h3, if_pos (by omega)]
        · rw [if_neg h3, if_neg (by omega)]
  · rw [List.getElem?_eq_none (by simp; omega), List.getElem?_eq_none (by omega)]
theorem revTo_full {α : Type} (xs : List α) (i : Nat) (h : ¬ i < xs.length - 1 - i) (h2 : 2 * i ≤ xs.length) : revTo xs i = xs.reverse := by
  apply List.ext_getElem?
  intro k
  by_cases hk : k < xs.length
  · rw [revTo_getElem xs i k h2 hk, List.getElem?_reverse hk]
    split
    · rfl
    · rw [show xs.length - 1 - k = k by omega]
  · rw [List.getElem?_eq_none (by rw [revTo_length xs i h2]; omega), List.getElem?_eq_none (by simp; omega)]

theorem c_slices_Reverse_int (nn : Bool) (xs : List Int) (hx : xs.length < 2 ^ 62) :
    FSpecM Tryz.prog 157 [.row 800 xs.length] [.osl nn 1 (rows encI xs)] (fun r ls' => r = .tup [] ∧ ls' = [.osl nn 1 (rows encI xs.reverse)]) := by
  refine fspec_introM tab_ok Tryz.call157 Tryz.func157 rfl 28 Tryz.ntmps157 (of_decide_eq_true rfl) (of_decide_eq_true rfl) fun B => codeK_sound tab_ok _ _ _ ?_
  have hw0 : IntKind.i64.wrap ((xs.length : Int) - 1) = (xs.length : Int) - 1 := wrap_small _ (by omega) (by omega)
  simp (config := { maxSteps := 4000000 }) only [go_sem, simprocAttr, ↓dnA, Tryz.f157, rows_length, hw0]
  refine semL_for tab_ok (fun i : Nat => ⟨28, [(0, .row 800 xs.length), (2, .int .i64 i), (3, .int .i64 ((xs.length : Int) - 1 - i))], [(800, .row true nn 1 (rows encI (revTo xs i)))]⟩) (fun i => xs.length - i)
    (fun i => 2 * i ≤ xs.length) 0 [(800, 800)] (Weak.of (by rfl) ?_ ?_ (by rfl)) (by omega) ?_
  · simp (config := { maxSteps := 4000000 }) only [go_sem, simprocAttr, ↓dnA, Tryz.f157, revTo_zero, frW, wk2, wk1, wkL, wkB, hpW, List.mem_cons, Prod.mk.injEq, exists_eq_left, exists_eq_right, exists_eq]
  · simp (config := { maxSteps := 4000000 }) only [go_sem, simprocAttr, ↓dnA, Tryz.f157, nc0, Int.sub_zero, frW, wk2, wk1, wkL, wkB, hpW, List.mem_cons, Prod.mk.injEq, exists_eq_left, exists_eq_right, exists_eq]
  · rintro i hi
    have hl := revTo_length xs i hi
    by_cases h : (i : Int) < (xs.length : Int) - 1 - i
    · have hi1 : i < xs.length := by omega
      obtain ⟨j, hj⟩ : ∃ j : Nat, (xs.length : Int) - 1 - i = (j : Int) := ⟨((xs.length : Int) - 1 - i).toNat, by omega⟩
      have hj1 : j < xs.length := by omega
      have hje : j = xs.length - 1 - i := by omega
      have hij : ((i : Int) < (j : Int)) = True := by simp; omega
      have gi : (rows encI (revTo xs i)).getD i [] = encI xs[i] := by
        have := revTo_getElem xs i i hi hi1
        rw [if_neg (by omega), List.getElem?_eq_getElem hi1, List.getElem?_eq_getElem (by omega)] at this
        rw [rows_get _ _ _ (by omega), Option.some.inj this]
      have gj : (rows encI (revTo xs i)).getD j [] = encI xs[j] := by
        have := revTo_getElem xs i j hi hj1
        rw [if_neg (by omega), List.getElem?_eq_getElem hj1, List.getElem?_eq_getElem (by omega)] at this
        rw [rows_get _ _ _ (by omega), Option.some.inj this]
      have hs : ((rows encI (revTo xs i)).set i [.int .i64 xs[j]]).set j [.int .i64 xs[i]] = rows encI (revTo xs (i + 1)) := by
        have h3 := revTo_step xs i (by omega)
        subst hje
        rw [← h3, ← rows_set, ← rows_set]
        rfl
      have hj2 : ((rows encI (revTo xs i)).set i [.int .i64 xs[j]]).getD j [] = encI xs[j] := by
        rw [set_getD _ _ _ _ _ (by rw [rows_length, hl]; exact hi1), if_neg (by omega)]; exact gj
      have hw1 : IntKind.i64.wrap ((j : Int) - 1) = (xs.length : Int) - 1 - ((i + 1 : Nat) : Int) := by rw [wrap_small _ (by omega) (by omega)]; omega
      simp (config := { maxSteps := 4000000 }) only [go_sem, simprocAttr, ↓dnA, Tryz.f157, hj, hij, rows_length, hl]
      refine semL_draw tab_ok mixed_ rfl (ord := [(0, []), (1, []), (2, []), (3, []), (4, []), (5, []), (6, []), (7, []), (8, []), (9, []), (10, []), (11, []), (12, []), (13, [2, 3]), (14, []), (15, [])]) (by dsimp only; decide +kernel) ?_
      simp (config := { maxSteps := 4000000 }) only [go_sem, simprocAttr, ↓dnA, Tryz.f157, hj, rows_length, hl, List.length_set, nlt hi1, nlt hj1, hi1, hj1, nn0, gi, gj, encI, spliceL, hj2, hw1, wsucc hi1 hx]
      refine ⟨i + 1, [(800, 800)], by omega, by dsimp only; omega, Weak.of (by rfl) ?_ ?_ (by rfl)⟩
      · simp (config := { maxSteps := 4000000 }) only [go_sem, simprocAttr, ↓dnA, Tryz.f157, frW, wk2, wk1, wkL, wkB, hpW, List.mem_cons, Prod.mk.injEq, exists_eq_left, exists_eq_right, exists_eq]
        exact hs.symm
      · simp (config := { maxSteps := 4000000 }) only [go_sem, simprocAttr, ↓dnA, Tryz.f157, frW, wk2, wk1, wkL, wkB, hpW, List.mem_cons, Prod.mk.injEq, exists_eq_left, exists_eq_right, exists_eq]
    · simp (config := { maxSteps := 4000000 }) only [go_sem, simprocAttr, ↓dnA, Tryz.f157, eq_false h, rows_length, hl, revTo_full xs i (by omega) hi, List.length_reverse]

end Go.Proofs.YthcfafpjkbbaoaaGreat

