/- The types of this seat, as data. PRINTED by wip/gen/tab.py. -/
import Derived.Test.YtbefmodpgecfgaaA19
import Derived.Test.YtbefmodpgecfgaaChecked
namespace Go.Proofs.Ytbefmodpgecfgaa
open Go.A
set_option linter.unusedVariables false
def td1 : TD := { k := .func, size := 1, bytes := 8, zero := .fnil }
def td2 : TD := { k := .int .i64, size := 1, bytes := 8, zero := .int .i64 0 }
def td3 : TD := { k := .int .i64, size := 1, bytes := 8, zero := .int .i64 0 }
def td4 : TD := { k := .bool, size := 1, bytes := 1, zero := .bool false }
def td5 : TD := { k := .int .u8, size := 1, bytes := 1, zero := .int .u8 0 }
def td6 : TD := { k := .int .u8, size := 1, bytes := 1, zero := .int .u8 0 }
def td7 : TD := { k := .struct [(0, 2), (1, 3), (2, 4), (3, 6)], size := 4, bytes := 24, zero := .agg [.int .i64 0, .int .i64 0, .bool false, .int .u8 0], eqp := some [.i, .i, .b, .i] }
def td8 : TD := { k := .struct [(0, 2), (1, 3), (2, 4), (3, 6)], size := 4, bytes := 24, zero := .agg [.int .i64 0, .int .i64 0, .bool false, .int .u8 0], eqp := some [.i, .i, .b, .i] }
def td9 : TD := { k := .string, size := 1, bytes := 16, zero := .str ⟨#[]⟩ }
def td10 : TD := { k := .string, size := 1, bytes := 16, zero := .str ⟨#[]⟩ }
def td11 : TD := { k := .string, size := 1, bytes := 16, zero := .str ⟨#[]⟩ }
def td12 : TD := { k := .int .u64, size := 1, bytes := 8, zero := .int .u64 0 }
def td13 : TD := { k := .struct [(0, 9), (1, 12)], size := 2, bytes := 24, zero := .agg [.str ⟨#[]⟩, .int .u64 0] }
def td14 : TD := { k := .struct [(0, 9), (1, 12)], size := 2, bytes := 24, zero := .agg [.str ⟨#[]⟩, .int .u64 0] }
def td15 : TD := { k := .pointer 69, size := 1, bytes := 8, zero := .pnil }
def td16 : TD := { k := .pointer 72, size := 1, bytes := 8, zero := .pnil }
def td17 : TD := { k := .pointer 81, size := 1, bytes := 8, zero := .pnil }
def td18 : TD := { k := .struct [(0, 17)], size := 1, bytes := 8, zero := .agg [.pnil] }
def td19 : TD := { k := .struct [(0, 17)], size := 1, bytes := 8, zero := .agg [.pnil] }
def td21 : TD := { k := .int .i32, size := 1, bytes := 4, zero := .int .i32 0 }
def td22 : TD := { k := .slice 36, size := 1, bytes := 24, zero := .nils }
def td23 : TD := { k := .pointer 58, size := 1, bytes := 8, zero := .pnil }
def td24 : TD := { k := .int .i64, size := 1, bytes := 8, zero := .int .i64 0 }
def td26 : TD := { k := .func, size := 1, bytes := 8, zero := .fnil }
def td27 : TD := { k := .slice 34, size := 1, bytes := 24, zero := .nils }
def td28 : TD := { k := .slice 4, size := 1, bytes := 24, zero := .nils }
def td29 : TD := { k := .struct [(0, 27), (1, 27), (2, 28), (3, 4), (4, 3)], size := 5, bytes := 88, zero := .agg [.nils, .nils, .nils, .bool false, .int .i64 0] }
def td30 : TD := { k := .struct [(0, 27), (1, 27), (2, 28), (3, 4), (4, 3)], size := 5, bytes := 88, zero := .agg [.nils, .nils, .nils, .bool false, .int .i64 0] }
def td32 : TD := { k := .func, size := 1, bytes := 8, zero := .fnil }
def td33 : TD := { k := .func, size := 1, bytes := 8, zero := .fnil }
def td34 : TD := { k := .slice 5, size := 1, bytes := 24, zero := .nils }
def td35 : TD := { k := .struct [(0, 5), (1, 3), (2, 34), (3, 28)], size := 4, bytes := 64, zero := .agg [.int .u8 0, .int .i64 0, .nils, .nils] }
def td36 : TD := { k := .struct [(0, 5), (1, 3), (2, 34), (3, 28)], size := 4, bytes := 64, zero := .agg [.int .u8 0, .int .i64 0, .nils, .nils] }
def td37 : TD := { k := .func, size := 1, bytes := 8, zero := .fnil }
def td38 : TD := { k := .func, size := 1, bytes := 8, zero := .fnil }
def td40 : TD := { k := .func, size := 1, bytes := 8, zero := .fnil }
def td42 : TD := { k := .func, size := 1, bytes := 8, zero := .fnil }
def td43 : TD := { k := .func, size := 1, bytes := 8, zero := .fnil }
def td44 : TD := { k := .func, size := 1, bytes := 8, zero := .fnil }
def td45 : TD := { k := .func, size := 1, bytes := 8, zero := .fnil }
def td46 : TD := { k := .func, size := 1, bytes := 8, zero := .fnil }
def td47 : TD := { k := .func, size := 1, bytes := 8, zero := .fnil }
def td48 : TD := { k := .func, size := 1, bytes := 8, zero := .fnil }
def td49 : TD := { k := .func, size := 1, bytes := 8, zero := .fnil }
def td50 : TD := { k := .slice 9, size := 1, bytes := 24, zero := .nils }
def td51 : TD := { k := .func, size := 1, bytes := 8, zero := .fnil }
def td52 : TD := { k := .func, size := 1, bytes := 8, zero := .fnil }
def td53 : TD := { k := .func, size := 1, bytes := 8, zero := .fnil }
def td54 : TD := { k := .func, size := 1, bytes := 8, zero := .fnil }
def td55 : TD := { k := .slice 63, size := 1, bytes := 24, zero := .nils }
def td56 : TD := { k := .map 3 63, size := 1, bytes := 8, zero := .mnil }
def td57 : TD := { k := .struct [(0, 55), (1, 56), (2, 4), (3, 4), (4, 3)], size := 5, bytes := 48, zero := .agg [.nils, .mnil, .bool false, .bool false, .int .i64 0] }
def td58 : TD := { k := .struct [(0, 55), (1, 56), (2, 4), (3, 4), (4, 3)], size := 5, bytes := 48, zero := .agg [.nils, .mnil, .bool false, .bool false, .int .i64 0] }
def td59 : TD := { k := .slice 23, size := 1, bytes := 24, zero := .nils }
def td60 : TD := { k := .func, size := 1, bytes := 8, zero := .fnil }
def td61 : TD := { k := .func, size := 1, bytes := 8, zero := .fnil }
def td62 : TD := { k := .array 64 5, size := 64, bytes := 64, zero := .agg [.int .u8 0, .int .u8 0, .int .u8 0, .int .u8 0, .int .u8 0, .int .u8 0, .int .u8 0, .int .u8 0, .int .u8 0, .int .u8 0, .int .u8 0, .int .u8 0, .int .u8 0, .int .u8 0, .int .u8 0, .int .u8 0, .int .u8 0, .int .u8 0, .int .u8 0, .int .u8 0, .int .u8 0, .int .u8 0, .int .u8 0, .int .u8 0, .int .u8 0, .int .u8 0, .int .u8 0, .int .u8 0, .int .u8 0, .int .u8 0, .int .u8 0, .int .u8 0, .int .u8 0, .int .u8 0, .int .u8 0, .int .u8 0, .int .u8 0, .int .u8 0, .int .u8 0, .int .u8 0, .int .u8 0, .int .u8 0, .int .u8 0, .int .u8 0, .int .u8 0, .int .u8 0, .int .u8 0, .int .u8 0, .int .u8 0, .int .u8 0, .int .u8 0, .int .u8 0, .int .u8 0, .int .u8 0, .int .u8 0, .int .u8 0, .int .u8 0, .int .u8 0, .int .u8 0, .int .u8 0, .int .u8 0, .int .u8 0, .int .u8 0, .int .u8 0] }
def td63 : TD := { k := .array 64 5, size := 64, bytes := 64, zero := .agg [.int .u8 0, .int .u8 0, .int .u8 0, .int .u8 0, .int .u8 0, .int .u8 0, .int .u8 0, .int .u8 0, .int .u8 0, .int .u8 0, .int .u8 0, .int .u8 0, .int .u8 0, .int .u8 0, .int .u8 0, .int .u8 0, .int .u8 0, .int .u8 0, .int .u8 0, .int .u8 0, .int .u8 0, .int .u8 0, .int .u8 0, .int .u8 0, .int .u8 0, .int .u8 0, .int .u8 0, .int .u8 0, .int .u8 0, .int .u8 0, .int .u8 0, .int .u8 0, .int .u8 0, .int .u8 0, .int .u8 0, .int .u8 0, .int .u8 0, .int .u8 0, .int .u8 0, .int .u8 0, .int .u8 0, .int .u8 0, .int .u8 0, .int .u8 0, .int .u8 0, .int .u8 0, .int .u8 0, .int .u8 0, .int .u8 0, .int .u8 0, .int .u8 0, .int .u8 0, .int .u8 0, .int .u8 0, .int .u8 0, .int .u8 0, .int .u8 0, .int .u8 0, .int .u8 0, .int .u8 0, .int .u8 0, .int .u8 0, .int .u8 0, .int .u8 0] }
def td64 : TD := { k := .pointer 30, size := 1, bytes := 8, zero := .pnil }
def td66 : TD := { k := .func, size := 1, bytes := 8, zero := .fnil }
def td67 : TD := { k := .func, size := 1, bytes := 8, zero := .fnil }
def td68 : TD := { k := .struct [(0, 17), (1, 17), (2, 17), (3, 9)], size := 4, bytes := 40, zero := .agg [.pnil, .pnil, .pnil, .str ⟨#[]⟩] }
def td69 : TD := { k := .struct [(0, 17), (1, 17), (2, 17), (3, 9)], size := 4, bytes := 40, zero := .agg [.pnil, .pnil, .pnil, .str ⟨#[]⟩] }
def td73 : TD := { k := .int .u32, size := 1, bytes := 4, zero := .int .u32 0 }
def td74 : TD := { k := .int .u8, size := 1, bytes := 1, zero := .int .u8 0 }
def td75 : TD := { k := .int .u8, size := 1, bytes := 1, zero := .int .u8 0 }
def td76 : TD := { k := .func, size := 1, bytes := 8, zero := .fnil }
def td77 : TD := { k := .pointer 5, size := 1, bytes := 8, zero := .pnil }
def td78 : TD := { k := .int .i32, size := 1, bytes := 4, zero := .int .i32 0 }
def td79 : TD := { k := .int .i32, size := 1, bytes := 4, zero := .int .i32 0 }
def td80 : TD := { k := .struct [(0, 12), (1, 12), (2, 73), (3, 74), (4, 5), (5, 5), (6, 75), (7, 76), (8, 77), (9, 78), (10, 79)], size := 11, bytes := 48, zero := .agg [.int .u64 0, .int .u64 0, .int .u32 0, .int .u8 0, .int .u8 0, .int .u8 0, .int .u8 0, .fnil, .pnil, .int .i32 0, .int .i32 0] }
def td81 : TD := { k := .struct [(0, 12), (1, 12), (2, 73), (3, 74), (4, 5), (5, 5), (6, 75), (7, 76), (8, 77), (9, 78), (10, 79)], size := 11, bytes := 48, zero := .agg [.int .u64 0, .int .u64 0, .int .u32 0, .int .u8 0, .int .u8 0, .int .u8 0, .int .u8 0, .fnil, .pnil, .int .i32 0, .int .i32 0] }
def tab : Tab := [(1, td1), (2, td2), (3, td3), (4, td4), (5, td5), (6, td6), (7, td7), (8, td8), (9, td9), (10, td10), (11, td11), (12, td12), (13, td13), (14, td14), (15, td15), (16, td16), (17, td17), (18, td18), (19, td19), (21, td21), (22, td22), (23, td23), (24, td24), (26, td26), (27, td27), (28, td28), (29, td29), (30, td30), (32, td32), (33, td33), (34, td34), (35, td35), (36, td36), (37, td37), (38, td38), (40, td40), (42, td42), (43, td43), (44, td44), (45, td45), (46, td46), (47, td47), (48, td48), (49, td49), (50, td50), (51, td51), (52, td52), (53, td53), (54, td54), (55, td55), (56, td56), (57, td57), (58, td58), (59, td59), (60, td60), (61, td61), (62, td62), (63, td63), (64, td64), (66, td66), (67, td67), (68, td68), (69, td69), (73, td73), (74, td74), (75, td75), (76, td76), (77, td77), (78, td78), (79, td79), (80, td80), (81, td81)]
theorem td1_ok : TDOk Try.prog 1 td1 := ⟨fun ks h => (by cases h), ⟨_, Try.underlying1, rfl⟩, ⟨_, _, rfl, rfl, rfl, rfl, rfl⟩, rfl, rfl⟩
theorem td2_ok : TDOk Try.prog 2 td2 := ⟨fun ks h => (by cases h), ⟨_, Try.underlying2, rfl⟩, ⟨_, _, rfl, rfl, rfl, rfl, rfl⟩, rfl, rfl⟩
theorem td3_ok : TDOk Try.prog 3 td3 := ⟨fun ks h => (by cases h), ⟨_, Try.underlying3, rfl⟩, ⟨_, _, rfl, rfl, rfl, rfl, rfl⟩, rfl, rfl⟩
theorem td4_ok : TDOk Try.prog 4 td4 := ⟨fun ks h => (by cases h), ⟨_, Try.underlying4, rfl⟩, ⟨_, _, rfl, rfl, rfl, rfl, rfl⟩, rfl, rfl⟩
theorem td5_ok : TDOk Try.prog 5 td5 := ⟨fun ks h => (by cases h), ⟨_, Try.underlying5, rfl⟩, ⟨_, _, rfl, rfl, rfl, rfl, rfl⟩, rfl, rfl⟩
theorem td6_ok : TDOk Try.prog 6 td6 := ⟨fun ks h => (by cases h), ⟨_, Try.underlying6, rfl⟩, ⟨_, _, rfl, rfl, rfl, rfl, rfl⟩, rfl, rfl⟩
theorem td7_ok : TDOk Try.prog 7 td7 := ⟨fun ks h => (by cases h; exact ⟨by kernel_rfl, by kernel_rfl, _, Try.underlying7, by kernel_rfl⟩), ⟨_, Try.underlying7, rfl⟩, ⟨_, _, rfl, rfl, rfl, rfl, rfl⟩, rfl, rfl⟩
theorem td8_ok : TDOk Try.prog 8 td8 := ⟨fun ks h => (by cases h; exact ⟨by kernel_rfl, by kernel_rfl, _, Try.underlying8, by kernel_rfl⟩), ⟨_, Try.underlying8, rfl⟩, ⟨_, _, rfl, rfl, rfl, rfl, rfl⟩, rfl, rfl⟩
theorem td9_ok : TDOk Try.prog 9 td9 := ⟨fun ks h => (by cases h), ⟨_, Try.underlying9, rfl⟩, ⟨_, _, rfl, rfl, rfl, rfl, rfl⟩, rfl, rfl⟩
theorem td10_ok : TDOk Try.prog 10 td10 := ⟨fun ks h => (by cases h), ⟨_, Try.underlying10, rfl⟩, ⟨_, _, rfl, rfl, rfl, rfl, rfl⟩, rfl, rfl⟩
theorem td11_ok : TDOk Try.prog 11 td11 := ⟨fun ks h => (by cases h), ⟨_, Try.underlying11, rfl⟩, ⟨_, _, rfl, rfl, rfl, rfl, rfl⟩, rfl, rfl⟩
theorem td12_ok : TDOk Try.prog 12 td12 := ⟨fun ks h => (by cases h), ⟨_, Try.underlying12, rfl⟩, ⟨_, _, rfl, rfl, rfl, rfl, rfl⟩, rfl, rfl⟩
theorem td13_ok : TDOk Try.prog 13 td13 := ⟨fun ks h => (by cases h), ⟨_, Try.underlying13, rfl⟩, ⟨_, _, rfl, rfl, rfl, rfl, rfl⟩, rfl, rfl⟩
theorem td14_ok : TDOk Try.prog 14 td14 := ⟨fun ks h => (by cases h), ⟨_, Try.underlying14, rfl⟩, ⟨_, _, rfl, rfl, rfl, rfl, rfl⟩, rfl, rfl⟩
theorem td15_ok : TDOk Try.prog 15 td15 := ⟨fun ks h => (by cases h), ⟨_, Try.underlying15, rfl⟩, ⟨_, _, rfl, rfl, rfl, rfl, rfl⟩, rfl, rfl⟩
theorem td16_ok : TDOk Try.prog 16 td16 := ⟨fun ks h => (by cases h), ⟨_, Try.underlying16, rfl⟩, ⟨_, _, rfl, rfl, rfl, rfl, rfl⟩, rfl, rfl⟩
theorem td17_ok : TDOk Try.prog 17 td17 := ⟨fun ks h => (by cases h), ⟨_, Try.underlying17, rfl⟩, ⟨_, _, rfl, rfl, rfl, rfl, rfl⟩, rfl, rfl⟩
theorem td18_ok : TDOk Try.prog 18 td18 := ⟨fun ks h => (by cases h), ⟨_, Try.underlying18, rfl⟩, ⟨_, _, rfl, rfl, rfl, rfl, rfl⟩, rfl, rfl⟩
theorem td19_ok : TDOk Try.prog 19 td19 := ⟨fun ks h => (by cases h), ⟨_, Try.underlying19, rfl⟩, ⟨_, _, rfl, rfl, rfl, rfl, rfl⟩, rfl, rfl⟩
theorem td21_ok : TDOk Try.prog 21 td21 := ⟨fun ks h => (by cases h), ⟨_, Try.underlying21, rfl⟩, ⟨_, _, rfl, rfl, rfl, rfl, rfl⟩, rfl, rfl⟩
theorem td22_ok : TDOk Try.prog 22 td22 := ⟨fun ks h => (by cases h), ⟨_, Try.underlying22, rfl⟩, ⟨_, _, rfl, rfl, rfl, rfl, rfl⟩, rfl, rfl⟩
theorem td23_ok : TDOk Try.prog 23 td23 := ⟨fun ks h => (by cases h), ⟨_, Try.underlying23, rfl⟩, ⟨_, _, rfl, rfl, rfl, rfl, rfl⟩, rfl, rfl⟩
theorem td24_ok : TDOk Try.prog 24 td24 := ⟨fun ks h => (by cases h), ⟨_, Try.underlying24, rfl⟩, ⟨_, _, rfl, rfl, rfl, rfl, rfl⟩, rfl, rfl⟩
theorem td26_ok : TDOk Try.prog 26 td26 := ⟨fun ks h => (by cases h), ⟨_, Try.underlying26, rfl⟩, ⟨_, _, rfl, rfl, rfl, rfl, rfl⟩, rfl, rfl⟩
theorem td27_ok : TDOk Try.prog 27 td27 := ⟨fun ks h => (by cases h), ⟨_, Try.underlying27, rfl⟩, ⟨_, _, rfl, rfl, rfl, rfl, rfl⟩, rfl, rfl⟩
theorem td28_ok : TDOk Try.prog 28 td28 := ⟨fun ks h => (by cases h), ⟨_, Try.underlying28, rfl⟩, ⟨_, _, rfl, rfl, rfl, rfl, rfl⟩, rfl, rfl⟩
theorem td29_ok : TDOk Try.prog 29 td29 := ⟨fun ks h => (by cases h), ⟨_, Try.underlying29, rfl⟩, ⟨_, _, rfl, rfl, rfl, rfl, rfl⟩, rfl, rfl⟩
theorem td30_ok : TDOk Try.prog 30 td30 := ⟨fun ks h => (by cases h), ⟨_, Try.underlying30, rfl⟩, ⟨_, _, rfl, rfl, rfl, rfl, rfl⟩, rfl, rfl⟩
theorem td32_ok : TDOk Try.prog 32 td32 := ⟨fun ks h => (by cases h), ⟨_, Try.underlying32, rfl⟩, ⟨_, _, rfl, rfl, rfl, rfl, rfl⟩, rfl, rfl⟩
theorem td33_ok : TDOk Try.prog 33 td33 := ⟨fun ks h => (by cases h), ⟨_, Try.underlying33, rfl⟩, ⟨_, _, rfl, rfl, rfl, rfl, rfl⟩, rfl, rfl⟩
theorem td34_ok : TDOk Try.prog 34 td34 := ⟨fun ks h => (by cases h), ⟨_, Try.underlying34, rfl⟩, ⟨_, _, rfl, rfl, rfl, rfl, rfl⟩, rfl, rfl⟩
theorem td35_ok : TDOk Try.prog 35 td35 := ⟨fun ks h => (by cases h), ⟨_, Try.underlying35, rfl⟩, ⟨_, _, rfl, rfl, rfl, rfl, rfl⟩, rfl, rfl⟩
theorem td36_ok : TDOk Try.prog 36 td36 := ⟨fun ks h => (by cases h), ⟨_, Try.underlying36, rfl⟩, ⟨_, _, rfl, rfl, rfl, rfl, rfl⟩, rfl, rfl⟩
theorem td37_ok : TDOk Try.prog 37 td37 := ⟨fun ks h => (by cases h), ⟨_, Try.underlying37, rfl⟩, ⟨_, _, rfl, rfl, rfl, rfl, rfl⟩, rfl, rfl⟩
theorem td38_ok : TDOk Try.prog 38 td38 := ⟨fun ks h => (by cases h), ⟨_, Try.underlying38, rfl⟩, ⟨_, _, rfl, rfl, rfl, rfl, rfl⟩, rfl, rfl⟩
theorem td40_ok : TDOk Try.prog 40 td40 := ⟨fun ks h => (by cases h), ⟨_, Try.underlying40, rfl⟩, ⟨_, _, rfl, rfl, rfl, rfl, rfl⟩, rfl, rfl⟩
theorem td42_ok : TDOk Try.prog 42 td42 := ⟨fun ks h => (by cases h), ⟨_, Try.underlying42, rfl⟩, ⟨_, _, rfl, rfl, rfl, rfl, rfl⟩, rfl, rfl⟩
theorem td43_ok : TDOk Try.prog 43 td43 := ⟨fun ks h => (by cases h), ⟨_, Try.underlying43, rfl⟩, ⟨_, _, rfl, rfl, rfl, rfl, rfl⟩, rfl, rfl⟩
theorem td44_ok : TDOk Try.prog 44 td44 := ⟨fun ks h => (by cases h), ⟨_, Try.underlying44, rfl⟩, ⟨_, _, rfl, rfl, rfl, rfl, rfl⟩, rfl, rfl⟩
theorem td45_ok : TDOk Try.prog 45 td45 := ⟨fun ks h => (by cases h), ⟨_, Try.underlying45, rfl⟩, ⟨_, _, rfl, rfl, rfl, rfl, rfl⟩, rfl, rfl⟩
theorem td46_ok : TDOk Try.prog 46 td46 := ⟨fun ks h => (by cases h), ⟨_, Try.underlying46, rfl⟩, ⟨_, _, rfl, rfl, rfl, rfl, rfl⟩, rfl, rfl⟩
theorem td47_ok : TDOk Try.prog 47 td47 := ⟨fun ks h => (by cases h), ⟨_, Try.underlying47, rfl⟩, ⟨_, _, rfl, rfl, rfl, rfl, rfl⟩, rfl, rfl⟩
theorem td48_ok : TDOk Try.prog 48 td48 := ⟨fun ks h => (by cases h), ⟨_, Try.underlying48, rfl⟩, ⟨_, _, rfl, rfl, rfl, rfl, rfl⟩, rfl, rfl⟩
theorem td49_ok : TDOk Try.prog 49 td49 := ⟨fun ks h => (by cases h), ⟨_, Try.underlying49, rfl⟩, ⟨_, _, rfl, rfl, rfl, rfl, rfl⟩, rfl, rfl⟩
theorem td50_ok : TDOk Try.prog 50 td50 := ⟨fun ks h => (by cases h), ⟨_, Try.underlying50, rfl⟩, ⟨_, _, rfl, rfl, rfl, rfl, rfl⟩, rfl, rfl⟩
theorem td51_ok : TDOk Try.prog 51 td51 := ⟨fun ks h => (by cases h), ⟨_, Try.underlying51, rfl⟩, ⟨_, _, rfl, rfl, rfl, rfl, rfl⟩, rfl, rfl⟩
theorem td52_ok : TDOk Try.prog 52 td52 := ⟨fun ks h => (by cases h), ⟨_, Try.underlying52, rfl⟩, ⟨_, _, rfl, rfl, rfl, rfl, rfl⟩, rfl, rfl⟩
theorem td53_ok : TDOk Try.prog 53 td53 := ⟨fun ks h => (by cases h), ⟨_, Try.underlying53, rfl⟩, ⟨_, _, rfl, rfl, rfl, rfl, rfl⟩, rfl, rfl⟩
theorem td54_ok : TDOk Try.prog 54 td54 := ⟨fun ks h => (by cases h), ⟨_, Try.underlying54, rfl⟩, ⟨_, _, rfl, rfl, rfl, rfl, rfl⟩, rfl, rfl⟩
theorem td55_ok : TDOk Try.prog 55 td55 := ⟨fun ks h => (by cases h), ⟨_, Try.underlying55, rfl⟩, ⟨_, _, rfl, rfl, rfl, rfl, rfl⟩, rfl, rfl⟩
theorem td56_ok : TDOk Try.prog 56 td56 := ⟨fun ks h => (by cases h), ⟨_, Try.underlying56, rfl⟩, ⟨_, _, rfl, rfl, rfl, rfl, rfl⟩, rfl, rfl⟩
theorem td57_ok : TDOk Try.prog 57 td57 := ⟨fun ks h => (by cases h), ⟨_, Try.underlying57, rfl⟩, ⟨_, _, rfl, rfl, rfl, rfl, rfl⟩, rfl, rfl⟩
theorem td58_ok : TDOk Try.prog 58 td58 := ⟨fun ks h => (by cases h), ⟨_, Try.underlying58, rfl⟩, ⟨_, _, rfl, rfl, rfl, rfl, rfl⟩, rfl, rfl⟩
theorem td59_ok : TDOk Try.prog 59 td59 := ⟨fun ks h => (by cases h), ⟨_, Try.underlying59, rfl⟩, ⟨_, _, rfl, rfl, rfl, rfl, rfl⟩, rfl, rfl⟩
theorem td60_ok : TDOk Try.prog 60 td60 := ⟨fun ks h => (by cases h), ⟨_, Try.underlying60, rfl⟩, ⟨_, _, rfl, rfl, rfl, rfl, rfl⟩, rfl, rfl⟩
theorem td61_ok : TDOk Try.prog 61 td61 := ⟨fun ks h => (by cases h), ⟨_, Try.underlying61, rfl⟩, ⟨_, _, rfl, rfl, rfl, rfl, rfl⟩, rfl, rfl⟩
theorem td62_ok : TDOk Try.prog 62 td62 := ⟨fun ks h => (by cases h), ⟨_, Try.underlying62, rfl⟩, ⟨_, _, rfl, rfl, rfl, rfl, rfl⟩, rfl, rfl⟩
theorem td63_ok : TDOk Try.prog 63 td63 := ⟨fun ks h => (by cases h), ⟨_, Try.underlying63, rfl⟩, ⟨_, _, rfl, rfl, rfl, rfl, rfl⟩, rfl, rfl⟩
theorem td64_ok : TDOk Try.prog 64 td64 := ⟨fun ks h => (by cases h), ⟨_, Try.underlying64, rfl⟩, ⟨_, _, rfl, rfl, rfl, rfl, rfl⟩, rfl, rfl⟩
theorem td66_ok : TDOk Try.prog 66 td66 := ⟨fun ks h => (by cases h), ⟨_, Try.underlying66, rfl⟩, ⟨_, _, rfl, rfl, rfl, rfl, rfl⟩, rfl, rfl⟩
theorem td67_ok : TDOk Try.prog 67 td67 := ⟨fun ks h => (by cases h), ⟨_, Try.underlying67, rfl⟩, ⟨_, _, rfl, rfl, rfl, rfl, rfl⟩, rfl, rfl⟩
theorem td68_ok : TDOk Try.prog 68 td68 := ⟨fun ks h => (by cases h), ⟨_, Try.underlying68, rfl⟩, ⟨_, _, rfl, rfl, rfl, rfl, rfl⟩, rfl, rfl⟩
theorem td69_ok : TDOk Try.prog 69 td69 := ⟨fun ks h => (by cases h), ⟨_, Try.underlying69, rfl⟩, ⟨_, _, rfl, rfl, rfl, rfl, rfl⟩, rfl, rfl⟩
theorem td73_ok : TDOk Try.prog 73 td73 := ⟨fun ks h => (by cases h), ⟨_, Try.underlying73, rfl⟩, ⟨_, _, rfl, rfl, rfl, rfl, rfl⟩, rfl, rfl⟩
theorem td74_ok : TDOk Try.prog 74 td74 := ⟨fun ks h => (by cases h), ⟨_, Try.underlying74, rfl⟩, ⟨_, _, rfl, rfl, rfl, rfl, rfl⟩, rfl, rfl⟩
theorem td75_ok : TDOk Try.prog 75 td75 := ⟨fun ks h => (by cases h), ⟨_, Try.underlying75, rfl⟩, ⟨_, _, rfl, rfl, rfl, rfl, rfl⟩, rfl, rfl⟩
theorem td76_ok : TDOk Try.prog 76 td76 := ⟨fun ks h => (by cases h), ⟨_, Try.underlying76, rfl⟩, ⟨_, _, rfl, rfl, rfl, rfl, rfl⟩, rfl, rfl⟩
theorem td77_ok : TDOk Try.prog 77 td77 := ⟨fun ks h => (by cases h), ⟨_, Try.underlying77, rfl⟩, ⟨_, _, rfl, rfl, rfl, rfl, rfl⟩, rfl, rfl⟩
theorem td78_ok : TDOk Try.prog 78 td78 := ⟨fun ks h => (by cases h), ⟨_, Try.underlying78, rfl⟩, ⟨_, _, rfl, rfl, rfl, rfl, rfl⟩, rfl, rfl⟩
theorem td79_ok : TDOk Try.prog 79 td79 := ⟨fun ks h => (by cases h), ⟨_, Try.underlying79, rfl⟩, ⟨_, _, rfl, rfl, rfl, rfl, rfl⟩, rfl, rfl⟩
theorem td80_ok : TDOk Try.prog 80 td80 := ⟨fun ks h => (by cases h), ⟨_, Try.underlying80, rfl⟩, ⟨_, _, rfl, rfl, rfl, rfl, rfl⟩, rfl, rfl⟩
theorem td81_ok : TDOk Try.prog 81 td81 := ⟨fun ks h => (by cases h), ⟨_, Try.underlying81, rfl⟩, ⟨_, _, rfl, rfl, rfl, rfl, rfl⟩, rfl, rfl⟩
theorem tab_ok : TOk Try.prog tab := Tab.ok (by
  simp only [tab, TabAll]
  exact ⟨td1_ok, td2_ok, td3_ok, td4_ok, td5_ok, td6_ok, td7_ok, td8_ok, td9_ok, td10_ok, td11_ok, td12_ok, td13_ok, td14_ok, td15_ok, td16_ok, td17_ok, td18_ok, td19_ok, td21_ok, td22_ok, td23_ok, td24_ok, td26_ok, td27_ok, td28_ok, td29_ok, td30_ok, td32_ok, td33_ok, td34_ok, td35_ok, td36_ok, td37_ok, td38_ok, td40_ok, td42_ok, td43_ok, td44_ok, td45_ok, td46_ok, td47_ok, td48_ok, td49_ok, td50_ok, td51_ok, td52_ok, td53_ok, td54_ok, td55_ok, td56_ok, td57_ok, td58_ok, td59_ok, td60_ok, td61_ok, td62_ok, td63_ok, td64_ok, td66_ok, td67_ok, td68_ok, td69_ok, td73_ok, td74_ok, td75_ok, td76_ok, td77_ok, td78_ok, td79_ok, td80_ok, td81_ok, trivial⟩)
theorem mixed : Try.prog.follows .mixedOrders = true := Checked.mixed Try.checked
end Go.Proofs.Ytbefmodpgecfgaa
