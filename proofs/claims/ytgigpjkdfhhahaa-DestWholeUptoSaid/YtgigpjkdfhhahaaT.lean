/- The types of this seat, as data. PRINTED by wip/gen/tab.py. -/
import Derived.Test.YtgigpjkdfhhahaaA19
import Derived.Test.YtgigpjkdfhhahaaChecked
namespace Go.Proofs.Ytgigpjkdfhhahaa
open Go.A
set_option linter.unusedVariables false
set_option maxRecDepth 100000
def td1 : TD := { k := .func, size := 1, bytes := 8, zero := .fnil }
def td2 : TD := { k := .int .i64, size := 1, bytes := 8, zero := .int .i64 0 }
def td3 : TD := { k := .int .i64, size := 1, bytes := 8, zero := .int .i64 0 }
def td4 : TD := { k := .bool, size := 1, bytes := 1, zero := .bool false }
def td5 : TD := { k := .int .u8, size := 1, bytes := 1, zero := .int .u8 0 }
def td6 : TD := { k := .int .u8, size := 1, bytes := 1, zero := .int .u8 0 }
def td7 : TD := { k := .struct [(0, 2), (1, 3), (2, 4), (3, 6)], size := 4, bytes := 24, zero := .agg [.int .i64 0, .int .i64 0, .bool false, .int .u8 0], eqp := some [.i, .i, .b, .i] }
def td8 : TD := { k := .struct [(0, 2), (1, 3), (2, 4), (3, 6)], size := 4, bytes := 24, zero := .agg [.int .i64 0, .int .i64 0, .bool false, .int .u8 0], eqp := some [.i, .i, .b, .i] }
def td9 : TD := { k := .string, size := 1, bytes := 16, zero := .str ⟨#[]⟩ }
def td10 : TD := { k := .string, size := 1, bytes := 16, zero := .str ⟨#[]⟩ }
def td11 : TD := { k := .string, size := 1, bytes := 16, zero := .str ⟨#[]⟩ }
def td12 : TD := { k := .int .u64, size := 1, bytes := 8, zero := .int .u64 0 }
def td13 : TD := { k := .struct [(0, 9), (1, 12)], size := 2, bytes := 24, zero := .agg [.str ⟨#[]⟩, .int .u64 0] }
def td14 : TD := { k := .struct [(0, 9), (1, 12)], size := 2, bytes := 24, zero := .agg [.str ⟨#[]⟩, .int .u64 0] }
def td15 : TD := { k := .pointer 138, size := 1, bytes := 8, zero := .pnil }
def td16 : TD := { k := .pointer 141, size := 1, bytes := 8, zero := .pnil }
def td17 : TD := { k := .pointer 150, size := 1, bytes := 8, zero := .pnil }
def td18 : TD := { k := .struct [(0, 17)], size := 1, bytes := 8, zero := .agg [.pnil] }
def td19 : TD := { k := .struct [(0, 17)], size := 1, bytes := 8, zero := .agg [.pnil] }
def td21 : TD := { k := .int .i32, size := 1, bytes := 4, zero := .int .i32 0 }
def td22 : TD := { k := .slice 51, size := 1, bytes := 24, zero := .nils }
def td23 : TD := { k := .struct [(0, 3), (1, 3), (2, 22)], size := 3, bytes := 40, zero := .agg [.int .i64 0, .int .i64 0, .nils] }
def td24 : TD := { k := .struct [(0, 3), (1, 3), (2, 22)], size := 3, bytes := 40, zero := .agg [.int .i64 0, .int .i64 0, .nils] }
def td25 : TD := { k := .slice 39, size := 1, bytes := 24, zero := .nils }
def td26 : TD := { k := .func, size := 1, bytes := 8, zero := .fnil }
def td27 : TD := { k := .func, size := 1, bytes := 8, zero := .fnil }
def td28 : TD := { k := .pointer 78, size := 1, bytes := 8, zero := .pnil }
def td29 : TD := { k := .int .i64, size := 1, bytes := 8, zero := .int .i64 0 }
def td31 : TD := { k := .func, size := 1, bytes := 8, zero := .fnil }
def td32 : TD := { k := .func, size := 1, bytes := 8, zero := .fnil }
def td33 : TD := { k := .struct [(0, 3), (1, 3), (2, 22)], size := 3, bytes := 40, zero := .agg [.int .i64 0, .int .i64 0, .nils] }
def td34 : TD := { k := .func, size := 1, bytes := 8, zero := .fnil }
def td35 : TD := { k := .slice 56, size := 1, bytes := 24, zero := .nils }
def td36 : TD := { k := .array 16 35, size := 16, bytes := 384, zero := .agg [.nils, .nils, .nils, .nils, .nils, .nils, .nils, .nils, .nils, .nils, .nils, .nils, .nils, .nils, .nils, .nils] }
def td37 : TD := { k := .slice 91, size := 1, bytes := 24, zero := .nils }
def td38 : TD := { k := .struct [(0, 3), (1, 37)], size := 2, bytes := 32, zero := .agg [.int .i64 0, .nils] }
def td39 : TD := { k := .struct [(0, 3), (1, 37)], size := 2, bytes := 32, zero := .agg [.int .i64 0, .nils] }
def td40 : TD := { k := .slice 44, size := 1, bytes := 24, zero := .nils }
def td42 : TD := { k := .func, size := 1, bytes := 8, zero := .fnil }
def td43 : TD := { k := .struct [(0, 3), (1, 3), (2, 3), (3, 3), (4, 3), (5, 3), (6, 3), (7, 35)], size := 8, bytes := 80, zero := .agg [.int .i64 0, .int .i64 0, .int .i64 0, .int .i64 0, .int .i64 0, .int .i64 0, .int .i64 0, .nils] }
def td44 : TD := { k := .struct [(0, 3), (1, 3), (2, 3), (3, 3), (4, 3), (5, 3), (6, 3), (7, 35)], size := 8, bytes := 80, zero := .agg [.int .i64 0, .int .i64 0, .int .i64 0, .int .i64 0, .int .i64 0, .int .i64 0, .int .i64 0, .nils] }
def td45 : TD := { k := .func, size := 1, bytes := 8, zero := .fnil }
def td46 : TD := { k := .func, size := 1, bytes := 8, zero := .fnil }
def td47 : TD := { k := .func, size := 1, bytes := 8, zero := .fnil }
def td49 : TD := { k := .func, size := 1, bytes := 8, zero := .fnil }
def td50 : TD := { k := .struct [(0, 3), (1, 3), (2, 3)], size := 3, bytes := 24, zero := .agg [.int .i64 0, .int .i64 0, .int .i64 0], eqp := some [.i, .i, .i] }
def td51 : TD := { k := .struct [(0, 3), (1, 3), (2, 3)], size := 3, bytes := 24, zero := .agg [.int .i64 0, .int .i64 0, .int .i64 0], eqp := some [.i, .i, .i] }
def td52 : TD := { k := .slice 3, size := 1, bytes := 24, zero := .nils }
def td53 : TD := { k := .func, size := 1, bytes := 8, zero := .fnil }
def td55 : TD := { k := .func, size := 1, bytes := 8, zero := .fnil }
def td56 : TD := { k := .int .u64, size := 1, bytes := 8, zero := .int .u64 0 }
def td57 : TD := { k := .func, size := 1, bytes := 8, zero := .fnil }
def td58 : TD := { k := .func, size := 1, bytes := 8, zero := .fnil }
def td59 : TD := { k := .slice 62, size := 1, bytes := 24, zero := .nils }
def td60 : TD := { k := .slice 65, size := 1, bytes := 24, zero := .nils }
def td61 : TD := { k := .struct [(0, 5), (1, 3), (2, 3), (3, 44), (11, 24)], size := 14, bytes := 144, zero := .agg [.int .u8 0, .int .i64 0, .int .i64 0, .int .i64 0, .int .i64 0, .int .i64 0, .int .i64 0, .int .i64 0, .int .i64 0, .int .i64 0, .nils, .int .i64 0, .int .i64 0, .nils] }
def td62 : TD := { k := .struct [(0, 5), (1, 3), (2, 3), (3, 44), (11, 24)], size := 14, bytes := 144, zero := .agg [.int .u8 0, .int .i64 0, .int .i64 0, .int .i64 0, .int .i64 0, .int .i64 0, .int .i64 0, .int .i64 0, .int .i64 0, .int .i64 0, .nils, .int .i64 0, .int .i64 0, .nils] }
def td63 : TD := { k := .func, size := 1, bytes := 8, zero := .fnil }
def td64 : TD := { k := .struct [(0, 3), (1, 35)], size := 2, bytes := 32, zero := .agg [.int .i64 0, .nils] }
def td65 : TD := { k := .struct [(0, 3), (1, 35)], size := 2, bytes := 32, zero := .agg [.int .i64 0, .nils] }
def td66 : TD := { k := .func, size := 1, bytes := 8, zero := .fnil }
def td67 : TD := { k := .func, size := 1, bytes := 8, zero := .fnil }
def td68 : TD := { k := .func, size := 1, bytes := 8, zero := .fnil }
def td69 : TD := { k := .func, size := 1, bytes := 8, zero := .fnil }
def td70 : TD := { k := .array 2 3, size := 2, bytes := 16, zero := .agg [.int .i64 0, .int .i64 0] }
def td71 : TD := { k := .func, size := 1, bytes := 8, zero := .fnil }
def td73 : TD := { k := .func, size := 1, bytes := 8, zero := .fnil }
def td74 : TD := { k := .func, size := 1, bytes := 8, zero := .fnil }
def td75 : TD := { k := .slice 93, size := 1, bytes := 24, zero := .nils }
def td76 : TD := { k := .slice 97, size := 1, bytes := 24, zero := .nils }
def td77 : TD := { k := .struct [(0, 3), (1, 3), (2, 3), (3, 33), (6, 75), (7, 76)], size := 8, bytes := 112, zero := .agg [.int .i64 0, .int .i64 0, .int .i64 0, .int .i64 0, .int .i64 0, .nils, .nils, .nils] }
def td78 : TD := { k := .struct [(0, 3), (1, 3), (2, 3), (3, 33), (6, 75), (7, 76)], size := 8, bytes := 112, zero := .agg [.int .i64 0, .int .i64 0, .int .i64 0, .int .i64 0, .int .i64 0, .nils, .nils, .nils] }
def td79 : TD := { k := .slice 28, size := 1, bytes := 24, zero := .nils }
def td80 : TD := { k := .func, size := 1, bytes := 8, zero := .fnil }
def td81 : TD := { k := .func, size := 1, bytes := 8, zero := .fnil }
def td82 : TD := { k := .func, size := 1, bytes := 8, zero := .fnil }
def td83 : TD := { k := .func, size := 1, bytes := 8, zero := .fnil }
def td84 : TD := { k := .func, size := 1, bytes := 8, zero := .fnil }
def td86 : TD := { k := .func, size := 1, bytes := 8, zero := .fnil }
def td87 : TD := { k := .func, size := 1, bytes := 8, zero := .fnil }
def td88 : TD := { k := .func, size := 1, bytes := 8, zero := .fnil }
def td89 : TD := { k := .func, size := 1, bytes := 8, zero := .fnil }
def td90 : TD := { k := .struct [(0, 3), (1, 3), (2, 3), (3, 35)], size := 4, bytes := 48, zero := .agg [.int .i64 0, .int .i64 0, .int .i64 0, .nils] }
def td91 : TD := { k := .struct [(0, 3), (1, 3), (2, 3), (3, 35)], size := 4, bytes := 48, zero := .agg [.int .i64 0, .int .i64 0, .int .i64 0, .nils] }
def td92 : TD := { k := .func, size := 1, bytes := 8, zero := .fnil }
def td93 : TD := { k := .pointer 120, size := 1, bytes := 8, zero := .pnil }
def td94 : TD := { k := .func, size := 1, bytes := 8, zero := .fnil }
def td95 : TD := { k := .func, size := 1, bytes := 8, zero := .fnil }
def td96 : TD := { k := .struct [(0, 3), (1, 35)], size := 2, bytes := 32, zero := .agg [.int .i64 0, .nils] }
def td97 : TD := { k := .struct [(0, 3), (1, 35)], size := 2, bytes := 32, zero := .agg [.int .i64 0, .nils] }
def td98 : TD := { k := .func, size := 1, bytes := 8, zero := .fnil }
def td99 : TD := { k := .func, size := 1, bytes := 8, zero := .fnil }
def td100 : TD := { k := .func, size := 1, bytes := 8, zero := .fnil }
def td101 : TD := { k := .func, size := 1, bytes := 8, zero := .fnil }
def td102 : TD := { k := .func, size := 1, bytes := 8, zero := .fnil }
def td103 : TD := { k := .func, size := 1, bytes := 8, zero := .fnil }
def td104 : TD := { k := .func, size := 1, bytes := 8, zero := .fnil }
def td105 : TD := { k := .func, size := 1, bytes := 8, zero := .fnil }
def td106 : TD := { k := .func, size := 1, bytes := 8, zero := .fnil }
def td107 : TD := { k := .func, size := 1, bytes := 8, zero := .fnil }
def td109 : TD := { k := .func, size := 1, bytes := 8, zero := .fnil }
def td110 : TD := { k := .func, size := 1, bytes := 8, zero := .fnil }
def td111 : TD := { k := .func, size := 1, bytes := 8, zero := .fnil }
def td112 : TD := { k := .func, size := 1, bytes := 8, zero := .fnil }
def td113 : TD := { k := .func, size := 1, bytes := 8, zero := .fnil }
def td114 : TD := { k := .func, size := 1, bytes := 8, zero := .fnil }
def td115 : TD := { k := .struct [(0, 3), (1, 3), (2, 3), (3, 35)], size := 4, bytes := 48, zero := .agg [.int .i64 0, .int .i64 0, .int .i64 0, .nils] }
def td116 : TD := { k := .struct [(0, 3), (1, 3), (2, 3), (3, 35)], size := 4, bytes := 48, zero := .agg [.int .i64 0, .int .i64 0, .int .i64 0, .nils] }
def td117 : TD := { k := .struct [(0, 116), (4, 3), (5, 35)], size := 6, bytes := 80, zero := .agg [.int .i64 0, .int .i64 0, .int .i64 0, .nils, .int .i64 0, .nils] }
def td118 : TD := { k := .struct [(0, 116), (4, 3), (5, 35)], size := 6, bytes := 80, zero := .agg [.int .i64 0, .int .i64 0, .int .i64 0, .nils, .int .i64 0, .nils] }
def td119 : TD := { k := .struct [(0, 118), (6, 4), (7, 3), (8, 3), (9, 116)], size := 13, bytes := 152, zero := .agg [.int .i64 0, .int .i64 0, .int .i64 0, .nils, .int .i64 0, .nils, .bool false, .int .i64 0, .int .i64 0, .int .i64 0, .int .i64 0, .int .i64 0, .nils] }
def td120 : TD := { k := .struct [(0, 118), (6, 4), (7, 3), (8, 3), (9, 116)], size := 13, bytes := 152, zero := .agg [.int .i64 0, .int .i64 0, .int .i64 0, .nils, .int .i64 0, .nils, .bool false, .int .i64 0, .int .i64 0, .int .i64 0, .int .i64 0, .int .i64 0, .nils] }
def td121 : TD := { k := .func, size := 1, bytes := 8, zero := .fnil }
def td122 : TD := { k := .func, size := 1, bytes := 8, zero := .fnil }
def td123 : TD := { k := .func, size := 1, bytes := 8, zero := .fnil }
def td124 : TD := { k := .slice 127, size := 1, bytes := 24, zero := .nils }
def td125 : TD := { k := .func, size := 1, bytes := 8, zero := .fnil }
def td126 : TD := { k := .pointer 44, size := 1, bytes := 8, zero := .pnil }
def td127 : TD := { k := .pointer 3, size := 1, bytes := 8, zero := .pnil }
def td128 : TD := { k := .func, size := 1, bytes := 8, zero := .fnil }
def td129 : TD := { k := .func, size := 1, bytes := 8, zero := .fnil }
def td130 : TD := { k := .func, size := 1, bytes := 8, zero := .fnil }
def td131 : TD := { k := .func, size := 1, bytes := 8, zero := .fnil }
def td132 : TD := { k := .func, size := 1, bytes := 8, zero := .fnil }
def td133 : TD := { k := .func, size := 1, bytes := 8, zero := .fnil }
def td134 : TD := { k := .func, size := 1, bytes := 8, zero := .fnil }
def td135 : TD := { k := .func, size := 1, bytes := 8, zero := .fnil }
def td136 : TD := { k := .func, size := 1, bytes := 8, zero := .fnil }
def td137 : TD := { k := .struct [(0, 17), (1, 17), (2, 17), (3, 9)], size := 4, bytes := 40, zero := .agg [.pnil, .pnil, .pnil, .str ⟨#[]⟩] }
def td138 : TD := { k := .struct [(0, 17), (1, 17), (2, 17), (3, 9)], size := 4, bytes := 40, zero := .agg [.pnil, .pnil, .pnil, .str ⟨#[]⟩] }
def td142 : TD := { k := .int .u32, size := 1, bytes := 4, zero := .int .u32 0 }
def td143 : TD := { k := .int .u8, size := 1, bytes := 1, zero := .int .u8 0 }
def td144 : TD := { k := .int .u8, size := 1, bytes := 1, zero := .int .u8 0 }
def td145 : TD := { k := .func, size := 1, bytes := 8, zero := .fnil }
def td146 : TD := { k := .pointer 5, size := 1, bytes := 8, zero := .pnil }
def td147 : TD := { k := .int .i32, size := 1, bytes := 4, zero := .int .i32 0 }
def td148 : TD := { k := .int .i32, size := 1, bytes := 4, zero := .int .i32 0 }
def td149 : TD := { k := .struct [(0, 12), (1, 12), (2, 142), (3, 143), (4, 5), (5, 5), (6, 144), (7, 145), (8, 146), (9, 147), (10, 148)], size := 11, bytes := 48, zero := .agg [.int .u64 0, .int .u64 0, .int .u32 0, .int .u8 0, .int .u8 0, .int .u8 0, .int .u8 0, .fnil, .pnil, .int .i32 0, .int .i32 0] }
def td150 : TD := { k := .struct [(0, 12), (1, 12), (2, 142), (3, 143), (4, 5), (5, 5), (6, 144), (7, 145), (8, 146), (9, 147), (10, 148)], size := 11, bytes := 48, zero := .agg [.int .u64 0, .int .u64 0, .int .u32 0, .int .u8 0, .int .u8 0, .int .u8 0, .int .u8 0, .fnil, .pnil, .int .i32 0, .int .i32 0] }
def tab : Tab := [(1, td1), (2, td2), (3, td3), (4, td4), (5, td5), (6, td6), (7, td7), (8, td8), (9, td9), (10, td10), (11, td11), (12, td12), (13, td13), (14, td14), (15, td15), (16, td16), (17, td17), (18, td18), (19, td19), (21, td21), (22, td22), (23, td23), (24, td24), (25, td25), (26, td26), (27, td27), (28, td28), (29, td29), (31, td31), (32, td32), (33, td33), (34, td34), (35, td35), (36, td36), (37, td37), (38, td38), (39, td39), (40, td40), (42, td42), (43, td43), (44, td44), (45, td45), (46, td46), (47, td47), (49, td49), (50, td50), (51, td51), (52, td52), (53, td53), (55, td55), (56, td56), (57, td57), (58, td58), (59, td59), (60, td60), (61, td61), (62, td62), (63, td63), (64, td64), (65, td65), (66, td66), (67, td67), (68, td68), (69, td69), (70, td70), (71, td71), (73, td73), (74, td74), (75, td75), (76, td76), (77, td77), (78, td78), (79, td79), (80, td80), (81, td81), (82, td82), (83, td83), (84, td84), (86, td86), (87, td87), (88, td88), (89, td89), (90, td90), (91, td91), (92, td92), (93, td93), (94, td94), (95, td95), (96, td96), (97, td97), (98, td98), (99, td99), (100, td100), (101, td101), (102, td102), (103, td103), (104, td104), (105, td105), (106, td106), (107, td107), (109, td109), (110, td110), (111, td111), (112, td112), (113, td113), (114, td114), (115, td115), (116, td116), (117, td117), (118, td118), (119, td119), (120, td120), (121, td121), (122, td122), (123, td123), (124, td124), (125, td125), (126, td126), (127, td127), (128, td128), (129, td129), (130, td130), (131, td131), (132, td132), (133, td133), (134, td134), (135, td135), (136, td136), (137, td137), (138, td138), (142, td142), (143, td143), (144, td144), (145, td145), (146, td146), (147, td147), (148, td148), (149, td149), (150, td150)]
theorem td1_ok : TDOk Try.prog 1 td1 := ⟨fun ks h => (by cases h), ⟨_, Try.underlying1, rfl⟩, ⟨_, _, rfl, rfl, rfl, rfl, rfl⟩, rfl, rfl⟩
theorem td2_ok : TDOk Try.prog 2 td2 := ⟨fun ks h => (by cases h), ⟨_, Try.underlying2, rfl⟩, ⟨_, _, rfl, rfl, rfl, rfl, rfl⟩, rfl, rfl⟩
theorem td3_ok : TDOk Try.prog 3 td3 := ⟨fun ks h => (by cases h), ⟨_, Try.underlying3, rfl⟩, ⟨_, _, rfl, rfl, rfl, rfl, rfl⟩, rfl, rfl⟩
theorem td4_ok : TDOk Try.prog 4 td4 := ⟨fun ks h => (by cases h), ⟨_, Try.underlying4, rfl⟩, ⟨_, _, rfl, rfl, rfl, rfl, rfl⟩, rfl, rfl⟩
theorem td5_ok : TDOk Try.prog 5 td5 := ⟨fun ks h => (by cases h), ⟨_, Try.underlying5, rfl⟩, ⟨_, _, rfl, rfl, rfl, rfl, rfl⟩, rfl, rfl⟩
theorem td6_ok : TDOk Try.prog 6 td6 := ⟨fun ks h => (by cases h), ⟨_, Try.underlying6, rfl⟩, ⟨_, _, rfl, rfl, rfl, rfl, rfl⟩, rfl, rfl⟩
theorem td7_ok : TDOk Try.prog 7 td7 := ⟨fun ks h => (by cases h; exact ⟨by kernel_rfl, by kernel_rfl, _, Try.underlying7, by kernel_rfl⟩), ⟨_, Try.underlying7, rfl⟩, ⟨_, _, rfl, rfl, rfl, rfl, rfl⟩, rfl, rfl⟩
theorem td8_ok : TDOk Try.prog 8 td8 := ⟨fun ks h => (by cases h; exact ⟨by kernel_rfl, by kernel_rfl, _, Try.underlying8, by kernel_rfl⟩), ⟨_, Try.underlying8, rfl⟩, ⟨_, _, rfl, rfl, rfl, rfl, rfl⟩, rfl, rfl⟩
theorem td9_ok : TDOk Try.prog 9 td9 := ⟨fun ks h => (by cases h), ⟨_, Try.underlying9, rfl⟩, ⟨_, _, rfl, rfl, rfl, rfl, rfl⟩, rfl, rfl⟩
theorem td10_ok : TDOk Try.prog 10 td10 := ⟨fun ks h => (by cases h), ⟨_, Try.underlying10, rfl⟩, ⟨_, _, rfl, rfl, rfl, rfl, rfl⟩, rfl, rfl⟩
theorem td11_ok : TDOk Try.prog 11 td11 := ⟨fun ks h => (by cases h), ⟨_, Try.underlying11, rfl⟩, ⟨_, _, rfl, rfl, rfl, rfl, rfl⟩, rfl, rfl⟩
theorem td12_ok : TDOk Try.prog 12 td12 := ⟨fun ks h => (by cases h), ⟨_, Try.underlying12, rfl⟩, ⟨_, _, rfl, rfl, rfl, rfl, rfl⟩, rfl, rfl⟩
theorem td13_ok : TDOk Try.prog 13 td13 := ⟨fun ks h => (by cases h), ⟨_, Try.underlying13, rfl⟩, ⟨_, _, rfl, rfl, rfl, rfl, rfl⟩, rfl, rfl⟩
theorem td14_ok : TDOk Try.prog 14 td14 := ⟨fun ks h => (by cases h), ⟨_, Try.underlying14, rfl⟩, ⟨_, _, rfl, rfl, rfl, rfl, rfl⟩, rfl, rfl⟩
theorem td15_ok : TDOk Try.prog 15 td15 := ⟨fun ks h => (by cases h), ⟨_, Try.underlying15, rfl⟩, ⟨_, _, rfl, rfl, rfl, rfl, rfl⟩, rfl, rfl⟩
theorem td16_ok : TDOk Try.prog 16 td16 := ⟨fun ks h => (by cases h), ⟨_, Try.underlying16, rfl⟩, ⟨_, _, rfl, rfl, rfl, rfl, rfl⟩, rfl, rfl⟩
theorem td17_ok : TDOk Try.prog 17 td17 := ⟨fun ks h => (by cases h), ⟨_, Try.underlying17, rfl⟩, ⟨_, _, rfl, rfl, rfl, rfl, rfl⟩, rfl, rfl⟩
theorem td18_ok : TDOk Try.prog 18 td18 := ⟨fun ks h => (by cases h), ⟨_, Try.underlying18, rfl⟩, ⟨_, _, rfl, rfl, rfl, rfl, rfl⟩, rfl, rfl⟩
theorem td19_ok : TDOk Try.prog 19 td19 := ⟨fun ks h => (by cases h), ⟨_, Try.underlying19, rfl⟩, ⟨_, _, rfl, rfl, rfl, rfl, rfl⟩, rfl, rfl⟩
theorem td21_ok : TDOk Try.prog 21 td21 := ⟨fun ks h => (by cases h), ⟨_, Try.underlying21, rfl⟩, ⟨_, _, rfl, rfl, rfl, rfl, rfl⟩, rfl, rfl⟩
theorem td22_ok : TDOk Try.prog 22 td22 := ⟨fun ks h => (by cases h), ⟨_, Try.underlying22, rfl⟩, ⟨_, _, rfl, rfl, rfl, rfl, rfl⟩, rfl, rfl⟩
theorem td23_ok : TDOk Try.prog 23 td23 := ⟨fun ks h => (by cases h), ⟨_, Try.underlying23, rfl⟩, ⟨_, _, rfl, rfl, rfl, rfl, rfl⟩, rfl, rfl⟩
theorem td24_ok : TDOk Try.prog 24 td24 := ⟨fun ks h => (by cases h), ⟨_, Try.underlying24, rfl⟩, ⟨_, _, rfl, rfl, rfl, rfl, rfl⟩, rfl, rfl⟩
theorem td25_ok : TDOk Try.prog 25 td25 := ⟨fun ks h => (by cases h), ⟨_, Try.underlying25, rfl⟩, ⟨_, _, rfl, rfl, rfl, rfl, rfl⟩, rfl, rfl⟩
theorem td26_ok : TDOk Try.prog 26 td26 := ⟨fun ks h => (by cases h), ⟨_, Try.underlying26, rfl⟩, ⟨_, _, rfl, rfl, rfl, rfl, rfl⟩, rfl, rfl⟩
theorem td27_ok : TDOk Try.prog 27 td27 := ⟨fun ks h => (by cases h), ⟨_, Try.underlying27, rfl⟩, ⟨_, _, rfl, rfl, rfl, rfl, rfl⟩, rfl, rfl⟩
theorem td28_ok : TDOk Try.prog 28 td28 := ⟨fun ks h => (by cases h), ⟨_, Try.underlying28, rfl⟩, ⟨_, _, rfl, rfl, rfl, rfl, rfl⟩, rfl, rfl⟩
theorem td29_ok : TDOk Try.prog 29 td29 := ⟨fun ks h => (by cases h), ⟨_, Try.underlying29, rfl⟩, ⟨_, _, rfl, rfl, rfl, rfl, rfl⟩, rfl, rfl⟩
theorem td31_ok : TDOk Try.prog 31 td31 := ⟨fun ks h => (by cases h), ⟨_, Try.underlying31, rfl⟩, ⟨_, _, rfl, rfl, rfl, rfl, rfl⟩, rfl, rfl⟩
theorem td32_ok : TDOk Try.prog 32 td32 := ⟨fun ks h => (by cases h), ⟨_, Try.underlying32, rfl⟩, ⟨_, _, rfl, rfl, rfl, rfl, rfl⟩, rfl, rfl⟩
theorem td33_ok : TDOk Try.prog 33 td33 := ⟨fun ks h => (by cases h), ⟨_, Try.underlying33, rfl⟩, ⟨_, _, rfl, rfl, rfl, rfl, rfl⟩, rfl, rfl⟩
theorem td34_ok : TDOk Try.prog 34 td34 := ⟨fun ks h => (by cases h), ⟨_, Try.underlying34, rfl⟩, ⟨_, _, rfl, rfl, rfl, rfl, rfl⟩, rfl, rfl⟩
theorem td35_ok : TDOk Try.prog 35 td35 := ⟨fun ks h => (by cases h), ⟨_, Try.underlying35, rfl⟩, ⟨_, _, rfl, rfl, rfl, rfl, rfl⟩, rfl, rfl⟩
theorem td36_ok : TDOk Try.prog 36 td36 := ⟨fun ks h => (by cases h), ⟨_, Try.underlying36, rfl⟩, ⟨_, _, rfl, rfl, rfl, rfl, rfl⟩, rfl, rfl⟩
theorem td37_ok : TDOk Try.prog 37 td37 := ⟨fun ks h => (by cases h), ⟨_, Try.underlying37, rfl⟩, ⟨_, _, rfl, rfl, rfl, rfl, rfl⟩, rfl, rfl⟩
theorem td38_ok : TDOk Try.prog 38 td38 := ⟨fun ks h => (by cases h), ⟨_, Try.underlying38, rfl⟩, ⟨_, _, rfl, rfl, rfl, rfl, rfl⟩, rfl, rfl⟩
theorem td39_ok : TDOk Try.prog 39 td39 := ⟨fun ks h => (by cases h), ⟨_, Try.underlying39, rfl⟩, ⟨_, _, rfl, rfl, rfl, rfl, rfl⟩, rfl, rfl⟩
theorem td40_ok : TDOk Try.prog 40 td40 := ⟨fun ks h => (by cases h), ⟨_, Try.underlying40, rfl⟩, ⟨_, _, rfl, rfl, rfl, rfl, rfl⟩, rfl, rfl⟩
theorem td42_ok : TDOk Try.prog 42 td42 := ⟨fun ks h => (by cases h), ⟨_, Try.underlying42, rfl⟩, ⟨_, _, rfl, rfl, rfl, rfl, rfl⟩, rfl, rfl⟩
theorem td43_ok : TDOk Try.prog 43 td43 := ⟨fun ks h => (by cases h), ⟨_, Try.underlying43, rfl⟩, ⟨_, _, rfl, rfl, rfl, rfl, rfl⟩, rfl, rfl⟩
theorem td44_ok : TDOk Try.prog 44 td44 := ⟨fun ks h => (by cases h), ⟨_, Try.underlying44, rfl⟩, ⟨_, _, rfl, rfl, rfl, rfl, rfl⟩, rfl, rfl⟩
theorem td45_ok : TDOk Try.prog 45 td45 := ⟨fun ks h => (by cases h), ⟨_, Try.underlying45, rfl⟩, ⟨_, _, rfl, rfl, rfl, rfl, rfl⟩, rfl, rfl⟩
theorem td46_ok : TDOk Try.prog 46 td46 := ⟨fun ks h => (by cases h), ⟨_, Try.underlying46, rfl⟩, ⟨_, _, rfl, rfl, rfl, rfl, rfl⟩, rfl, rfl⟩
theorem td47_ok : TDOk Try.prog 47 td47 := ⟨fun ks h => (by cases h), ⟨_, Try.underlying47, rfl⟩, ⟨_, _, rfl, rfl, rfl, rfl, rfl⟩, rfl, rfl⟩
theorem td49_ok : TDOk Try.prog 49 td49 := ⟨fun ks h => (by cases h), ⟨_, Try.underlying49, rfl⟩, ⟨_, _, rfl, rfl, rfl, rfl, rfl⟩, rfl, rfl⟩
theorem td50_ok : TDOk Try.prog 50 td50 := ⟨fun ks h => (by cases h; exact ⟨by kernel_rfl, by kernel_rfl, _, Try.underlying50, by kernel_rfl⟩), ⟨_, Try.underlying50, rfl⟩, ⟨_, _, rfl, rfl, rfl, rfl, rfl⟩, rfl, rfl⟩
theorem td51_ok : TDOk Try.prog 51 td51 := ⟨fun ks h => (by cases h; exact ⟨by kernel_rfl, by kernel_rfl, _, Try.underlying51, by kernel_rfl⟩), ⟨_, Try.underlying51, rfl⟩, ⟨_, _, rfl, rfl, rfl, rfl, rfl⟩, rfl, rfl⟩
theorem td52_ok : TDOk Try.prog 52 td52 := ⟨fun ks h => (by cases h), ⟨_, Try.underlying52, rfl⟩, ⟨_, _, rfl, rfl, rfl, rfl, rfl⟩, rfl, rfl⟩
theorem td53_ok : TDOk Try.prog 53 td53 := ⟨fun ks h => (by cases h), ⟨_, Try.underlying53, rfl⟩, ⟨_, _, rfl, rfl, rfl, rfl, rfl⟩, rfl, rfl⟩
theorem td55_ok : TDOk Try.prog 55 td55 := ⟨fun ks h => (by cases h), ⟨_, Try.underlying55, rfl⟩, ⟨_, _, rfl, rfl, rfl, rfl, rfl⟩, rfl, rfl⟩
theorem td56_ok : TDOk Try.prog 56 td56 := ⟨fun ks h => (by cases h), ⟨_, Try.underlying56, rfl⟩, ⟨_, _, rfl, rfl, rfl, rfl, rfl⟩, rfl, rfl⟩
theorem td57_ok : TDOk Try.prog 57 td57 := ⟨fun ks h => (by cases h), ⟨_, Try.underlying57, rfl⟩, ⟨_, _, rfl, rfl, rfl, rfl, rfl⟩, rfl, rfl⟩
theorem td58_ok : TDOk Try.prog 58 td58 := ⟨fun ks h => (by cases h), ⟨_, Try.underlying58, rfl⟩, ⟨_, _, rfl, rfl, rfl, rfl, rfl⟩, rfl, rfl⟩
theorem td59_ok : TDOk Try.prog 59 td59 := ⟨fun ks h => (by cases h), ⟨_, Try.underlying59, rfl⟩, ⟨_, _, rfl, rfl, rfl, rfl, rfl⟩, rfl, rfl⟩
theorem td60_ok : TDOk Try.prog 60 td60 := ⟨fun ks h => (by cases h), ⟨_, Try.underlying60, rfl⟩, ⟨_, _, rfl, rfl, rfl, rfl, rfl⟩, rfl, rfl⟩
theorem td61_ok : TDOk Try.prog 61 td61 := ⟨fun ks h => (by cases h), ⟨_, Try.underlying61, rfl⟩, ⟨_, _, rfl, rfl, rfl, rfl, rfl⟩, rfl, rfl⟩
theorem td62_ok : TDOk Try.prog 62 td62 := ⟨fun ks h => (by cases h), ⟨_, Try.underlying62, rfl⟩, ⟨_, _, rfl, rfl, rfl, rfl, rfl⟩, rfl, rfl⟩
theorem td63_ok : TDOk Try.prog 63 td63 := ⟨fun ks h => (by cases h), ⟨_, Try.underlying63, rfl⟩, ⟨_, _, rfl, rfl, rfl, rfl, rfl⟩, rfl, rfl⟩
theorem td64_ok : TDOk Try.prog 64 td64 := ⟨fun ks h => (by cases h), ⟨_, Try.underlying64, rfl⟩, ⟨_, _, rfl, rfl, rfl, rfl, rfl⟩, rfl, rfl⟩
theorem td65_ok : TDOk Try.prog 65 td65 := ⟨fun ks h => (by cases h), ⟨_, Try.underlying65, rfl⟩, ⟨_, _, rfl, rfl, rfl, rfl, rfl⟩, rfl, rfl⟩
theorem td66_ok : TDOk Try.prog 66 td66 := ⟨fun ks h => (by cases h), ⟨_, Try.underlying66, rfl⟩, ⟨_, _, rfl, rfl, rfl, rfl, rfl⟩, rfl, rfl⟩
theorem td67_ok : TDOk Try.prog 67 td67 := ⟨fun ks h => (by cases h), ⟨_, Try.underlying67, rfl⟩, ⟨_, _, rfl, rfl, rfl, rfl, rfl⟩, rfl, rfl⟩
theorem td68_ok : TDOk Try.prog 68 td68 := ⟨fun ks h => (by cases h), ⟨_, Try.underlying68, rfl⟩, ⟨_, _, rfl, rfl, rfl, rfl, rfl⟩, rfl, rfl⟩
theorem td69_ok : TDOk Try.prog 69 td69 := ⟨fun ks h => (by cases h), ⟨_, Try.underlying69, rfl⟩, ⟨_, _, rfl, rfl, rfl, rfl, rfl⟩, rfl, rfl⟩
theorem td70_ok : TDOk Try.prog 70 td70 := ⟨fun ks h => (by cases h), ⟨_, Try.underlying70, rfl⟩, ⟨_, _, rfl, rfl, rfl, rfl, rfl⟩, rfl, rfl⟩
theorem td71_ok : TDOk Try.prog 71 td71 := ⟨fun ks h => (by cases h), ⟨_, Try.underlying71, rfl⟩, ⟨_, _, rfl, rfl, rfl, rfl, rfl⟩, rfl, rfl⟩
theorem td73_ok : TDOk Try.prog 73 td73 := ⟨fun ks h => (by cases h), ⟨_, Try.underlying73, rfl⟩, ⟨_, _, rfl, rfl, rfl, rfl, rfl⟩, rfl, rfl⟩
theorem td74_ok : TDOk Try.prog 74 td74 := ⟨fun ks h => (by cases h), ⟨_, Try.underlying74, rfl⟩, ⟨_, _, rfl, rfl, rfl, rfl, rfl⟩, rfl, rfl⟩
theorem td75_ok : TDOk Try.prog 75 td75 := ⟨fun ks h => (by cases h), ⟨_, Try.underlying75, rfl⟩, ⟨_, _, rfl, rfl, rfl, rfl, rfl⟩, rfl, rfl⟩
theorem td76_ok : TDOk Try.prog 76 td76 := ⟨fun ks h => (by cases h), ⟨_, Try.underlying76, rfl⟩, ⟨_, _, rfl, rfl, rfl, rfl, rfl⟩, rfl, rfl⟩
theorem td77_ok : TDOk Try.prog 77 td77 := ⟨fun ks h => (by cases h), ⟨_, Try.underlying77, rfl⟩, ⟨_, _, rfl, rfl, rfl, rfl, rfl⟩, rfl, rfl⟩
theorem td78_ok : TDOk Try.prog 78 td78 := ⟨fun ks h => (by cases h), ⟨_, Try.underlying78, rfl⟩, ⟨_, _, rfl, rfl, rfl, rfl, rfl⟩, rfl, rfl⟩
theorem td79_ok : TDOk Try.prog 79 td79 := ⟨fun ks h => (by cases h), ⟨_, Try.underlying79, rfl⟩, ⟨_, _, rfl, rfl, rfl, rfl, rfl⟩, rfl, rfl⟩
theorem td80_ok : TDOk Try.prog 80 td80 := ⟨fun ks h => (by cases h), ⟨_, Try.underlying80, rfl⟩, ⟨_, _, rfl, rfl, rfl, rfl, rfl⟩, rfl, rfl⟩
theorem td81_ok : TDOk Try.prog 81 td81 := ⟨fun ks h => (by cases h), ⟨_, Try.underlying81, rfl⟩, ⟨_, _, rfl, rfl, rfl, rfl, rfl⟩, rfl, rfl⟩
theorem td82_ok : TDOk Try.prog 82 td82 := ⟨fun ks h => (by cases h), ⟨_, Try.underlying82, rfl⟩, ⟨_, _, rfl, rfl, rfl, rfl, rfl⟩, rfl, rfl⟩
theorem td83_ok : TDOk Try.prog 83 td83 := ⟨fun ks h => (by cases h), ⟨_, Try.underlying83, rfl⟩, ⟨_, _, rfl, rfl, rfl, rfl, rfl⟩, rfl, rfl⟩
theorem td84_ok : TDOk Try.prog 84 td84 := ⟨fun ks h => (by cases h), ⟨_, Try.underlying84, rfl⟩, ⟨_, _, rfl, rfl, rfl, rfl, rfl⟩, rfl, rfl⟩
theorem td86_ok : TDOk Try.prog 86 td86 := ⟨fun ks h => (by cases h), ⟨_, Try.underlying86, rfl⟩, ⟨_, _, rfl, rfl, rfl, rfl, rfl⟩, rfl, rfl⟩
theorem td87_ok : TDOk Try.prog 87 td87 := ⟨fun ks h => (by cases h), ⟨_, Try.underlying87, rfl⟩, ⟨_, _, rfl, rfl, rfl, rfl, rfl⟩, rfl, rfl⟩
theorem td88_ok : TDOk Try.prog 88 td88 := ⟨fun ks h => (by cases h), ⟨_, Try.underlying88, rfl⟩, ⟨_, _, rfl, rfl, rfl, rfl, rfl⟩, rfl, rfl⟩
theorem td89_ok : TDOk Try.prog 89 td89 := ⟨fun ks h => (by cases h), ⟨_, Try.underlying89, rfl⟩, ⟨_, _, rfl, rfl, rfl, rfl, rfl⟩, rfl, rfl⟩
theorem td90_ok : TDOk Try.prog 90 td90 := ⟨fun ks h => (by cases h), ⟨_, Try.underlying90, rfl⟩, ⟨_, _, rfl, rfl, rfl, rfl, rfl⟩, rfl, rfl⟩
theorem td91_ok : TDOk Try.prog 91 td91 := ⟨fun ks h => (by cases h), ⟨_, Try.underlying91, rfl⟩, ⟨_, _, rfl, rfl, rfl, rfl, rfl⟩, rfl, rfl⟩
theorem td92_ok : TDOk Try.prog 92 td92 := ⟨fun ks h => (by cases h), ⟨_, Try.underlying92, rfl⟩, ⟨_, _, rfl, rfl, rfl, rfl, rfl⟩, rfl, rfl⟩
theorem td93_ok : TDOk Try.prog 93 td93 := ⟨fun ks h => (by cases h), ⟨_, Try.underlying93, rfl⟩, ⟨_, _, rfl, rfl, rfl, rfl, rfl⟩, rfl, rfl⟩
theorem td94_ok : TDOk Try.prog 94 td94 := ⟨fun ks h => (by cases h), ⟨_, Try.underlying94, rfl⟩, ⟨_, _, rfl, rfl, rfl, rfl, rfl⟩, rfl, rfl⟩
theorem td95_ok : TDOk Try.prog 95 td95 := ⟨fun ks h => (by cases h), ⟨_, Try.underlying95, rfl⟩, ⟨_, _, rfl, rfl, rfl, rfl, rfl⟩, rfl, rfl⟩
theorem td96_ok : TDOk Try.prog 96 td96 := ⟨fun ks h => (by cases h), ⟨_, Try.underlying96, rfl⟩, ⟨_, _, rfl, rfl, rfl, rfl, rfl⟩, rfl, rfl⟩
theorem td97_ok : TDOk Try.prog 97 td97 := ⟨fun ks h => (by cases h), ⟨_, Try.underlying97, rfl⟩, ⟨_, _, rfl, rfl, rfl, rfl, rfl⟩, rfl, rfl⟩
theorem td98_ok : TDOk Try.prog 98 td98 := ⟨fun ks h => (by cases h), ⟨_, Try.underlying98, rfl⟩, ⟨_, _, rfl, rfl, rfl, rfl, rfl⟩, rfl, rfl⟩
theorem td99_ok : TDOk Try.prog 99 td99 := ⟨fun ks h => (by cases h), ⟨_, Try.underlying99, rfl⟩, ⟨_, _, rfl, rfl, rfl, rfl, rfl⟩, rfl, rfl⟩
theorem td100_ok : TDOk Try.prog 100 td100 := ⟨fun ks h => (by cases h), ⟨_, Try.underlying100, rfl⟩, ⟨_, _, rfl, rfl, rfl, rfl, rfl⟩, rfl, rfl⟩
theorem td101_ok : TDOk Try.prog 101 td101 := ⟨fun ks h => (by cases h), ⟨_, Try.underlying101, rfl⟩, ⟨_, _, rfl, rfl, rfl, rfl, rfl⟩, rfl, rfl⟩
theorem td102_ok : TDOk Try.prog 102 td102 := ⟨fun ks h => (by cases h), ⟨_, Try.underlying102, rfl⟩, ⟨_, _, rfl, rfl, rfl, rfl, rfl⟩, rfl, rfl⟩
theorem td103_ok : TDOk Try.prog 103 td103 := ⟨fun ks h => (by cases h), ⟨_, Try.underlying103, rfl⟩, ⟨_, _, rfl, rfl, rfl, rfl, rfl⟩, rfl, rfl⟩
theorem td104_ok : TDOk Try.prog 104 td104 := ⟨fun ks h => (by cases h), ⟨_, Try.underlying104, rfl⟩, ⟨_, _, rfl, rfl, rfl, rfl, rfl⟩, rfl, rfl⟩
theorem td105_ok : TDOk Try.prog 105 td105 := ⟨fun ks h => (by cases h), ⟨_, Try.underlying105, rfl⟩, ⟨_, _, rfl, rfl, rfl, rfl, rfl⟩, rfl, rfl⟩
theorem td106_ok : TDOk Try.prog 106 td106 := ⟨fun ks h => (by cases h), ⟨_, Try.underlying106, rfl⟩, ⟨_, _, rfl, rfl, rfl, rfl, rfl⟩, rfl, rfl⟩
theorem td107_ok : TDOk Try.prog 107 td107 := ⟨fun ks h => (by cases h), ⟨_, Try.underlying107, rfl⟩, ⟨_, _, rfl, rfl, rfl, rfl, rfl⟩, rfl, rfl⟩
theorem td109_ok : TDOk Try.prog 109 td109 := ⟨fun ks h => (by cases h), ⟨_, Try.underlying109, rfl⟩, ⟨_, _, rfl, rfl, rfl, rfl, rfl⟩, rfl, rfl⟩
theorem td110_ok : TDOk Try.prog 110 td110 := ⟨fun ks h => (by cases h), ⟨_, Try.underlying110, rfl⟩, ⟨_, _, rfl, rfl, rfl, rfl, rfl⟩, rfl, rfl⟩
theorem td111_ok : TDOk Try.prog 111 td111 := ⟨fun ks h => (by cases h), ⟨_, Try.underlying111, rfl⟩, ⟨_, _, rfl, rfl, rfl, rfl, rfl⟩, rfl, rfl⟩
theorem td112_ok : TDOk Try.prog 112 td112 := ⟨fun ks h => (by cases h), ⟨_, Try.underlying112, rfl⟩, ⟨_, _, rfl, rfl, rfl, rfl, rfl⟩, rfl, rfl⟩
theorem td113_ok : TDOk Try.prog 113 td113 := ⟨fun ks h => (by cases h), ⟨_, Try.underlying113, rfl⟩, ⟨_, _, rfl, rfl, rfl, rfl, rfl⟩, rfl, rfl⟩
theorem td114_ok : TDOk Try.prog 114 td114 := ⟨fun ks h => (by cases h), ⟨_, Try.underlying114, rfl⟩, ⟨_, _, rfl, rfl, rfl, rfl, rfl⟩, rfl, rfl⟩
theorem td115_ok : TDOk Try.prog 115 td115 := ⟨fun ks h => (by cases h), ⟨_, Try.underlying115, rfl⟩, ⟨_, _, rfl, rfl, rfl, rfl, rfl⟩, rfl, rfl⟩
theorem td116_ok : TDOk Try.prog 116 td116 := ⟨fun ks h => (by cases h), ⟨_, Try.underlying116, rfl⟩, ⟨_, _, rfl, rfl, rfl, rfl, rfl⟩, rfl, rfl⟩
theorem td117_ok : TDOk Try.prog 117 td117 := ⟨fun ks h => (by cases h), ⟨_, Try.underlying117, rfl⟩, ⟨_, _, rfl, rfl, rfl, rfl, rfl⟩, rfl, rfl⟩
theorem td118_ok : TDOk Try.prog 118 td118 := ⟨fun ks h => (by cases h), ⟨_, Try.underlying118, rfl⟩, ⟨_, _, rfl, rfl, rfl, rfl, rfl⟩, rfl, rfl⟩
theorem td119_ok : TDOk Try.prog 119 td119 := ⟨fun ks h => (by cases h), ⟨_, Try.underlying119, rfl⟩, ⟨_, _, rfl, rfl, rfl, rfl, rfl⟩, rfl, rfl⟩
theorem td120_ok : TDOk Try.prog 120 td120 := ⟨fun ks h => (by cases h), ⟨_, Try.underlying120, rfl⟩, ⟨_, _, rfl, rfl, rfl, rfl, rfl⟩, rfl, rfl⟩
theorem td121_ok : TDOk Try.prog 121 td121 := ⟨fun ks h => (by cases h), ⟨_, Try.underlying121, rfl⟩, ⟨_, _, rfl, rfl, rfl, rfl, rfl⟩, rfl, rfl⟩
theorem td122_ok : TDOk Try.prog 122 td122 := ⟨fun ks h => (by cases h), ⟨_, Try.underlying122, rfl⟩, ⟨_, _, rfl, rfl, rfl, rfl, rfl⟩, rfl, rfl⟩
theorem td123_ok : TDOk Try.prog 123 td123 := ⟨fun ks h => (by cases h), ⟨_, Try.underlying123, rfl⟩, ⟨_, _, rfl, rfl, rfl, rfl, rfl⟩, rfl, rfl⟩
theorem td124_ok : TDOk Try.prog 124 td124 := ⟨fun ks h => (by cases h), ⟨_, Try.underlying124, rfl⟩, ⟨_, _, rfl, rfl, rfl, rfl, rfl⟩, rfl, rfl⟩
theorem td125_ok : TDOk Try.prog 125 td125 := ⟨fun ks h => (by cases h), ⟨_, Try.underlying125, rfl⟩, ⟨_, _, rfl, rfl, rfl, rfl, rfl⟩, rfl, rfl⟩
theorem td126_ok : TDOk Try.prog 126 td126 := ⟨fun ks h => (by cases h), ⟨_, Try.underlying126, rfl⟩, ⟨_, _, rfl, rfl, rfl, rfl, rfl⟩, rfl, rfl⟩
theorem td127_ok : TDOk Try.prog 127 td127 := ⟨fun ks h => (by cases h), ⟨_, Try.underlying127, rfl⟩, ⟨_, _, rfl, rfl, rfl, rfl, rfl⟩, rfl, rfl⟩
theorem td128_ok : TDOk Try.prog 128 td128 := ⟨fun ks h => (by cases h), ⟨_, Try.underlying128, rfl⟩, ⟨_, _, rfl, rfl, rfl, rfl, rfl⟩, rfl, rfl⟩
theorem td129_ok : TDOk Try.prog 129 td129 := ⟨fun ks h => (by cases h), ⟨_, Try.underlying129, rfl⟩, ⟨_, _, rfl, rfl, rfl, rfl, rfl⟩, rfl, rfl⟩
theorem td130_ok : TDOk Try.prog 130 td130 := ⟨fun ks h => (by cases h), ⟨_, Try.underlying130, rfl⟩, ⟨_, _, rfl, rfl, rfl, rfl, rfl⟩, rfl, rfl⟩
theorem td131_ok : TDOk Try.prog 131 td131 := ⟨fun ks h => (by cases h), ⟨_, Try.underlying131, rfl⟩, ⟨_, _, rfl, rfl, rfl, rfl, rfl⟩, rfl, rfl⟩
theorem td132_ok : TDOk Try.prog 132 td132 := ⟨fun ks h => (by cases h), ⟨_, Try.underlying132, rfl⟩, ⟨_, _, rfl, rfl, rfl, rfl, rfl⟩, rfl, rfl⟩
theorem td133_ok : TDOk Try.prog 133 td133 := ⟨fun ks h => (by cases h), ⟨_, Try.underlying133, rfl⟩, ⟨_, _, rfl, rfl, rfl, rfl, rfl⟩, rfl, rfl⟩
theorem td134_ok : TDOk Try.prog 134 td134 := ⟨fun ks h => (by cases h), ⟨_, Try.underlying134, rfl⟩, ⟨_, _, rfl, rfl, rfl, rfl, rfl⟩, rfl, rfl⟩
theorem td135_ok : TDOk Try.prog 135 td135 := ⟨fun ks h => (by cases h), ⟨_, Try.underlying135, rfl⟩, ⟨_, _, rfl, rfl, rfl, rfl, rfl⟩, rfl, rfl⟩
theorem td136_ok : TDOk Try.prog 136 td136 := ⟨fun ks h => (by cases h), ⟨_, Try.underlying136, rfl⟩, ⟨_, _, rfl, rfl, rfl, rfl, rfl⟩, rfl, rfl⟩
theorem td137_ok : TDOk Try.prog 137 td137 := ⟨fun ks h => (by cases h), ⟨_, Try.underlying137, rfl⟩, ⟨_, _, rfl, rfl, rfl, rfl, rfl⟩, rfl, rfl⟩
theorem td138_ok : TDOk Try.prog 138 td138 := ⟨fun ks h => (by cases h), ⟨_, Try.underlying138, rfl⟩, ⟨_, _, rfl, rfl, rfl, rfl, rfl⟩, rfl, rfl⟩
theorem td142_ok : TDOk Try.prog 142 td142 := ⟨fun ks h => (by cases h), ⟨_, Try.underlying142, rfl⟩, ⟨_, _, rfl, rfl, rfl, rfl, rfl⟩, rfl, rfl⟩
theorem td143_ok : TDOk Try.prog 143 td143 := ⟨fun ks h => (by cases h), ⟨_, Try.underlying143, rfl⟩, ⟨_, _, rfl, rfl, rfl, rfl, rfl⟩, rfl, rfl⟩
theorem td144_ok : TDOk Try.prog 144 td144 := ⟨fun ks h => (by cases h), ⟨_, Try.underlying144, rfl⟩, ⟨_, _, rfl, rfl, rfl, rfl, rfl⟩, rfl, rfl⟩
theorem td145_ok : TDOk Try.prog 145 td145 := ⟨fun ks h => (by cases h), ⟨_, Try.underlying145, rfl⟩, ⟨_, _, rfl, rfl, rfl, rfl, rfl⟩, rfl, rfl⟩
theorem td146_ok : TDOk Try.prog 146 td146 := ⟨fun ks h => (by cases h), ⟨_, Try.underlying146, rfl⟩, ⟨_, _, rfl, rfl, rfl, rfl, rfl⟩, rfl, rfl⟩
theorem td147_ok : TDOk Try.prog 147 td147 := ⟨fun ks h => (by cases h), ⟨_, Try.underlying147, rfl⟩, ⟨_, _, rfl, rfl, rfl, rfl, rfl⟩, rfl, rfl⟩
theorem td148_ok : TDOk Try.prog 148 td148 := ⟨fun ks h => (by cases h), ⟨_, Try.underlying148, rfl⟩, ⟨_, _, rfl, rfl, rfl, rfl, rfl⟩, rfl, rfl⟩
theorem td149_ok : TDOk Try.prog 149 td149 := ⟨fun ks h => (by cases h), ⟨_, Try.underlying149, rfl⟩, ⟨_, _, rfl, rfl, rfl, rfl, rfl⟩, rfl, rfl⟩
theorem td150_ok : TDOk Try.prog 150 td150 := ⟨fun ks h => (by cases h), ⟨_, Try.underlying150, rfl⟩, ⟨_, _, rfl, rfl, rfl, rfl, rfl⟩, rfl, rfl⟩
theorem tab_ok : TOk Try.prog tab := Tab.ok (by
  simp only [tab, TabAll]
  exact ⟨td1_ok, td2_ok, td3_ok, td4_ok, td5_ok, td6_ok, td7_ok, td8_ok, td9_ok, td10_ok, td11_ok, td12_ok, td13_ok, td14_ok, td15_ok, td16_ok, td17_ok, td18_ok, td19_ok, td21_ok, td22_ok, td23_ok, td24_ok, td25_ok, td26_ok, td27_ok, td28_ok, td29_ok, td31_ok, td32_ok, td33_ok, td34_ok, td35_ok, td36_ok, td37_ok, td38_ok, td39_ok, td40_ok, td42_ok, td43_ok, td44_ok, td45_ok, td46_ok, td47_ok, td49_ok, td50_ok, td51_ok, td52_ok, td53_ok, td55_ok, td56_ok, td57_ok, td58_ok, td59_ok, td60_ok, td61_ok, td62_ok, td63_ok, td64_ok, td65_ok, td66_ok, td67_ok, td68_ok, td69_ok, td70_ok, td71_ok, td73_ok, td74_ok, td75_ok, td76_ok, td77_ok, td78_ok, td79_ok, td80_ok, td81_ok, td82_ok, td83_ok, td84_ok, td86_ok, td87_ok, td88_ok, td89_ok, td90_ok, td91_ok, td92_ok, td93_ok, td94_ok, td95_ok, td96_ok, td97_ok, td98_ok, td99_ok, td100_ok, td101_ok, td102_ok, td103_ok, td104_ok, td105_ok, td106_ok, td107_ok, td109_ok, td110_ok, td111_ok, td112_ok, td113_ok, td114_ok, td115_ok, td116_ok, td117_ok, td118_ok, td119_ok, td120_ok, td121_ok, td122_ok, td123_ok, td124_ok, td125_ok, td126_ok, td127_ok, td128_ok, td129_ok, td130_ok, td131_ok, td132_ok, td133_ok, td134_ok, td135_ok, td136_ok, td137_ok, td138_ok, td142_ok, td143_ok, td144_ok, td145_ok, td146_ok, td147_ok, td148_ok, td149_ok, td150_ok, trivial⟩)
theorem mixed : Try.prog.follows .mixedOrders = true := Checked.mixed Try.checked
end Go.Proofs.Ytgigpjkdfhhahaa
