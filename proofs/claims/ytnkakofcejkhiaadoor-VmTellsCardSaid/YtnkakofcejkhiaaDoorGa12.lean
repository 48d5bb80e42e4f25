/- Closed facts of the program: types, fields, functions. -/
import Derived.Test.YtnkakofcejkhiaaDoorProg
import Derived.KernelRfl
import Derived.Test.YtnkakofcejkhiaaDoorGa11
set_option linter.unusedSimpArgs false
set_option linter.unusedVariables false
namespace Go.Proofs.YtnkakofcejkhiaaDoor
open Go.RowKit Go.Lib
@[simp] theorem tab_t2 : tinfo Tryd.prog 2 = some (false, 1) := by kernel_rfl
@[simp] theorem tab_i2 : intk Tryd.prog 2 = some .i64 := by kernel_rfl
@[simp] theorem tab_x2 : zel Tryd.prog 2 = some (.v (.int .i64 0)) := by kernel_rfl
@[simp] theorem tab_t3 : tinfo Tryd.prog 3 = some (false, 1) := by kernel_rfl
@[simp] theorem tab_i3 : intk Tryd.prog 3 = some .i64 := by kernel_rfl
@[simp] theorem tab_x3 : zel Tryd.prog 3 = some (.v (.int .i64 0)) := by kernel_rfl
@[simp] theorem tab_z3 : zl Tryd.prog 3 = some [.v (.int .i64 0)] := by kernel_rfl
@[simp] theorem tab_t4 : tinfo Tryd.prog 4 = some (false, 1) := by kernel_rfl
@[simp] theorem tab_k4 : fkind Tryd.prog 4 = some 1 := by kernel_rfl
@[simp] theorem tab_x4 : zel Tryd.prog 4 = some (.v (.bool false)) := by kernel_rfl
@[simp] theorem tab_z4 : zl Tryd.prog 4 = some [.v (.bool false)] := by kernel_rfl
@[simp] theorem tab_t5 : tinfo Tryd.prog 5 = some (false, 1) := by kernel_rfl
@[simp] theorem tab_i5 : intk Tryd.prog 5 = some .u8 := by kernel_rfl
@[simp] theorem tab_x5 : zel Tryd.prog 5 = some (.v (.int .u8 0)) := by kernel_rfl
@[simp] theorem tab_z5 : zl Tryd.prog 5 = some [.v (.int .u8 0)] := by kernel_rfl
@[simp] theorem tab_t6 : tinfo Tryd.prog 6 = some (false, 1) := by kernel_rfl
@[simp] theorem tab_i6 : intk Tryd.prog 6 = some .u8 := by kernel_rfl
@[simp] theorem tab_x6 : zel Tryd.prog 6 = some (.v (.int .u8 0)) := by kernel_rfl
@[simp] theorem tab_z6 : zl Tryd.prog 6 = some [.v (.int .u8 0)] := by kernel_rfl
@[simp] theorem tab_t7 : tinfo Tryd.prog 7 = some (true, 4) := by kernel_rfl
@[simp] theorem tab_x7 : zel Tryd.prog 7 = some (.agg [.v (.int .i64 0), .v (.int .i64 0), .v (.bool false), .v (.int .u8 0)]) := by kernel_rfl
@[simp] theorem tab_z7 : zl Tryd.prog 7 = some [.v (.int .i64 0), .v (.int .i64 0), .v (.bool false), .v (.int .u8 0)] := by kernel_rfl
@[simp] theorem tab_t8 : tinfo Tryd.prog 8 = some (true, 4) := by kernel_rfl
@[simp] theorem tab_x8 : zel Tryd.prog 8 = some (.agg [.v (.int .i64 0), .v (.int .i64 0), .v (.bool false), .v (.int .u8 0)]) := by kernel_rfl
@[simp] theorem tab_z8 : zl Tryd.prog 8 = some [.v (.int .i64 0), .v (.int .i64 0), .v (.bool false), .v (.int .u8 0)] := by kernel_rfl
@[simp] theorem tab_t9 : tinfo Tryd.prog 9 = some (false, 1) := by kernel_rfl
@[simp] theorem tab_j9 : intk Tryd.prog 9 = none := by kernel_rfl
@[simp] theorem tab_x9 : zel Tryd.prog 9 = some (.v (.string ByteArray.empty)) := by kernel_rfl
@[simp] theorem tab_s9 : Tryd.prog.underlying 9 = some .string := by kernel_rfl
@[simp] theorem tab_z9 : zl Tryd.prog 9 = some [.v (.string ByteArray.empty)] := by kernel_rfl
@[simp] theorem tab_t10 : tinfo Tryd.prog 10 = some (false, 1) := by kernel_rfl
@[simp] theorem tab_j10 : intk Tryd.prog 10 = none := by kernel_rfl
@[simp] theorem tab_x10 : zel Tryd.prog 10 = some (.v (.string ByteArray.empty)) := by kernel_rfl
@[simp] theorem tab_s10 : Tryd.prog.underlying 10 = some .string := by kernel_rfl
@[simp] theorem tab_z10 : zl Tryd.prog 10 = some [.v (.string ByteArray.empty)] := by kernel_rfl
@[simp] theorem tab_t11 : tinfo Tryd.prog 11 = some (false, 1) := by kernel_rfl
@[simp] theorem tab_j11 : intk Tryd.prog 11 = none := by kernel_rfl
@[simp] theorem tab_x11 : zel Tryd.prog 11 = some (.v (.string ByteArray.empty)) := by kernel_rfl
@[simp] theorem tab_s11 : Tryd.prog.underlying 11 = some .string := by kernel_rfl
@[simp] theorem tab_z11 : zl Tryd.prog 11 = some [.v (.string ByteArray.empty)] := by kernel_rfl
@[simp] theorem tab_t12 : tinfo Tryd.prog 12 = some (false, 1) := by kernel_rfl
@[simp] theorem tab_i12 : intk Tryd.prog 12 = some .u64 := by kernel_rfl
@[simp] theorem tab_x12 : zel Tryd.prog 12 = some (.v (.int .u64 0)) := by kernel_rfl
@[simp] theorem tab_z12 : zl Tryd.prog 12 = some [.v (.int .u64 0)] := by kernel_rfl
@[simp] theorem tab_t13 : tinfo Tryd.prog 13 = some (true, 2) := by kernel_rfl
@[simp] theorem tab_x13 : zel Tryd.prog 13 = some (.agg [.v (.string ByteArray.empty), .v (.int .u64 0)]) := by kernel_rfl
@[simp] theorem tab_z13 : zl Tryd.prog 13 = some [.v (.string ByteArray.empty), .v (.int .u64 0)] := by kernel_rfl
@[simp] theorem tab_t14 : tinfo Tryd.prog 14 = some (true, 2) := by kernel_rfl
@[simp] theorem tab_x14 : zel Tryd.prog 14 = some (.agg [.v (.string ByteArray.empty), .v (.int .u64 0)]) := by kernel_rfl
@[simp] theorem tab_z14 : zl Tryd.prog 14 = some [.v (.string ByteArray.empty), .v (.int .u64 0)] := by kernel_rfl
@[simp] theorem tab_t15 : tinfo Tryd.prog 15 = some (false, 1) := by kernel_rfl
@[simp] theorem tab_x15 : zel Tryd.prog 15 = some (.v (.pointer none)) := by kernel_rfl
@[simp] theorem tab_z15 : zl Tryd.prog 15 = some [.v (.pointer none)] := by kernel_rfl
@[simp] theorem tab_t16 : tinfo Tryd.prog 16 = some (false, 1) := by kernel_rfl
@[simp] theorem tab_x16 : zel Tryd.prog 16 = some (.v (.pointer none)) := by kernel_rfl
@[simp] theorem tab_z16 : zl Tryd.prog 16 = some [.v (.pointer none)] := by kernel_rfl
@[simp] theorem tab_t17 : tinfo Tryd.prog 17 = some (false, 1) := by kernel_rfl
@[simp] theorem tab_x17 : zel Tryd.prog 17 = some (.v (.pointer none)) := by kernel_rfl
@[simp] theorem tab_z17 : zl Tryd.prog 17 = some [.v (.pointer none)] := by kernel_rfl
@[simp] theorem tab_t18 : tinfo Tryd.prog 18 = some (true, 1) := by kernel_rfl
@[simp] theorem tab_x18 : zel Tryd.prog 18 = some (.agg [.v (.pointer none)]) := by kernel_rfl
@[simp] theorem tab_z18 : zl Tryd.prog 18 = some [.v (.pointer none)] := by kernel_rfl
@[simp] theorem tab_t19 : tinfo Tryd.prog 19 = some (true, 1) := by kernel_rfl
@[simp] theorem tab_x19 : zel Tryd.prog 19 = some (.agg [.v (.pointer none)]) := by kernel_rfl
@[simp] theorem tab_z19 : zl Tryd.prog 19 = some [.v (.pointer none)] := by kernel_rfl
@[simp] theorem tab_t20 : tinfo Tryd.prog 20 = some (false, 1) := by kernel_rfl
@[simp] theorem tab_x20 : zel Tryd.prog 20 = some (.v (.nilIface)) := by kernel_rfl
@[simp] theorem tab_t21 : tinfo Tryd.prog 21 = some (false, 1) := by kernel_rfl
@[simp] theorem tab_i21 : intk Tryd.prog 21 = some .i32 := by kernel_rfl
@[simp] theorem tab_x21 : zel Tryd.prog 21 = some (.v (.int .i32 0)) := by kernel_rfl
@[simp] theorem tab_z21 : zl Tryd.prog 21 = some [.v (.int .i32 0)] := by kernel_rfl
@[simp] theorem tab_t22 : tinfo Tryd.prog 22 = some (false, 1) := by kernel_rfl
@[simp] theorem tab_e22 : einfo Tryd.prog 22 = some 68 := by kernel_rfl
@[simp] theorem tab_v22 : vinfo Tryd.prog 22 = some (68, 7, 64) := by kernel_rfl
@[simp] theorem tab_j22 : intk Tryd.prog 22 = none := by kernel_rfl
@[simp] theorem tab_x22 : zel Tryd.prog 22 = some (.v (.slice none 0 0)) := by kernel_rfl
@[simp] theorem tab_z22 : zl Tryd.prog 22 = some [.v (.slice none 0 0)] := by kernel_rfl
@[simp] theorem tab_t23 : tinfo Tryd.prog 23 = some (false, 1) := by kernel_rfl
@[simp] theorem tab_e23 : einfo Tryd.prog 23 = some 3 := by kernel_rfl
@[simp] theorem tab_v23 : vinfo Tryd.prog 23 = some (3, 1, 8) := by kernel_rfl
@[simp] theorem tab_j23 : intk Tryd.prog 23 = none := by kernel_rfl
@[simp] theorem tab_x23 : zel Tryd.prog 23 = some (.v (.slice none 0 0)) := by kernel_rfl
@[simp] theorem tab_z23 : zl Tryd.prog 23 = some [.v (.slice none 0 0)] := by kernel_rfl
@[simp] theorem tab_t24 : tinfo Tryd.prog 24 = some (true, 3) := by kernel_rfl
@[simp] theorem tab_x24 : zel Tryd.prog 24 = some (.agg [.v (.slice none 0 0), .v (.slice none 0 0), .v (.int .i64 0)]) := by kernel_rfl
@[simp] theorem tab_z24 : zl Tryd.prog 24 = some [.v (.slice none 0 0), .v (.slice none 0 0), .v (.int .i64 0)] := by kernel_rfl
@[simp] theorem tab_b24 : binfo Tryd.prog 24 = some [(0, 1), (1, 1), (2, 1)] := by kernel_rfl
@[simp] theorem tab_f24_0 : finfo Tryd.prog 24 0 = some (0, 22) := by kernel_rfl
@[simp] theorem tab_f24_1 : finfo Tryd.prog 24 1 = some (1, 23) := by kernel_rfl
@[simp] theorem tab_f24_2 : finfo Tryd.prog 24 2 = some (2, 3) := by kernel_rfl
@[simp] theorem tab_t25 : tinfo Tryd.prog 25 = some (true, 3) := by kernel_rfl
@[simp] theorem tab_x25 : zel Tryd.prog 25 = some (.agg [.v (.slice none 0 0), .v (.slice none 0 0), .v (.int .i64 0)]) := by kernel_rfl
@[simp] theorem tab_z25 : zl Tryd.prog 25 = some [.v (.slice none 0 0), .v (.slice none 0 0), .v (.int .i64 0)] := by kernel_rfl
@[simp] theorem tab_b25 : binfo Tryd.prog 25 = some [(0, 1), (1, 1), (2, 1)] := by kernel_rfl
@[simp] theorem tab_f25_0 : finfo Tryd.prog 25 0 = some (0, 22) := by kernel_rfl
@[simp] theorem tab_f25_1 : finfo Tryd.prog 25 1 = some (1, 23) := by kernel_rfl
@[simp] theorem tab_f25_2 : finfo Tryd.prog 25 2 = some (2, 3) := by kernel_rfl
@[simp] theorem tab_t26 : tinfo Tryd.prog 26 = some (false, 1) := by kernel_rfl
@[simp] theorem tab_e26 : einfo Tryd.prog 26 = some 37 := by kernel_rfl
@[simp] theorem tab_v26 : vinfo Tryd.prog 26 = some (37, 3, 40) := by kernel_rfl
@[simp] theorem tab_j26 : intk Tryd.prog 26 = none := by kernel_rfl
@[simp] theorem tab_x26 : zel Tryd.prog 26 = some (.v (.slice none 0 0)) := by kernel_rfl
@[simp] theorem tab_z26 : zl Tryd.prog 26 = some [.v (.slice none 0 0)] := by kernel_rfl
@[simp] theorem tab_t30 : tinfo Tryd.prog 30 = some (false, 1) := by kernel_rfl
@[simp] theorem tab_i30 : intk Tryd.prog 30 = some .i64 := by kernel_rfl
@[simp] theorem tab_x30 : zel Tryd.prog 30 = some (.v (.int .i64 0)) := by kernel_rfl
@[simp] theorem tab_z30 : zl Tryd.prog 30 = some [.v (.int .i64 0)] := by kernel_rfl
@[simp] theorem tab_t33 : tinfo Tryd.prog 33 = some (false, 1) := by kernel_rfl
@[simp] theorem tab_e33 : einfo Tryd.prog 33 = some 39 := by kernel_rfl
@[simp] theorem tab_v33 : vinfo Tryd.prog 33 = some (39, 3, 32) := by kernel_rfl
@[simp] theorem tab_j33 : intk Tryd.prog 33 = none := by kernel_rfl
@[simp] theorem tab_x33 : zel Tryd.prog 33 = some (.v (.slice none 0 0)) := by kernel_rfl
@[simp] theorem tab_z33 : zl Tryd.prog 33 = some [.v (.slice none 0 0)] := by kernel_rfl
@[simp] theorem tab_t36 : tinfo Tryd.prog 36 = some (true, 3) := by kernel_rfl
@[simp] theorem tab_x36 : zel Tryd.prog 36 = some (.agg [.v (.int .i64 0), .v (.slice none 0 0), .v (.int .i64 0)]) := by kernel_rfl
@[simp] theorem tab_z36 : zl Tryd.prog 36 = some [.v (.int .i64 0), .v (.slice none 0 0), .v (.int .i64 0)] := by kernel_rfl
@[simp] theorem tab_b36 : binfo Tryd.prog 36 = some [(0, 1), (1, 1), (2, 1)] := by kernel_rfl
@[simp] theorem tab_f36_0 : finfo Tryd.prog 36 0 = some (0, 3) := by kernel_rfl
@[simp] theorem tab_f36_1 : finfo Tryd.prog 36 1 = some (1, 33) := by kernel_rfl
@[simp] theorem tab_f36_2 : finfo Tryd.prog 36 2 = some (2, 3) := by kernel_rfl
@[simp] theorem tab_t37 : tinfo Tryd.prog 37 = some (true, 3) := by kernel_rfl
@[simp] theorem tab_x37 : zel Tryd.prog 37 = some (.agg [.v (.int .i64 0), .v (.slice none 0 0), .v (.int .i64 0)]) := by kernel_rfl
@[simp] theorem tab_z37 : zl Tryd.prog 37 = some [.v (.int .i64 0), .v (.slice none 0 0), .v (.int .i64 0)] := by kernel_rfl
@[simp] theorem tab_b37 : binfo Tryd.prog 37 = some [(0, 1), (1, 1), (2, 1)] := by kernel_rfl
@[simp] theorem tab_f37_0 : finfo Tryd.prog 37 0 = some (0, 3) := by kernel_rfl
@[simp] theorem tab_f37_1 : finfo Tryd.prog 37 1 = some (1, 33) := by kernel_rfl
@[simp] theorem tab_f37_2 : finfo Tryd.prog 37 2 = some (2, 3) := by kernel_rfl
@[simp] theorem tab_t38 : tinfo Tryd.prog 38 = some (true, 3) := by kernel_rfl
@[simp] theorem tab_x38 : zel Tryd.prog 38 = some (.agg [.v (.int .i64 0), .v (.int .i64 0), .v (.string ByteArray.empty)]) := by kernel_rfl
@[simp] theorem tab_z38 : zl Tryd.prog 38 = some [.v (.int .i64 0), .v (.int .i64 0), .v (.string ByteArray.empty)] := by kernel_rfl
@[simp] theorem tab_b38 : binfo Tryd.prog 38 = some [(0, 1), (1, 1), (2, 1)] := by kernel_rfl
@[simp] theorem tab_f38_0 : finfo Tryd.prog 38 0 = some (0, 3) := by kernel_rfl
@[simp] theorem tab_f38_1 : finfo Tryd.prog 38 1 = some (1, 3) := by kernel_rfl
@[simp] theorem tab_f38_2 : finfo Tryd.prog 38 2 = some (2, 9) := by kernel_rfl
@[simp] theorem tab_t39 : tinfo Tryd.prog 39 = some (true, 3) := by kernel_rfl
@[simp] theorem tab_x39 : zel Tryd.prog 39 = some (.agg [.v (.int .i64 0), .v (.int .i64 0), .v (.string ByteArray.empty)]) := by kernel_rfl
@[simp] theorem tab_z39 : zl Tryd.prog 39 = some [.v (.int .i64 0), .v (.int .i64 0), .v (.string ByteArray.empty)] := by kernel_rfl
@[simp] theorem tab_b39 : binfo Tryd.prog 39 = some [(0, 1), (1, 1), (2, 1)] := by kernel_rfl
@[simp] theorem tab_f39_0 : finfo Tryd.prog 39 0 = some (0, 3) := by kernel_rfl
@[simp] theorem tab_f39_1 : finfo Tryd.prog 39 1 = some (1, 3) := by kernel_rfl
@[simp] theorem tab_f39_2 : finfo Tryd.prog 39 2 = some (2, 9) := by kernel_rfl
@[simp] theorem tab_t46 : tinfo Tryd.prog 46 = some (false, 1) := by kernel_rfl
@[simp] theorem tab_e46 : einfo Tryd.prog 46 = some 25 := by kernel_rfl
@[simp] theorem tab_v46 : vinfo Tryd.prog 46 = some (25, 3, 56) := by kernel_rfl
@[simp] theorem tab_j46 : intk Tryd.prog 46 = none := by kernel_rfl
@[simp] theorem tab_x46 : zel Tryd.prog 46 = some (.v (.slice none 0 0)) := by kernel_rfl
@[simp] theorem tab_z46 : zl Tryd.prog 46 = some [.v (.slice none 0 0)] := by kernel_rfl
@[simp] theorem tab_t50 : tinfo Tryd.prog 50 = some (false, 1) := by kernel_rfl
@[simp] theorem tab_e50 : einfo Tryd.prog 50 = some 52 := by kernel_rfl
@[simp] theorem tab_v50 : vinfo Tryd.prog 50 = some (52, 4, 56) := by kernel_rfl
@[simp] theorem tab_j50 : intk Tryd.prog 50 = none := by kernel_rfl
@[simp] theorem tab_x50 : zel Tryd.prog 50 = some (.v (.slice none 0 0)) := by kernel_rfl
@[simp] theorem tab_z50 : zl Tryd.prog 50 = some [.v (.slice none 0 0)] := by kernel_rfl
@[simp] theorem tab_t51 : tinfo Tryd.prog 51 = some (true, 4) := by kernel_rfl
@[simp] theorem tab_x51 : zel Tryd.prog 51 = some (.agg [.v (.int .i64 0), .v (.int .i64 0), .v (.string ByteArray.empty), .v (.slice none 0 0)]) := by kernel_rfl
@[simp] theorem tab_z51 : zl Tryd.prog 51 = some [.v (.int .i64 0), .v (.int .i64 0), .v (.string ByteArray.empty), .v (.slice none 0 0)] := by kernel_rfl
@[simp] theorem tab_b51 : binfo Tryd.prog 51 = some [(0, 1), (1, 1), (2, 1), (3, 1)] := by kernel_rfl
@[simp] theorem tab_f51_0 : finfo Tryd.prog 51 0 = some (0, 3) := by kernel_rfl
@[simp] theorem tab_f51_1 : finfo Tryd.prog 51 1 = some (1, 3) := by kernel_rfl
@[simp] theorem tab_f51_2 : finfo Tryd.prog 51 2 = some (2, 9) := by kernel_rfl
@[simp] theorem tab_f51_3 : finfo Tryd.prog 51 3 = some (3, 50) := by kernel_rfl
@[simp] theorem tab_t52 : tinfo Tryd.prog 52 = some (true, 4) := by kernel_rfl
@[simp] theorem tab_x52 : zel Tryd.prog 52 = some (.agg [.v (.int .i64 0), .v (.int .i64 0), .v (.string ByteArray.empty), .v (.slice none 0 0)]) := by kernel_rfl
@[simp] theorem tab_z52 : zl Tryd.prog 52 = some [.v (.int .i64 0), .v (.int .i64 0), .v (.string ByteArray.empty), .v (.slice none 0 0)] := by kernel_rfl
@[simp] theorem tab_b52 : binfo Tryd.prog 52 = some [(0, 1), (1, 1), (2, 1), (3, 1)] := by kernel_rfl
@[simp] theorem tab_f52_0 : finfo Tryd.prog 52 0 = some (0, 3) := by kernel_rfl
@[simp] theorem tab_f52_1 : finfo Tryd.prog 52 1 = some (1, 3) := by kernel_rfl
@[simp] theorem tab_f52_2 : finfo Tryd.prog 52 2 = some (2, 9) := by kernel_rfl
@[simp] theorem tab_f52_3 : finfo Tryd.prog 52 3 = some (3, 50) := by kernel_rfl
@[simp] theorem tab_t61 : tinfo Tryd.prog 61 = some (false, 1) := by kernel_rfl
@[simp] theorem tab_e61 : einfo Tryd.prog 61 = some 90 := by kernel_rfl
@[simp] theorem tab_v61 : vinfo Tryd.prog 61 = some (90, 7, 104) := by kernel_rfl
@[simp] theorem tab_j61 : intk Tryd.prog 61 = none := by kernel_rfl
@[simp] theorem tab_x61 : zel Tryd.prog 61 = some (.v (.slice none 0 0)) := by kernel_rfl
@[simp] theorem tab_z61 : zl Tryd.prog 61 = some [.v (.slice none 0 0)] := by kernel_rfl
@[simp] theorem tab_t67 : tinfo Tryd.prog 67 = some (true, 7) := by kernel_rfl
@[simp] theorem tab_x67 : zel Tryd.prog 67 = some (.agg [.v (.int .i64 0), .v (.int .i64 0), .v (.int .i64 0), .v (.int .i64 0), .v (.int .i64 0), .v (.int .i64 0), .v (.string ByteArray.empty)]) := by kernel_rfl
@[simp] theorem tab_z67 : zl Tryd.prog 67 = some [.v (.int .i64 0), .v (.int .i64 0), .v (.int .i64 0), .v (.int .i64 0), .v (.int .i64 0), .v (.int .i64 0), .v (.string ByteArray.empty)] := by kernel_rfl
@[simp] theorem tab_b67 : binfo Tryd.prog 67 = some [(0, 1), (1, 1), (2, 1), (3, 1), (4, 1), (5, 1), (6, 1)] := by kernel_rfl
@[simp] theorem tab_f67_0 : finfo Tryd.prog 67 0 = some (0, 3) := by kernel_rfl
@[simp] theorem tab_f67_1 : finfo Tryd.prog 67 1 = some (1, 3) := by kernel_rfl
@[simp] theorem tab_f67_2 : finfo Tryd.prog 67 2 = some (2, 3) := by kernel_rfl
@[simp] theorem tab_f67_3 : finfo Tryd.prog 67 3 = some (3, 3) := by kernel_rfl
@[simp] theorem tab_f67_4 : finfo Tryd.prog 67 4 = some (4, 3) := by kernel_rfl
@[simp] theorem tab_f67_5 : finfo Tryd.prog 67 5 = some (5, 3) := by kernel_rfl
@[simp] theorem tab_f67_6 : finfo Tryd.prog 67 6 = some (6, 9) := by kernel_rfl
@[simp] theorem tab_t68 : tinfo Tryd.prog 68 = some (true, 7) := by kernel_rfl
@[simp] theorem tab_x68 : zel Tryd.prog 68 = some (.agg [.v (.int .i64 0), .v (.int .i64 0), .v (.int .i64 0), .v (.int .i64 0), .v (.int .i64 0), .v (.int .i64 0), .v (.string ByteArray.empty)]) := by kernel_rfl
@[simp] theorem tab_z68 : zl Tryd.prog 68 = some [.v (.int .i64 0), .v (.int .i64 0), .v (.int .i64 0), .v (.int .i64 0), .v (.int .i64 0), .v (.int .i64 0), .v (.string ByteArray.empty)] := by kernel_rfl
@[simp] theorem tab_b68 : binfo Tryd.prog 68 = some [(0, 1), (1, 1), (2, 1), (3, 1), (4, 1), (5, 1), (6, 1)] := by kernel_rfl
@[simp] theorem tab_f68_0 : finfo Tryd.prog 68 0 = some (0, 3) := by kernel_rfl
@[simp] theorem tab_f68_1 : finfo Tryd.prog 68 1 = some (1, 3) := by kernel_rfl
@[simp] theorem tab_f68_2 : finfo Tryd.prog 68 2 = some (2, 3) := by kernel_rfl
@[simp] theorem tab_f68_3 : finfo Tryd.prog 68 3 = some (3, 3) := by kernel_rfl
@[simp] theorem tab_f68_4 : finfo Tryd.prog 68 4 = some (4, 3) := by kernel_rfl
@[simp] theorem tab_f68_5 : finfo Tryd.prog 68 5 = some (5, 3) := by kernel_rfl
@[simp] theorem tab_f68_6 : finfo Tryd.prog 68 6 = some (6, 9) := by kernel_rfl
@[simp] theorem tab_t73 : tinfo Tryd.prog 73 = some (false, 1) := by kernel_rfl
@[simp] theorem tab_e73 : einfo Tryd.prog 73 = some 4 := by kernel_rfl
@[simp] theorem tab_v73 : vinfo Tryd.prog 73 = some (4, 1, 1) := by kernel_rfl
@[simp] theorem tab_j73 : intk Tryd.prog 73 = none := by kernel_rfl
@[simp] theorem tab_x73 : zel Tryd.prog 73 = some (.v (.slice none 0 0)) := by kernel_rfl
@[simp] theorem tab_z73 : zl Tryd.prog 73 = some [.v (.slice none 0 0)] := by kernel_rfl
@[simp] theorem tab_t80 : tinfo Tryd.prog 80 = some (false, 1) := by kernel_rfl
@[simp] theorem tab_e80 : einfo Tryd.prog 80 = some 23 := by kernel_rfl
@[simp] theorem tab_v80 : vinfo Tryd.prog 80 = some (23, 1, 24) := by kernel_rfl
@[simp] theorem tab_j80 : intk Tryd.prog 80 = none := by kernel_rfl
@[simp] theorem tab_x80 : zel Tryd.prog 80 = some (.v (.slice none 0 0)) := by kernel_rfl
@[simp] theorem tab_z80 : zl Tryd.prog 80 = some [.v (.slice none 0 0)] := by kernel_rfl
@[simp] theorem tab_t83 : tinfo Tryd.prog 83 = some (false, 1) := by kernel_rfl
@[simp] theorem tab_x83 : zel Tryd.prog 83 = some (.v (.pointer none)) := by kernel_rfl
@[simp] theorem tab_z83 : zl Tryd.prog 83 = some [.v (.pointer none)] := by kernel_rfl
@[simp] theorem tab_t84 : tinfo Tryd.prog 84 = some (false, 1) := by kernel_rfl
@[simp] theorem tab_e84 : einfo Tryd.prog 84 = some 83 := by kernel_rfl
@[simp] theorem tab_v84 : vinfo Tryd.prog 84 = some (83, 1, 8) := by kernel_rfl
@[simp] theorem tab_j84 : intk Tryd.prog 84 = none := by kernel_rfl
@[simp] theorem tab_x84 : zel Tryd.prog 84 = some (.v (.slice none 0 0)) := by kernel_rfl
@[simp] theorem tab_z84 : zl Tryd.prog 84 = some [.v (.slice none 0 0)] := by kernel_rfl
@[simp] theorem tab_t89 : tinfo Tryd.prog 89 = some (true, 7) := by kernel_rfl
@[simp] theorem tab_x89 : zel Tryd.prog 89 = some (.agg [.v (.string ByteArray.empty), .v (.slice none 0 0), .v (.int .i64 0), .v (.int .i64 0), .v (.int .i64 0), .v (.string ByteArray.empty), .v (.slice none 0 0)]) := by kernel_rfl
@[simp] theorem tab_z89 : zl Tryd.prog 89 = some [.v (.string ByteArray.empty), .v (.slice none 0 0), .v (.int .i64 0), .v (.int .i64 0), .v (.int .i64 0), .v (.string ByteArray.empty), .v (.slice none 0 0)] := by kernel_rfl
@[simp] theorem tab_b89 : binfo Tryd.prog 89 = some [(0, 1), (1, 1), (2, 1), (3, 4)] := by kernel_rfl
@[simp] theorem tab_f89_0 : finfo Tryd.prog 89 0 = some (0, 9) := by kernel_rfl
@[simp] theorem tab_f89_1 : finfo Tryd.prog 89 1 = some (1, 23) := by kernel_rfl
@[simp] theorem tab_f89_2 : finfo Tryd.prog 89 2 = some (2, 3) := by kernel_rfl
@[simp] theorem tab_f89_3 : finfo Tryd.prog 89 3 = some (3, 52) := by kernel_rfl
@[simp] theorem tab_t90 : tinfo Tryd.prog 90 = some (true, 7) := by kernel_rfl
@[simp] theorem tab_x90 : zel Tryd.prog 90 = some (.agg [.v (.string ByteArray.empty), .v (.slice none 0 0), .v (.int .i64 0), .v (.int .i64 0), .v (.int .i64 0), .v (.string ByteArray.empty), .v (.slice none 0 0)]) := by kernel_rfl
@[simp] theorem tab_z90 : zl Tryd.prog 90 = some [.v (.string ByteArray.empty), .v (.slice none 0 0), .v (.int .i64 0), .v (.int .i64 0), .v (.int .i64 0), .v (.string ByteArray.empty), .v (.slice none 0 0)] := by kernel_rfl
@[simp] theorem tab_b90 : binfo Tryd.prog 90 = some [(0, 1), (1, 1), (2, 1), (3, 4)] := by kernel_rfl
@[simp] theorem tab_f90_0 : finfo Tryd.prog 90 0 = some (0, 9) := by kernel_rfl
@[simp] theorem tab_f90_1 : finfo Tryd.prog 90 1 = some (1, 23) := by kernel_rfl
@[simp] theorem tab_f90_2 : finfo Tryd.prog 90 2 = some (2, 3) := by kernel_rfl
@[simp] theorem tab_f90_3 : finfo Tryd.prog 90 3 = some (3, 52) := by kernel_rfl
@[simp] theorem tab_t93 : tinfo Tryd.prog 93 = some (false, 1) := by kernel_rfl
@[simp] theorem tab_x93 : zel Tryd.prog 93 = some (.v (.pointer none)) := by kernel_rfl
@[simp] theorem tab_z93 : zl Tryd.prog 93 = some [.v (.pointer none)] := by kernel_rfl
@[simp] theorem tab_t94 : tinfo Tryd.prog 94 = some (false, 1) := by kernel_rfl
@[simp] theorem tab_x94 : zel Tryd.prog 94 = some (.v (.map none)) := by kernel_rfl
@[simp] theorem tab_z94 : zl Tryd.prog 94 = some [.v (.map none)] := by kernel_rfl
@[simp] theorem tab_t95 : tinfo Tryd.prog 95 = some (true, 5) := by kernel_rfl
@[simp] theorem tab_x95 : zel Tryd.prog 95 = some (.agg [.v (.slice none 0 0), .v (.slice none 0 0), .v (.slice none 0 0), .v (.int .i64 0), .v (.map none)]) := by kernel_rfl
@[simp] theorem tab_z95 : zl Tryd.prog 95 = some [.v (.slice none 0 0), .v (.slice none 0 0), .v (.slice none 0 0), .v (.int .i64 0), .v (.map none)] := by kernel_rfl
@[simp] theorem tab_b95 : binfo Tryd.prog 95 = some [(0, 1), (1, 3), (4, 1)] := by kernel_rfl
@[simp] theorem tab_f95_0 : finfo Tryd.prog 95 0 = some (0, 23) := by kernel_rfl
@[simp] theorem tab_f95_1 : finfo Tryd.prog 95 1 = some (1, 25) := by kernel_rfl
@[simp] theorem tab_f95_2 : finfo Tryd.prog 95 2 = some (4, 94) := by kernel_rfl
@[simp] theorem tab_t96 : tinfo Tryd.prog 96 = some (true, 5) := by kernel_rfl
@[simp] theorem tab_x96 : zel Tryd.prog 96 = some (.agg [.v (.slice none 0 0), .v (.slice none 0 0), .v (.slice none 0 0), .v (.int .i64 0), .v (.map none)]) := by kernel_rfl
@[simp] theorem tab_z96 : zl Tryd.prog 96 = some [.v (.slice none 0 0), .v (.slice none 0 0), .v (.slice none 0 0), .v (.int .i64 0), .v (.map none)] := by kernel_rfl
@[simp] theorem tab_b96 : binfo Tryd.prog 96 = some [(0, 1), (1, 3), (4, 1)] := by kernel_rfl
@[simp] theorem tab_f96_0 : finfo Tryd.prog 96 0 = some (0, 23) := by kernel_rfl
@[simp] theorem tab_f96_1 : finfo Tryd.prog 96 1 = some (1, 25) := by kernel_rfl
@[simp] theorem tab_f96_2 : finfo Tryd.prog 96 2 = some (4, 94) := by kernel_rfl
@[simp] theorem tab_t100 : tinfo Tryd.prog 100 = some (true, 4) := by kernel_rfl
@[simp] theorem tab_x100 : zel Tryd.prog 100 = some (.agg [.v (.slice none 0 0), .v (.int .i64 0), .v (.slice none 0 0), .v (.slice none 0 0)]) := by kernel_rfl
@[simp] theorem tab_z100 : zl Tryd.prog 100 = some [.v (.slice none 0 0), .v (.int .i64 0), .v (.slice none 0 0), .v (.slice none 0 0)] := by kernel_rfl
@[simp] theorem tab_b100 : binfo Tryd.prog 100 = some [(0, 1), (1, 1), (2, 1), (3, 1)] := by kernel_rfl
@[simp] theorem tab_f100_0 : finfo Tryd.prog 100 0 = some (0, 61) := by kernel_rfl
@[simp] theorem tab_f100_1 : finfo Tryd.prog 100 1 = some (1, 3) := by kernel_rfl
@[simp] theorem tab_f100_2 : finfo Tryd.prog 100 2 = some (2, 33) := by kernel_rfl
@[simp] theorem tab_f100_3 : finfo Tryd.prog 100 3 = some (3, 33) := by kernel_rfl
@[simp] theorem tab_t101 : tinfo Tryd.prog 101 = some (true, 4) := by kernel_rfl
@[simp] theorem tab_x101 : zel Tryd.prog 101 = some (.agg [.v (.slice none 0 0), .v (.int .i64 0), .v (.slice none 0 0), .v (.slice none 0 0)]) := by kernel_rfl
@[simp] theorem tab_z101 : zl Tryd.prog 101 = some [.v (.slice none 0 0), .v (.int .i64 0), .v (.slice none 0 0), .v (.slice none 0 0)] := by kernel_rfl
@[simp] theorem tab_b101 : binfo Tryd.prog 101 = some [(0, 1), (1, 1), (2, 1), (3, 1)] := by kernel_rfl
@[simp] theorem tab_f101_0 : finfo Tryd.prog 101 0 = some (0, 61) := by kernel_rfl
@[simp] theorem tab_f101_1 : finfo Tryd.prog 101 1 = some (1, 3) := by kernel_rfl
@[simp] theorem tab_f101_2 : finfo Tryd.prog 101 2 = some (2, 33) := by kernel_rfl
@[simp] theorem tab_f101_3 : finfo Tryd.prog 101 3 = some (3, 33) := by kernel_rfl
@[simp] theorem tab_t106 : tinfo Tryd.prog 106 = some (true, 3) := by kernel_rfl
@[simp] theorem tab_x106 : zel Tryd.prog 106 = some (.agg [.v (.slice none 0 0), .v (.slice none 0 0), .v (.slice none 0 0)]) := by kernel_rfl
@[simp] theorem tab_z106 : zl Tryd.prog 106 = some [.v (.slice none 0 0), .v (.slice none 0 0), .v (.slice none 0 0)] := by kernel_rfl
@[simp] theorem tab_b106 : binfo Tryd.prog 106 = some [(0, 1), (1, 1), (2, 1)] := by kernel_rfl
@[simp] theorem tab_f106_0 : finfo Tryd.prog 106 0 = some (0, 61) := by kernel_rfl
@[simp] theorem tab_f106_1 : finfo Tryd.prog 106 1 = some (1, 23) := by kernel_rfl
@[simp] theorem tab_f106_2 : finfo Tryd.prog 106 2 = some (2, 23) := by kernel_rfl
@[simp] theorem tab_t107 : tinfo Tryd.prog 107 = some (true, 3) := by kernel_rfl
@[simp] theorem tab_x107 : zel Tryd.prog 107 = some (.agg [.v (.slice none 0 0), .v (.slice none 0 0), .v (.slice none 0 0)]) := by kernel_rfl
@[simp] theorem tab_z107 : zl Tryd.prog 107 = some [.v (.slice none 0 0), .v (.slice none 0 0), .v (.slice none 0 0)] := by kernel_rfl
@[simp] theorem tab_b107 : binfo Tryd.prog 107 = some [(0, 1), (1, 1), (2, 1)] := by kernel_rfl
@[simp] theorem tab_f107_0 : finfo Tryd.prog 107 0 = some (0, 61) := by kernel_rfl
@[simp] theorem tab_f107_1 : finfo Tryd.prog 107 1 = some (1, 23) := by kernel_rfl
@[simp] theorem tab_f107_2 : finfo Tryd.prog 107 2 = some (2, 23) := by kernel_rfl
@[simp] theorem tab_t112 : tinfo Tryd.prog 112 = some (false, 1) := by kernel_rfl
@[simp] theorem tab_x112 : zel Tryd.prog 112 = some (.v (.pointer none)) := by kernel_rfl
@[simp] theorem tab_z112 : zl Tryd.prog 112 = some [.v (.pointer none)] := by kernel_rfl
@[simp] theorem tab_t113 : tinfo Tryd.prog 113 = some (false, 1) := by kernel_rfl
@[simp] theorem tab_e113 : einfo Tryd.prog 113 = some 33 := by kernel_rfl
@[simp] theorem tab_v113 : vinfo Tryd.prog 113 = some (33, 1, 24) := by kernel_rfl
@[simp] theorem tab_j113 : intk Tryd.prog 113 = none := by kernel_rfl
@[simp] theorem tab_x113 : zel Tryd.prog 113 = some (.v (.slice none 0 0)) := by kernel_rfl
@[simp] theorem tab_z113 : zl Tryd.prog 113 = some [.v (.slice none 0 0)] := by kernel_rfl
@[simp] theorem tab_t114 : tinfo Tryd.prog 114 = some (true, 2) := by kernel_rfl
@[simp] theorem tab_x114 : zel Tryd.prog 114 = some (.agg [.v (.slice none 0 0), .v (.slice none 0 0)]) := by kernel_rfl
@[simp] theorem tab_z114 : zl Tryd.prog 114 = some [.v (.slice none 0 0), .v (.slice none 0 0)] := by kernel_rfl
@[simp] theorem tab_b114 : binfo Tryd.prog 114 = some [(0, 1), (1, 1)] := by kernel_rfl
@[simp] theorem tab_f114_0 : finfo Tryd.prog 114 0 = some (0, 26) := by kernel_rfl
@[simp] theorem tab_f114_1 : finfo Tryd.prog 114 1 = some (1, 113) := by kernel_rfl
@[simp] theorem tab_t115 : tinfo Tryd.prog 115 = some (true, 2) := by kernel_rfl
@[simp] theorem tab_x115 : zel Tryd.prog 115 = some (.agg [.v (.slice none 0 0), .v (.slice none 0 0)]) := by kernel_rfl
@[simp] theorem tab_z115 : zl Tryd.prog 115 = some [.v (.slice none 0 0), .v (.slice none 0 0)] := by kernel_rfl
@[simp] theorem tab_b115 : binfo Tryd.prog 115 = some [(0, 1), (1, 1)] := by kernel_rfl
@[simp] theorem tab_f115_0 : finfo Tryd.prog 115 0 = some (0, 26) := by kernel_rfl
@[simp] theorem tab_f115_1 : finfo Tryd.prog 115 1 = some (1, 113) := by kernel_rfl
@[simp] theorem tab_t117 : tinfo Tryd.prog 117 = some (false, 1) := by kernel_rfl
@[simp] theorem tab_e117 : einfo Tryd.prog 117 = some 116 := by kernel_rfl
@[simp] theorem tab_v117 : vinfo Tryd.prog 117 = some (116, 1, 8) := by kernel_rfl
@[simp] theorem tab_j117 : intk Tryd.prog 117 = none := by kernel_rfl
@[simp] theorem tab_x117 : zel Tryd.prog 117 = some (.v (.slice none 0 0)) := by kernel_rfl
@[simp] theorem tab_z117 : zl Tryd.prog 117 = some [.v (.slice none 0 0)] := by kernel_rfl
@[simp] theorem tab_t122 : tinfo Tryd.prog 122 = some (false, 1) := by kernel_rfl
@[simp] theorem tab_e122 : einfo Tryd.prog 122 = some 124 := by kernel_rfl
@[simp] theorem tab_v122 : vinfo Tryd.prog 122 = some (124, 5, 64) := by kernel_rfl
@[simp] theorem tab_j122 : intk Tryd.prog 122 = none := by kernel_rfl
@[simp] theorem tab_x122 : zel Tryd.prog 122 = some (.v (.slice none 0 0)) := by kernel_rfl
@[simp] theorem tab_z122 : zl Tryd.prog 122 = some [.v (.slice none 0 0)] := by kernel_rfl
@[simp] theorem tab_t123 : tinfo Tryd.prog 123 = some (true, 5) := by kernel_rfl
@[simp] theorem tab_x123 : zel Tryd.prog 123 = some (.agg [.v (.int .i64 0), .v (.int .i64 0), .v (.string ByteArray.empty), .v (.slice none 0 0), .v (.bool false)]) := by kernel_rfl
@[simp] theorem tab_z123 : zl Tryd.prog 123 = some [.v (.int .i64 0), .v (.int .i64 0), .v (.string ByteArray.empty), .v (.slice none 0 0), .v (.bool false)] := by kernel_rfl
@[simp] theorem tab_b123 : binfo Tryd.prog 123 = some [(0, 4), (4, 1)] := by kernel_rfl
@[simp] theorem tab_f123_0 : finfo Tryd.prog 123 0 = some (0, 52) := by kernel_rfl
@[simp] theorem tab_f123_1 : finfo Tryd.prog 123 1 = some (4, 4) := by kernel_rfl
@[simp] theorem tab_t124 : tinfo Tryd.prog 124 = some (true, 5) := by kernel_rfl
@[simp] theorem tab_x124 : zel Tryd.prog 124 = some (.agg [.v (.int .i64 0), .v (.int .i64 0), .v (.string ByteArray.empty), .v (.slice none 0 0), .v (.bool false)]) := by kernel_rfl
@[simp] theorem tab_z124 : zl Tryd.prog 124 = some [.v (.int .i64 0), .v (.int .i64 0), .v (.string ByteArray.empty), .v (.slice none 0 0), .v (.bool false)] := by kernel_rfl
@[simp] theorem tab_b124 : binfo Tryd.prog 124 = some [(0, 4), (4, 1)] := by kernel_rfl
@[simp] theorem tab_f124_0 : finfo Tryd.prog 124 0 = some (0, 52) := by kernel_rfl
@[simp] theorem tab_f124_1 : finfo Tryd.prog 124 1 = some (4, 4) := by kernel_rfl
@[simp] theorem tab_t126 : tinfo Tryd.prog 126 = some (true, 3) := by kernel_rfl
@[simp] theorem tab_x126 : zel Tryd.prog 126 = some (.agg [.v (.int .i64 0), .v (.int .i64 0), .v (.int .i64 0)]) := by kernel_rfl
@[simp] theorem tab_t127 : tinfo Tryd.prog 127 = some (true, 6) := by kernel_rfl
@[simp] theorem tab_x127 : zel Tryd.prog 127 = some (.agg [.v (.int .i64 0), .v (.int .i64 0), .v (.string ByteArray.empty), .v (.int .i64 0), .v (.int .i64 0), .v (.int .i64 0)]) := by kernel_rfl
@[simp] theorem tab_z127 : zl Tryd.prog 127 = some [.v (.int .i64 0), .v (.int .i64 0), .v (.string ByteArray.empty), .v (.int .i64 0), .v (.int .i64 0), .v (.int .i64 0)] := by kernel_rfl
@[simp] theorem tab_b127 : binfo Tryd.prog 127 = some [(0, 1), (1, 1), (2, 1), (3, 3)] := by kernel_rfl
@[simp] theorem tab_f127_0 : finfo Tryd.prog 127 0 = some (0, 3) := by kernel_rfl
@[simp] theorem tab_f127_1 : finfo Tryd.prog 127 1 = some (1, 3) := by kernel_rfl
@[simp] theorem tab_f127_2 : finfo Tryd.prog 127 2 = some (2, 9) := by kernel_rfl
@[simp] theorem tab_f127_3 : finfo Tryd.prog 127 3 = some (3, 126) := by kernel_rfl
@[simp] theorem tab_t128 : tinfo Tryd.prog 128 = some (true, 6) := by kernel_rfl
@[simp] theorem tab_x128 : zel Tryd.prog 128 = some (.agg [.v (.int .i64 0), .v (.int .i64 0), .v (.string ByteArray.empty), .v (.int .i64 0), .v (.int .i64 0), .v (.int .i64 0)]) := by kernel_rfl
@[simp] theorem tab_z128 : zl Tryd.prog 128 = some [.v (.int .i64 0), .v (.int .i64 0), .v (.string ByteArray.empty), .v (.int .i64 0), .v (.int .i64 0), .v (.int .i64 0)] := by kernel_rfl
@[simp] theorem tab_b128 : binfo Tryd.prog 128 = some [(0, 1), (1, 1), (2, 1), (3, 3)] := by kernel_rfl
@[simp] theorem tab_f128_0 : finfo Tryd.prog 128 0 = some (0, 3) := by kernel_rfl
@[simp] theorem tab_f128_1 : finfo Tryd.prog 128 1 = some (1, 3) := by kernel_rfl
@[simp] theorem tab_f128_2 : finfo Tryd.prog 128 2 = some (2, 9) := by kernel_rfl
@[simp] theorem tab_f128_3 : finfo Tryd.prog 128 3 = some (3, 126) := by kernel_rfl
@[simp] theorem tab_t135 : tinfo Tryd.prog 135 = some (true, 6) := by kernel_rfl
@[simp] theorem tab_x135 : zel Tryd.prog 135 = some (.agg [.v (.int .i64 0), .v (.int .i64 0), .v (.string ByteArray.empty), .v (.int .i64 0), .v (.int .i64 0), .v (.string ByteArray.empty)]) := by kernel_rfl
@[simp] theorem tab_z135 : zl Tryd.prog 135 = some [.v (.int .i64 0), .v (.int .i64 0), .v (.string ByteArray.empty), .v (.int .i64 0), .v (.int .i64 0), .v (.string ByteArray.empty)] := by kernel_rfl
@[simp] theorem tab_b135 : binfo Tryd.prog 135 = some [(0, 3), (3, 3)] := by kernel_rfl
@[simp] theorem tab_f135_0 : finfo Tryd.prog 135 0 = some (0, 39) := by kernel_rfl
@[simp] theorem tab_f135_1 : finfo Tryd.prog 135 1 = some (3, 39) := by kernel_rfl
@[simp] theorem tab_t136 : tinfo Tryd.prog 136 = some (true, 6) := by kernel_rfl
@[simp] theorem tab_x136 : zel Tryd.prog 136 = some (.agg [.v (.int .i64 0), .v (.int .i64 0), .v (.string ByteArray.empty), .v (.int .i64 0), .v (.int .i64 0), .v (.string ByteArray.empty)]) := by kernel_rfl
@[simp] theorem tab_z136 : zl Tryd.prog 136 = some [.v (.int .i64 0), .v (.int .i64 0), .v (.string ByteArray.empty), .v (.int .i64 0), .v (.int .i64 0), .v (.string ByteArray.empty)] := by kernel_rfl
@[simp] theorem tab_b136 : binfo Tryd.prog 136 = some [(0, 3), (3, 3)] := by kernel_rfl
@[simp] theorem tab_f136_0 : finfo Tryd.prog 136 0 = some (0, 39) := by kernel_rfl
@[simp] theorem tab_f136_1 : finfo Tryd.prog 136 1 = some (3, 39) := by kernel_rfl
@[simp] theorem tab_t137 : tinfo Tryd.prog 137 = some (false, 1) := by kernel_rfl
@[simp] theorem tab_x137 : zel Tryd.prog 137 = some (.v (.map none)) := by kernel_rfl
@[simp] theorem tab_z137 : zl Tryd.prog 137 = some [.v (.map none)] := by kernel_rfl
@[simp] theorem tab_t141 : tinfo Tryd.prog 141 = some (false, 1) := by kernel_rfl
@[simp] theorem tab_i141 : intk Tryd.prog 141 = some .u64 := by kernel_rfl
@[simp] theorem tab_x141 : zel Tryd.prog 141 = some (.v (.int .u64 0)) := by kernel_rfl
@[simp] theorem tab_z141 : zl Tryd.prog 141 = some [.v (.int .u64 0)] := by kernel_rfl
@[simp] theorem tab_t151 : tinfo Tryd.prog 151 = some (true, 23) := by kernel_rfl
@[simp] theorem tab_x151 : zel Tryd.prog 151 = some (.agg [.v (.string ByteArray.empty), .v (.string ByteArray.empty), .v (.string ByteArray.empty), .v (.string ByteArray.empty), .v (.string ByteArray.empty), .v (.string ByteArray.empty), .v (.string ByteArray.empty), .v (.string ByteArray.empty), .v (.string ByteArray.empty), .v (.string ByteArray.empty), .v (.string ByteArray.empty), .v (.string ByteArray.empty), .v (.string ByteArray.empty), .v (.string ByteArray.empty), .v (.string ByteArray.empty), .v (.string ByteArray.empty), .v (.string ByteArray.empty), .v (.string ByteArray.empty), .v (.string ByteArray.empty), .v (.string ByteArray.empty), .v (.string ByteArray.empty), .v (.string ByteArray.empty), .v (.string ByteArray.empty)]) := by kernel_rfl
@[simp] theorem tab_t159 : tinfo Tryd.prog 159 = some (false, 1) := by kernel_rfl
@[simp] theorem tab_e159 : einfo Tryd.prog 159 = some 9 := by kernel_rfl
@[simp] theorem tab_v159 : vinfo Tryd.prog 159 = some (9, 1, 16) := by kernel_rfl
@[simp] theorem tab_j159 : intk Tryd.prog 159 = none := by kernel_rfl
@[simp] theorem tab_x159 : zel Tryd.prog 159 = some (.v (.slice none 0 0)) := by kernel_rfl
@[simp] theorem tab_z159 : zl Tryd.prog 159 = some [.v (.slice none 0 0)] := by kernel_rfl
@[simp] theorem tab_t160 : tinfo Tryd.prog 160 = some (true, 4) := by kernel_rfl
@[simp] theorem tab_x160 : zel Tryd.prog 160 = some (.agg [.v (.int .i64 0), .v (.int .i64 0), .v (.string ByteArray.empty), .v (.int .i64 0)]) := by kernel_rfl
@[simp] theorem tab_z160 : zl Tryd.prog 160 = some [.v (.int .i64 0), .v (.int .i64 0), .v (.string ByteArray.empty), .v (.int .i64 0)] := by kernel_rfl
@[simp] theorem tab_b160 : binfo Tryd.prog 160 = some [(0, 3), (3, 1)] := by kernel_rfl
@[simp] theorem tab_f160_0 : finfo Tryd.prog 160 0 = some (0, 39) := by kernel_rfl
@[simp] theorem tab_f160_1 : finfo Tryd.prog 160 1 = some (3, 3) := by kernel_rfl
@[simp] theorem tab_t161 : tinfo Tryd.prog 161 = some (true, 4) := by kernel_rfl
@[simp] theorem tab_x161 : zel Tryd.prog 161 = some (.agg [.v (.int .i64 0), .v (.int .i64 0), .v (.string ByteArray.empty), .v (.int .i64 0)]) := by kernel_rfl
@[simp] theorem tab_z161 : zl Tryd.prog 161 = some [.v (.int .i64 0), .v (.int .i64 0), .v (.string ByteArray.empty), .v (.int .i64 0)] := by kernel_rfl
@[simp] theorem tab_b161 : binfo Tryd.prog 161 = some [(0, 3), (3, 1)] := by kernel_rfl
@[simp] theorem tab_f161_0 : finfo Tryd.prog 161 0 = some (0, 39) := by kernel_rfl
@[simp] theorem tab_f161_1 : finfo Tryd.prog 161 1 = some (3, 3) := by kernel_rfl
@[simp] theorem tab_t171 : tinfo Tryd.prog 171 = some (true, 4) := by kernel_rfl
@[simp] theorem tab_x171 : zel Tryd.prog 171 = some (.agg [.v (.pointer none), .v (.pointer none), .v (.pointer none), .v (.string ByteArray.empty)]) := by kernel_rfl
@[simp] theorem tab_z171 : zl Tryd.prog 171 = some [.v (.pointer none), .v (.pointer none), .v (.pointer none), .v (.string ByteArray.empty)] := by kernel_rfl
@[simp] theorem tab_b171 : binfo Tryd.prog 171 = some [(0, 1), (1, 1), (2, 1), (3, 1)] := by kernel_rfl
@[simp] theorem tab_f171_0 : finfo Tryd.prog 171 0 = some (0, 17) := by kernel_rfl
@[simp] theorem tab_f171_1 : finfo Tryd.prog 171 1 = some (1, 17) := by kernel_rfl
@[simp] theorem tab_f171_2 : finfo Tryd.prog 171 2 = some (2, 17) := by kernel_rfl
@[simp] theorem tab_f171_3 : finfo Tryd.prog 171 3 = some (3, 9) := by kernel_rfl
@[simp] theorem tab_t172 : tinfo Tryd.prog 172 = some (true, 4) := by kernel_rfl
@[simp] theorem tab_x172 : zel Tryd.prog 172 = some (.agg [.v (.pointer none), .v (.pointer none), .v (.pointer none), .v (.string ByteArray.empty)]) := by kernel_rfl
@[simp] theorem tab_z172 : zl Tryd.prog 172 = some [.v (.pointer none), .v (.pointer none), .v (.pointer none), .v (.string ByteArray.empty)] := by kernel_rfl
@[simp] theorem tab_b172 : binfo Tryd.prog 172 = some [(0, 1), (1, 1), (2, 1), (3, 1)] := by kernel_rfl
@[simp] theorem tab_f172_0 : finfo Tryd.prog 172 0 = some (0, 17) := by kernel_rfl
@[simp] theorem tab_f172_1 : finfo Tryd.prog 172 1 = some (1, 17) := by kernel_rfl
@[simp] theorem tab_f172_2 : finfo Tryd.prog 172 2 = some (2, 17) := by kernel_rfl
@[simp] theorem tab_f172_3 : finfo Tryd.prog 172 3 = some (3, 9) := by kernel_rfl
@[simp] theorem tab_t173 : tinfo Tryd.prog 173 = some (true, 0) := by kernel_rfl
@[simp] theorem tab_t174 : tinfo Tryd.prog 174 = some (true, 0) := by kernel_rfl
@[simp] theorem tab_z174 : zl Tryd.prog 174 = some [] := by kernel_rfl
@[simp] theorem tab_b174 : binfo Tryd.prog 174 = some [(0, 0)] := by kernel_rfl
@[simp] theorem tab_f174_0 : finfo Tryd.prog 174 0 = some (0, 173) := by kernel_rfl
@[simp] theorem tab_t175 : tinfo Tryd.prog 175 = some (true, 0) := by kernel_rfl
@[simp] theorem tab_z175 : zl Tryd.prog 175 = some [] := by kernel_rfl
@[simp] theorem tab_b175 : binfo Tryd.prog 175 = some [(0, 0)] := by kernel_rfl
@[simp] theorem tab_f175_0 : finfo Tryd.prog 175 0 = some (0, 173) := by kernel_rfl
@[simp] theorem tab_t177 : tinfo Tryd.prog 177 = some (false, 1) := by kernel_rfl
@[simp] theorem tab_i177 : intk Tryd.prog 177 = some .u32 := by kernel_rfl
@[simp] theorem tab_x177 : zel Tryd.prog 177 = some (.v (.int .u32 0)) := by kernel_rfl
@[simp] theorem tab_z177 : zl Tryd.prog 177 = some [.v (.int .u32 0)] := by kernel_rfl
@[simp] theorem tab_t178 : tinfo Tryd.prog 178 = some (false, 1) := by kernel_rfl
@[simp] theorem tab_i178 : intk Tryd.prog 178 = some .u8 := by kernel_rfl
@[simp] theorem tab_x178 : zel Tryd.prog 178 = some (.v (.int .u8 0)) := by kernel_rfl
@[simp] theorem tab_z178 : zl Tryd.prog 178 = some [.v (.int .u8 0)] := by kernel_rfl
@[simp] theorem tab_t179 : tinfo Tryd.prog 179 = some (false, 1) := by kernel_rfl
@[simp] theorem tab_i179 : intk Tryd.prog 179 = some .u8 := by kernel_rfl
@[simp] theorem tab_x179 : zel Tryd.prog 179 = some (.v (.int .u8 0)) := by kernel_rfl
@[simp] theorem tab_z179 : zl Tryd.prog 179 = some [.v (.int .u8 0)] := by kernel_rfl
@[simp] theorem tab_t181 : tinfo Tryd.prog 181 = some (false, 1) := by kernel_rfl
@[simp] theorem tab_x181 : zel Tryd.prog 181 = some (.v (.pointer none)) := by kernel_rfl
@[simp] theorem tab_z181 : zl Tryd.prog 181 = some [.v (.pointer none)] := by kernel_rfl
@[simp] theorem tab_t182 : tinfo Tryd.prog 182 = some (false, 1) := by kernel_rfl
@[simp] theorem tab_i182 : intk Tryd.prog 182 = some .i32 := by kernel_rfl
@[simp] theorem tab_x182 : zel Tryd.prog 182 = some (.v (.int .i32 0)) := by kernel_rfl
@[simp] theorem tab_z182 : zl Tryd.prog 182 = some [.v (.int .i32 0)] := by kernel_rfl
@[simp] theorem tab_t183 : tinfo Tryd.prog 183 = some (false, 1) := by kernel_rfl
@[simp] theorem tab_i183 : intk Tryd.prog 183 = some .i32 := by kernel_rfl
@[simp] theorem tab_x183 : zel Tryd.prog 183 = some (.v (.int .i32 0)) := by kernel_rfl
@[simp] theorem tab_z183 : zl Tryd.prog 183 = some [.v (.int .i32 0)] := by kernel_rfl
@[simp] theorem tab_t184 : tinfo Tryd.prog 184 = some (true, 11) := by kernel_rfl
@[simp] theorem tab_x184 : zel Tryd.prog 184 = some (.agg [.v (.int .u64 0), .v (.int .u64 0), .v (.int .u32 0), .v (.int .u8 0), .v (.int .u8 0), .v (.int .u8 0), .v (.int .u8 0), .v (.nilFunc), .v (.pointer none), .v (.int .i32 0), .v (.int .i32 0)]) := by kernel_rfl
@[simp] theorem tab_z184 : zl Tryd.prog 184 = some [.v (.int .u64 0), .v (.int .u64 0), .v (.int .u32 0), .v (.int .u8 0), .v (.int .u8 0), .v (.int .u8 0), .v (.int .u8 0), .v (.nilFunc), .v (.pointer none), .v (.int .i32 0), .v (.int .i32 0)] := by kernel_rfl
@[simp] theorem tab_b184 : binfo Tryd.prog 184 = some [(0, 1), (1, 1), (2, 1), (3, 1), (4, 1), (5, 1), (6, 1), (7, 1), (8, 1), (9, 1), (10, 1)] := by kernel_rfl
@[simp] theorem tab_f184_0 : finfo Tryd.prog 184 0 = some (0, 12) := by kernel_rfl
@[simp] theorem tab_f184_1 : finfo Tryd.prog 184 1 = some (1, 12) := by kernel_rfl
@[simp] theorem tab_f184_2 : finfo Tryd.prog 184 2 = some (2, 177) := by kernel_rfl
@[simp] theorem tab_f184_3 : finfo Tryd.prog 184 3 = some (3, 178) := by kernel_rfl
@[simp] theorem tab_f184_4 : finfo Tryd.prog 184 4 = some (4, 5) := by kernel_rfl
@[simp] theorem tab_f184_5 : finfo Tryd.prog 184 5 = some (5, 5) := by kernel_rfl
@[simp] theorem tab_f184_6 : finfo Tryd.prog 184 6 = some (6, 179) := by kernel_rfl
@[simp] theorem tab_f184_7 : finfo Tryd.prog 184 7 = some (7, 180) := by kernel_rfl
@[simp] theorem tab_f184_8 : finfo Tryd.prog 184 8 = some (8, 181) := by kernel_rfl
@[simp] theorem tab_f184_9 : finfo Tryd.prog 184 9 = some (9, 182) := by kernel_rfl
@[simp] theorem tab_f184_10 : finfo Tryd.prog 184 10 = some (10, 183) := by kernel_rfl
@[simp] theorem tab_t185 : tinfo Tryd.prog 185 = some (true, 11) := by kernel_rfl
@[simp] theorem tab_x185 : zel Tryd.prog 185 = some (.agg [.v (.int .u64 0), .v (.int .u64 0), .v (.int .u32 0), .v (.int .u8 0), .v (.int .u8 0), .v (.int .u8 0), .v (.int .u8 0), .v (.nilFunc), .v (.pointer none), .v (.int .i32 0), .v (.int .i32 0)]) := by kernel_rfl
@[simp] theorem tab_z185 : zl Tryd.prog 185 = some [.v (.int .u64 0), .v (.int .u64 0), .v (.int .u32 0), .v (.int .u8 0), .v (.int .u8 0), .v (.int .u8 0), .v (.int .u8 0), .v (.nilFunc), .v (.pointer none), .v (.int .i32 0), .v (.int .i32 0)] := by kernel_rfl
@[simp] theorem tab_b185 : binfo Tryd.prog 185 = some [(0, 1), (1, 1), (2, 1), (3, 1), (4, 1), (5, 1), (6, 1), (7, 1), (8, 1), (9, 1), (10, 1)] := by kernel_rfl
@[simp] theorem tab_f185_0 : finfo Tryd.prog 185 0 = some (0, 12) := by kernel_rfl
@[simp] theorem tab_f185_1 : finfo Tryd.prog 185 1 = some (1, 12) := by kernel_rfl
@[simp] theorem tab_f185_2 : finfo Tryd.prog 185 2 = some (2, 177) := by kernel_rfl
@[simp] theorem tab_f185_3 : finfo Tryd.prog 185 3 = some (3, 178) := by kernel_rfl
@[simp] theorem tab_f185_4 : finfo Tryd.prog 185 4 = some (4, 5) := by kernel_rfl
@[simp] theorem tab_f185_5 : finfo Tryd.prog 185 5 = some (5, 5) := by kernel_rfl
@[simp] theorem tab_f185_6 : finfo Tryd.prog 185 6 = some (6, 179) := by kernel_rfl
@[simp] theorem tab_f185_7 : finfo Tryd.prog 185 7 = some (7, 180) := by kernel_rfl
@[simp] theorem tab_f185_8 : finfo Tryd.prog 185 8 = some (8, 181) := by kernel_rfl
@[simp] theorem tab_f185_9 : finfo Tryd.prog 185 9 = some (9, 182) := by kernel_rfl
@[simp] theorem tab_f185_10 : finfo Tryd.prog 185 10 = some (10, 183) := by kernel_rfl
@[simp] theorem tab_t186 : tinfo Tryd.prog 186 = some (false, 1) := by kernel_rfl
@[simp] theorem tab_x186 : zel Tryd.prog 186 = some (.v (.pointer none)) := by kernel_rfl
@[simp] theorem tab_n2 : enters Tryd.prog 2 = true := by kernel_rfl
@[simp] theorem tab_n3 : enters Tryd.prog 3 = true := by kernel_rfl
@[simp] theorem tab_n4 : enters Tryd.prog 4 = true := by kernel_rfl
@[simp] theorem tab_n5 : enters Tryd.prog 5 = true := by kernel_rfl
@[simp] theorem tab_n6 : enters Tryd.prog 6 = true := by kernel_rfl
@[simp] theorem tab_n7 : enters Tryd.prog 7 = true := by kernel_rfl
@[simp] theorem tab_n8 : enters Tryd.prog 8 = true := by kernel_rfl
@[simp] theorem tab_n9 : enters Tryd.prog 9 = true := by kernel_rfl
@[simp] theorem tab_n10 : enters Tryd.prog 10 = true := by kernel_rfl
@[simp] theorem tab_n11 : enters Tryd.prog 11 = true := by kernel_rfl
@[simp] theorem tab_n12 : enters Tryd.prog 12 = true := by kernel_rfl
@[simp] theorem tab_n13 : enters Tryd.prog 13 = true := by kernel_rfl
@[simp] theorem tab_n14 : enters Tryd.prog 14 = true := by kernel_rfl
@[simp] theorem tab_n15 : enters Tryd.prog 15 = true := by kernel_rfl
@[simp] theorem tab_n16 : enters Tryd.prog 16 = true := by kernel_rfl
@[simp] theorem tab_n17 : enters Tryd.prog 17 = true := by kernel_rfl
@[simp] theorem tab_n18 : enters Tryd.prog 18 = true := by kernel_rfl
@[simp] theorem tab_n19 : enters Tryd.prog 19 = true := by kernel_rfl
@[simp] theorem tab_n20 : enters Tryd.prog 20 = true := by kernel_rfl
@[simp] theorem tab_n21 : enters Tryd.prog 21 = true := by kernel_rfl
@[simp] theorem tab_n22 : enters Tryd.prog 22 = true := by kernel_rfl
@[simp] theorem tab_n23 : enters Tryd.prog 23 = true := by kernel_rfl
@[simp] theorem tab_n24 : enters Tryd.prog 24 = true := by kernel_rfl
@[simp] theorem tab_n25 : enters Tryd.prog 25 = true := by kernel_rfl
@[simp] theorem tab_n26 : enters Tryd.prog 26 = true := by kernel_rfl
@[simp] theorem tab_n27 : enters Tryd.prog 27 = true := by kernel_rfl
@[simp] theorem tab_n28 : enters Tryd.prog 28 = true := by kernel_rfl
@[simp] theorem tab_n29 : enters Tryd.prog 29 = true := by kernel_rfl
@[simp] theorem tab_n30 : enters Tryd.prog 30 = true := by kernel_rfl
@[simp] theorem tab_n31 : enters Tryd.prog 31 = true := by kernel_rfl
@[simp] theorem tab_n32 : enters Tryd.prog 32 = true := by kernel_rfl
@[simp] theorem tab_n33 : enters Tryd.prog 33 = true := by kernel_rfl
@[simp] theorem tab_n34 : enters Tryd.prog 34 = true := by kernel_rfl
@[simp] theorem tab_n35 : enters Tryd.prog 35 = true := by kernel_rfl
@[simp] theorem tab_n36 : enters Tryd.prog 36 = true := by kernel_rfl
@[simp] theorem tab_n37 : enters Tryd.prog 37 = true := by kernel_rfl
@[simp] theorem tab_n38 : enters Tryd.prog 38 = true := by kernel_rfl
@[simp] theorem tab_n39 : enters Tryd.prog 39 = true := by kernel_rfl
@[simp] theorem tab_n40 : enters Tryd.prog 40 = true := by kernel_rfl
@[simp] theorem tab_n41 : enters Tryd.prog 41 = true := by kernel_rfl
@[simp] theorem tab_n42 : enters Tryd.prog 42 = true := by kernel_rfl
@[simp] theorem tab_n43 : enters Tryd.prog 43 = true := by kernel_rfl
@[simp] theorem tab_n44 : enters Tryd.prog 44 = true := by kernel_rfl
@[simp] theorem tab_n45 : enters Tryd.prog 45 = true := by kernel_rfl
@[simp] theorem tab_n46 : enters Tryd.prog 46 = true := by kernel_rfl
@[simp] theorem tab_n47 : enters Tryd.prog 47 = true := by kernel_rfl
@[simp] theorem tab_n48 : enters Tryd.prog 48 = true := by kernel_rfl
@[simp] theorem tab_n49 : enters Tryd.prog 49 = true := by kernel_rfl
@[simp] theorem tab_n50 : enters Tryd.prog 50 = true := by kernel_rfl
@[simp] theorem tab_n51 : enters Tryd.prog 51 = true := by kernel_rfl
@[simp] theorem tab_n52 : enters Tryd.prog 52 = true := by kernel_rfl
@[simp] theorem tab_n53 : enters Tryd.prog 53 = true := by kernel_rfl
@[simp] theorem tab_n54 : enters Tryd.prog 54 = true := by kernel_rfl
@[simp] theorem tab_n55 : enters Tryd.prog 55 = true := by kernel_rfl
@[simp] theorem tab_n56 : enters Tryd.prog 56 = true := by kernel_rfl
@[simp] theorem tab_n57 : enters Tryd.prog 57 = true := by kernel_rfl
@[simp] theorem tab_n58 : enters Tryd.prog 58 = true := by kernel_rfl
@[simp] theorem tab_n59 : enters Tryd.prog 59 = true := by kernel_rfl
@[simp] theorem tab_n60 : enters Tryd.prog 60 = true := by kernel_rfl
@[simp] theorem tab_n61 : enters Tryd.prog 61 = true := by kernel_rfl
@[simp] theorem tab_n62 : enters Tryd.prog 62 = true := by kernel_rfl
@[simp] theorem tab_n63 : enters Tryd.prog 63 = true := by kernel_rfl
@[simp] theorem tab_n64 : enters Tryd.prog 64 = true := by kernel_rfl
@[simp] theorem tab_n65 : enters Tryd.prog 65 = true := by kernel_rfl
@[simp] theorem tab_n66 : enters Tryd.prog 66 = true := by kernel_rfl
@[simp] theorem tab_n67 : enters Tryd.prog 67 = true := by kernel_rfl
@[simp] theorem tab_n68 : enters Tryd.prog 68 = true := by kernel_rfl
@[simp] theorem tab_n69 : enters Tryd.prog 69 = true := by kernel_rfl
@[simp] theorem tab_n70 : enters Tryd.prog 70 = true := by kernel_rfl
@[simp] theorem tab_n71 : enters Tryd.prog 71 = true := by kernel_rfl
@[simp] theorem tab_n72 : enters Tryd.prog 72 = true := by kernel_rfl
@[simp] theorem tab_n73 : enters Tryd.prog 73 = true := by kernel_rfl
@[simp] theorem tab_n74 : enters Tryd.prog 74 = true := by kernel_rfl
@[simp] theorem tab_n75 : enters Tryd.prog 75 = true := by kernel_rfl
@[simp] theorem tab_n76 : enters Tryd.prog 76 = true := by kernel_rfl
@[simp] theorem tab_n77 : enters Tryd.prog 77 = true := by kernel_rfl
@[simp] theorem tab_n78 : enters Tryd.prog 78 = true := by kernel_rfl
@[simp] theorem tab_n79 : enters Tryd.prog 79 = true := by kernel_rfl
@[simp] theorem tab_n80 : enters Tryd.prog 80 = true := by kernel_rfl
@[simp] theorem tab_n81 : enters Tryd.prog 81 = true := by kernel_rfl
@[simp] theorem tab_n82 : enters Tryd.prog 82 = true := by kernel_rfl
@[simp] theorem tab_n83 : enters Tryd.prog 83 = true := by kernel_rfl
@[simp] theorem tab_n84 : enters Tryd.prog 84 = true := by kernel_rfl
@[simp] theorem tab_n85 : enters Tryd.prog 85 = true := by kernel_rfl
@[simp] theorem tab_n86 : enters Tryd.prog 86 = true := by kernel_rfl
@[simp] theorem tab_n87 : enters Tryd.prog 87 = true := by kernel_rfl
@[simp] theorem tab_n88 : enters Tryd.prog 88 = true := by kernel_rfl
@[simp] theorem tab_n89 : enters Tryd.prog 89 = true := by kernel_rfl
@[simp] theorem tab_n90 : enters Tryd.prog 90 = true := by kernel_rfl
@[simp] theorem tab_n91 : enters Tryd.prog 91 = true := by kernel_rfl
@[simp] theorem tab_n92 : enters Tryd.prog 92 = true := by kernel_rfl
@[simp] theorem tab_n93 : enters Tryd.prog 93 = true := by kernel_rfl
@[simp] theorem tab_n94 : enters Tryd.prog 94 = true := by kernel_rfl
@[simp] theorem tab_n95 : enters Tryd.prog 95 = true := by kernel_rfl
@[simp] theorem tab_n96 : enters Tryd.prog 96 = true := by kernel_rfl
@[simp] theorem tab_n97 : enters Tryd.prog 97 = true := by kernel_rfl
@[simp] theorem tab_n98 : enters Tryd.prog 98 = true := by kernel_rfl
@[simp] theorem tab_n99 : enters Tryd.prog 99 = true := by kernel_rfl
@[simp] theorem tab_n100 : enters Tryd.prog 100 = true := by kernel_rfl
@[simp] theorem tab_n101 : enters Tryd.prog 101 = true := by kernel_rfl
@[simp] theorem tab_n102 : enters Tryd.prog 102 = true := by kernel_rfl
@[simp] theorem tab_n103 : enters Tryd.prog 103 = true := by kernel_rfl
@[simp] theorem tab_n104 : enters Tryd.prog 104 = true := by kernel_rfl
@[simp] theorem tab_n105 : enters Tryd.prog 105 = true := by kernel_rfl
@[simp] theorem tab_n106 : enters Tryd.prog 106 = true := by kernel_rfl
@[simp] theorem tab_n107 : enters Tryd.prog 107 = true := by kernel_rfl
@[simp] theorem tab_n108 : enters Tryd.prog 108 = true := by kernel_rfl
@[simp] theorem tab_n109 : enters Tryd.prog 109 = true := by kernel_rfl
@[simp] theorem tab_n110 : enters Tryd.prog 110 = true := by kernel_rfl
@[simp] theorem tab_n111 : enters Tryd.prog 111 = true := by kernel_rfl
@[simp] theorem tab_n112 : enters Tryd.prog 112 = true := by kernel_rfl
@[simp] theorem tab_n113 : enters Tryd.prog 113 = true := by kernel_rfl
@[simp] theorem tab_n114 : enters Tryd.prog 114 = true := by kernel_rfl
@[simp] theorem tab_n115 : enters Tryd.prog 115 = true := by kernel_rfl
@[simp] theorem tab_n116 : enters Tryd.prog 116 = true := by kernel_rfl
@[simp] theorem tab_n117 : enters Tryd.prog 117 = true := by kernel_rfl
@[simp] theorem tab_n118 : enters Tryd.prog 118 = true := by kernel_rfl
@[simp] theorem tab_n119 : enters Tryd.prog 119 = true := by kernel_rfl
@[simp] theorem tab_n120 : enters Tryd.prog 120 = true := by kernel_rfl
@[simp] theorem tab_n121 : enters Tryd.prog 121 = true := by kernel_rfl
@[simp] theorem tab_n122 : enters Tryd.prog 122 = true := by kernel_rfl
@[simp] theorem tab_n123 : enters Tryd.prog 123 = true := by kernel_rfl
@[simp] theorem tab_n124 : enters Tryd.prog 124 = true := by kernel_rfl
@[simp] theorem tab_n125 : enters Tryd.prog 125 = true := by kernel_rfl
@[simp] theorem tab_n126 : enters Tryd.prog 126 = true := by kernel_rfl
@[simp] theorem tab_n127 : enters Tryd.prog 127 = true := by kernel_rfl
@[simp] theorem tab_n128 : enters Tryd.prog 128 = true := by kernel_rfl
@[simp] theorem tab_n129 : enters Tryd.prog 129 = true := by kernel_rfl
@[simp] theorem tab_n130 : enters Tryd.prog 130 = true := by kernel_rfl
@[simp] theorem tab_n131 : enters Tryd.prog 131 = true := by kernel_rfl
@[simp] theorem tab_n132 : enters Tryd.prog 132 = true := by kernel_rfl
@[simp] theorem tab_n133 : enters Tryd.prog 133 = true := by kernel_rfl
@[simp] theorem tab_n134 : enters Tryd.prog 134 = true := by kernel_rfl
@[simp] theorem tab_n135 : enters Tryd.prog 135 = true := by kernel_rfl
@[simp] theorem tab_n136 : enters Tryd.prog 136 = true := by kernel_rfl
@[simp] theorem tab_n137 : enters Tryd.prog 137 = true := by kernel_rfl
@[simp] theorem tab_n138 : enters Tryd.prog 138 = true := by kernel_rfl
@[simp] theorem tab_n139 : enters Tryd.prog 139 = true := by kernel_rfl
@[simp] theorem tab_n140 : enters Tryd.prog 140 = true := by kernel_rfl
@[simp] theorem tab_n141 : enters Tryd.prog 141 = true := by kernel_rfl
@[simp] theorem tab_n142 : enters Tryd.prog 142 = true := by kernel_rfl
@[simp] theorem tab_n143 : enters Tryd.prog 143 = true := by kernel_rfl
@[simp] theorem tab_n144 : enters Tryd.prog 144 = true := by kernel_rfl
@[simp] theorem tab_n145 : enters Tryd.prog 145 = true := by kernel_rfl
@[simp] theorem tab_n146 : enters Tryd.prog 146 = true := by kernel_rfl
@[simp] theorem tab_n147 : enters Tryd.prog 147 = true := by kernel_rfl
@[simp] theorem tab_n148 : enters Tryd.prog 148 = true := by kernel_rfl
@[simp] theorem tab_n149 : enters Tryd.prog 149 = true := by kernel_rfl
@[simp] theorem tab_n150 : enters Tryd.prog 150 = true := by kernel_rfl
@[simp] theorem tab_n152 : enters Tryd.prog 152 = true := by kernel_rfl
@[simp] theorem tab_n153 : enters Tryd.prog 153 = true := by kernel_rfl
@[simp] theorem tab_n154 : enters Tryd.prog 154 = true := by kernel_rfl
@[simp] theorem tab_n155 : enters Tryd.prog 155 = true := by kernel_rfl
@[simp] theorem tab_n156 : enters Tryd.prog 156 = true := by kernel_rfl
@[simp] theorem tab_n177 : enters Tryd.prog 177 = true := by kernel_rfl
end Go.Proofs.YtnkakofcejkhiaaDoor

/- Scalars and lists of them as abstract values. -/
namespace Go.Proofs.YtnkakofcejkhiaaDoor
open Go.RowKit Go.Lib
abbrev AV.int (n : Int) : AV := .v (.int .i64 n)
abbrev AV.str (s : ByteArray) : AV := .v (.string s)
abbrev AV.bool (b : Bool) : AV := .v (.bool b)
@[simp] theorem AV.wid_ints (l : List Int) : AV.wid (l.map AV.int) 1 := AV.wid_map (f := AV.int) (fun _ => rfl) l
@[simp] theorem AV.wid_strs (l : List ByteArray) : AV.wid (l.map AV.str) 1 := AV.wid_map (f := AV.str) (fun _ => rfl) l
@[simp] theorem AV.wid_bools (l : List Bool) : AV.wid (l.map AV.bool) 1 := AV.wid_map (f := AV.bool) (fun _ => rfl) l
@[simp] theorem AV.wid_bytes (l : List UInt8) : AV.wid (l.map AV.byte) 1 := AV.wid_map (f := AV.byte) (fun _ => rfl) l
@[simp] theorem AV.elms_bytes (l : List UInt8) : AV.elms (l.map AV.byte) := AV.elms_map (f := AV.byte) (fun _ => rfl) l
@[simp] theorem AV.elms_ints (l : List Int) : AV.elms (l.map AV.int) := AV.elms_map (f := AV.int) (fun _ => rfl) l
@[simp] theorem AV.elms_strs (l : List ByteArray) : AV.elms (l.map AV.str) := AV.elms_map (f := AV.str) (fun _ => rfl) l
@[simp] theorem AV.elms_bools (l : List Bool) : AV.elms (l.map AV.bool) := AV.elms_map (f := AV.bool) (fun _ => rfl) l
@[simp] theorem AV.cls_append (m : Nat) (a b : List AV) : AV.cls m (a ++ b) ↔ AV.cls m a ∧ AV.cls m b := by
  rw [AV.cls_iff, AV.cls_iff, AV.cls_iff]
  exact ⟨fun h => ⟨fun y hy => h y (by simp [hy]), fun y hy => h y (by simp [hy])⟩, fun h y hy => (List.mem_append.1 hy).elim (h.1 y) (h.2 y)⟩
@[simp] theorem AV.cls_map {α : Type} {f : α → AV} {m : Nat} (h : ∀ a, (f a).cl m) (l : List α) : AV.cls m (l.map f) := by
  rw [AV.cls_iff]
  intro x hx
  obtain ⟨a, -, rfl⟩ := List.mem_map.1 hx
  exact h a
@[simp] theorem AV.cls_ints (l : List Int) (m : Nat) : AV.cls m (l.map AV.int) := AV.cls_map (fun _ => by simp) l
@[simp] theorem AV.cls_strs (l : List ByteArray) (m : Nat) : AV.cls m (l.map AV.str) := AV.cls_map (fun _ => by simp) l
@[simp] theorem AV.cls_bools (l : List Bool) (m : Nat) : AV.cls m (l.map AV.bool) := AV.cls_map (fun _ => by simp) l
@[simp] theorem AV.cls_bytes (l : List UInt8) (m : Nat) : AV.cls m (l.map AV.byte) := AV.cls_map (fun _ => by simp) l
end Go.Proofs.YtnkakofcejkhiaaDoor
