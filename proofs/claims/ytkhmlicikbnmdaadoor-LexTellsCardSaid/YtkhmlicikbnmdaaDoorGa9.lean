/- Closed facts of the program: types, fields, functions. -/
import Derived.Test.YtkhmlicikbnmdaaDoorProg
import Derived.KernelRfl
import Derived.Test.YtkhmlicikbnmdaaDoorGa8
set_option linter.unusedSimpArgs false
set_option linter.unusedVariables false
namespace Go.Proofs.YtkhmlicikbnmdaaDoor
open Go.RowKit Go.Lib

@[simp] theorem tab_t2 : tinfo Tryd.prog 2 = some (false, 1) := by kernel_rfl
@[simp] theorem tab_i2 : intk Tryd.prog 2 = some .i64 := by kernel_rfl
@[simp] theorem tab_x2 : zel Tryd.prog 2 = some (.v (.int .i64 0)) := by kernel_rfl
@[simp] theorem tab_t3 : tinfo Tryd.prog 3 = some (false, 1) := by kernel_rfl
@[simp] theorem tab_i3 : intk Tryd.prog 3 = some .i64 := by kernel_rfl
@[simp] theorem tab_x3 : zel Tryd.prog 3 = some (.v (.int .i64 0)) := by kernel_rfl
@[simp] theorem tab_z3 : zl Tryd.prog 3 = some [.v (.int .i64 0)] := by kernel_rfl
@[simp] theorem tab_t4 : tinfo Tryd.prog 4 = some (false, 1) := by kernel_rfl
@[simp] theorem tab_k4 : fkind Tryd.prog 4 = some 1 := by kernel_rfl
@[simp] theorem tab_x4 : zel Tryd.prog 4 = some (.v (.bool false)) := by kernel_rfl
@[simp] theorem tab_z4 : zl Tryd.prog 4 = some [.v (.bool false)] := by kernel_rfl
@[simp] theorem tab_t5 : tinfo Tryd.prog 5 = some (false, 1) := by kernel_rfl
@[simp] theorem tab_i5 : intk Tryd.prog 5 = some .u8 := by kernel_rfl
@[simp] theorem tab_x5 : zel Tryd.prog 5 = some (.v (.int .u8 0)) := by kernel_rfl
@[simp] theorem tab_z5 : zl Tryd.prog 5 = some [.v (.int .u8 0)] := by kernel_rfl
@[simp] theorem tab_t6 : tinfo Tryd.prog 6 = some (false, 1) := by kernel_rfl
@[simp] theorem tab_i6 : intk Tryd.prog 6 = some .u8 := by kernel_rfl
@[simp] theorem tab_x6 : zel Tryd.prog 6 = some (.v (.int .u8 0)) := by kernel_rfl
@[simp] theorem tab_z6 : zl Tryd.prog 6 = some [.v (.int .u8 0)] := by kernel_rfl
@[simp] theorem tab_t7 : tinfo Tryd.prog 7 = some (true, 4) := by kernel_rfl
@[simp] theorem tab_x7 : zel Tryd.prog 7 = some (.agg [.v (.int .i64 0), .v (.int .i64 0), .v (.bool false), .v (.int .u8 0)]) := by kernel_rfl
@[simp] theorem tab_z7 : zl Tryd.prog 7 = some [.v (.int .i64 0), .v (.int .i64 0), .v (.bool false), .v (.int .u8 0)] := by kernel_rfl
@[simp] theorem tab_t8 : tinfo Tryd.prog 8 = some (true, 4) := by kernel_rfl
@[simp] theorem tab_x8 : zel Tryd.prog 8 = some (.agg [.v (.int .i64 0), .v (.int .i64 0), .v (.bool false), .v (.int .u8 0)]) := by kernel_rfl
@[simp] theorem tab_z8 : zl Tryd.prog 8 = some [.v (.int .i64 0), .v (.int .i64 0), .v (.bool false), .v (.int .u8 0)] := by kernel_rfl
@[simp] theorem tab_t9 : tinfo Tryd.prog 9 = some (false, 1) := by kernel_rfl
@[simp] theorem tab_j9 : intk Tryd.prog 9 = none := by kernel_rfl
@[simp] theorem tab_x9 : zel Tryd.prog 9 = some (.v (.string ByteArray.empty)) := by kernel_rfl
@[simp] theorem tab_s9 : Tryd.prog.underlying 9 = some .string := by kernel_rfl
@[simp] theorem tab_z9 : zl Tryd.prog 9 = some [.v (.string ByteArray.empty)] := by kernel_rfl
@[simp] theorem tab_t10 : tinfo Tryd.prog 10 = some (false, 1) := by kernel_rfl
@[simp] theorem tab_j10 : intk Tryd.prog 10 = none := by kernel_rfl
@[simp] theorem tab_x10 : zel Tryd.prog 10 = some (.v (.string ByteArray.empty)) := by kernel_rfl
@[simp] theorem tab_s10 : Tryd.prog.underlying 10 = some .string := by kernel_rfl
@[simp] theorem tab_z10 : zl Tryd.prog 10 = some [.v (.string ByteArray.empty)] := by kernel_rfl
@[simp] theorem tab_t11 : tinfo Tryd.prog 11 = some (false, 1) := by kernel_rfl
@[simp] theorem tab_j11 : intk Tryd.prog 11 = none := by kernel_rfl
@[simp] theorem tab_x11 : zel Tryd.prog 11 = some (.v (.string ByteArray.empty)) := by kernel_rfl
@[simp] theorem tab_s11 : Tryd.prog.underlying 11 = some .string := by kernel_rfl
@[simp] theorem tab_z11 : zl Tryd.prog 11 = some [.v (.string ByteArray.empty)] := by kernel_rfl
@[simp] theorem tab_t12 : tinfo Tryd.prog 12 = some (false, 1) := by kernel_rfl
@[simp] theorem tab_i12 : intk Tryd.prog 12 = some .u64 := by kernel_rfl
@[simp] theorem tab_x12 : zel Tryd.prog 12 = some (.v (.int .u64 0)) := by kernel_rfl
@[simp] theorem tab_z12 : zl Tryd.prog 12 = some [.v (.int .u64 0)] := by kernel_rfl
@[simp] theorem tab_t13 : tinfo Tryd.prog 13 = some (true, 2) := by kernel_rfl
@[simp] theorem tab_x13 : zel Tryd.prog 13 = some (.agg [.v (.string ByteArray.empty), .v (.int .u64 0)]) := by kernel_rfl
@[simp] theorem tab_z13 : zl Tryd.prog 13 = some [.v (.string ByteArray.empty), .v (.int .u64 0)] := by kernel_rfl
@[simp] theorem tab_t14 : tinfo Tryd.prog 14 = some (true, 2) := by kernel_rfl
@[simp] theorem tab_x14 : zel Tryd.prog 14 = some (.agg [.v (.string ByteArray.empty), .v (.int .u64 0)]) := by kernel_rfl
@[simp] theorem tab_z14 : zl Tryd.prog 14 = some [.v (.string ByteArray.empty), .v (.int .u64 0)] := by kernel_rfl
@[simp] theorem tab_t15 : tinfo Tryd.prog 15 = some (false, 1) := by kernel_rfl
@[simp] theorem tab_x15 : zel Tryd.prog 15 = some (.v (.pointer none)) := by kernel_rfl
@[simp] theorem tab_z15 : zl Tryd.prog 15 = some [.v (.pointer none)] := by kernel_rfl
@[simp] theorem tab_t16 : tinfo Tryd.prog 16 = some (false, 1) := by kernel_rfl
@[simp] theorem tab_x16 : zel Tryd.prog 16 = some (.v (.pointer none)) := by kernel_rfl
@[simp] theorem tab_z16 : zl Tryd.prog 16 = some [.v (.pointer none)] := by kernel_rfl
@[simp] theorem tab_t17 : tinfo Tryd.prog 17 = some (false, 1) := by kernel_rfl
@[simp] theorem tab_x17 : zel Tryd.prog 17 = some (.v (.pointer none)) := by kernel_rfl
@[simp] theorem tab_z17 : zl Tryd.prog 17 = some [.v (.pointer none)] := by kernel_rfl
@[simp] theorem tab_t18 : tinfo Tryd.prog 18 = some (true, 1) := by kernel_rfl
@[simp] theorem tab_x18 : zel Tryd.prog 18 = some (.agg [.v (.pointer none)]) := by kernel_rfl
@[simp] theorem tab_z18 : zl Tryd.prog 18 = some [.v (.pointer none)] := by kernel_rfl
@[simp] theorem tab_t19 : tinfo Tryd.prog 19 = some (true, 1) := by kernel_rfl
@[simp] theorem tab_x19 : zel Tryd.prog 19 = some (.agg [.v (.pointer none)]) := by kernel_rfl
@[simp] theorem tab_z19 : zl Tryd.prog 19 = some [.v (.pointer none)] := by kernel_rfl
@[simp] theorem tab_t20 : tinfo Tryd.prog 20 = some (false, 1) := by kernel_rfl
@[simp] theorem tab_x20 : zel Tryd.prog 20 = some (.v (.nilIface)) := by kernel_rfl
@[simp] theorem tab_t21 : tinfo Tryd.prog 21 = some (false, 1) := by kernel_rfl
@[simp] theorem tab_i21 : intk Tryd.prog 21 = some .i32 := by kernel_rfl
@[simp] theorem tab_x21 : zel Tryd.prog 21 = some (.v (.int .i32 0)) := by kernel_rfl
@[simp] theorem tab_z21 : zl Tryd.prog 21 = some [.v (.int .i32 0)] := by kernel_rfl
@[simp] theorem tab_t22 : tinfo Tryd.prog 22 = some (false, 1) := by kernel_rfl
@[simp] theorem tab_e22 : einfo Tryd.prog 22 = some 9 := by kernel_rfl
@[simp] theorem tab_v22 : vinfo Tryd.prog 22 = some (9, 1, 16) := by kernel_rfl
@[simp] theorem tab_j22 : intk Tryd.prog 22 = none := by kernel_rfl
@[simp] theorem tab_x22 : zel Tryd.prog 22 = some (.v (.slice none 0 0)) := by kernel_rfl
@[simp] theorem tab_z22 : zl Tryd.prog 22 = some [.v (.slice none 0 0)] := by kernel_rfl
@[simp] theorem tab_t38 : tinfo Tryd.prog 38 = some (false, 1) := by kernel_rfl
@[simp] theorem tab_e38 : einfo Tryd.prog 38 = some 43 := by kernel_rfl
@[simp] theorem tab_v38 : vinfo Tryd.prog 38 = some (43, 4, 40) := by kernel_rfl
@[simp] theorem tab_j38 : intk Tryd.prog 38 = none := by kernel_rfl
@[simp] theorem tab_x38 : zel Tryd.prog 38 = some (.v (.slice none 0 0)) := by kernel_rfl
@[simp] theorem tab_z38 : zl Tryd.prog 38 = some [.v (.slice none 0 0)] := by kernel_rfl
@[simp] theorem tab_t39 : tinfo Tryd.prog 39 = some (false, 1) := by kernel_rfl
@[simp] theorem tab_i39 : intk Tryd.prog 39 = some .i64 := by kernel_rfl
@[simp] theorem tab_x39 : zel Tryd.prog 39 = some (.v (.int .i64 0)) := by kernel_rfl
@[simp] theorem tab_z39 : zl Tryd.prog 39 = some [.v (.int .i64 0)] := by kernel_rfl
@[simp] theorem tab_t42 : tinfo Tryd.prog 42 = some (true, 4) := by kernel_rfl
@[simp] theorem tab_x42 : zel Tryd.prog 42 = some (.agg [.v (.int .i64 0), .v (.string ByteArray.empty), .v (.int .i64 0), .v (.int .i64 0)]) := by kernel_rfl
@[simp] theorem tab_z42 : zl Tryd.prog 42 = some [.v (.int .i64 0), .v (.string ByteArray.empty), .v (.int .i64 0), .v (.int .i64 0)] := by kernel_rfl
@[simp] theorem tab_b42 : binfo Tryd.prog 42 = some [(0, 1), (1, 1), (2, 1), (3, 1)] := by kernel_rfl
@[simp] theorem tab_f42_0 : finfo Tryd.prog 42 0 = some (0, 3) := by kernel_rfl
@[simp] theorem tab_f42_1 : finfo Tryd.prog 42 1 = some (1, 9) := by kernel_rfl
@[simp] theorem tab_f42_2 : finfo Tryd.prog 42 2 = some (2, 3) := by kernel_rfl
@[simp] theorem tab_f42_3 : finfo Tryd.prog 42 3 = some (3, 3) := by kernel_rfl
@[simp] theorem tab_t43 : tinfo Tryd.prog 43 = some (true, 4) := by kernel_rfl
@[simp] theorem tab_x43 : zel Tryd.prog 43 = some (.agg [.v (.int .i64 0), .v (.string ByteArray.empty), .v (.int .i64 0), .v (.int .i64 0)]) := by kernel_rfl
@[simp] theorem tab_z43 : zl Tryd.prog 43 = some [.v (.int .i64 0), .v (.string ByteArray.empty), .v (.int .i64 0), .v (.int .i64 0)] := by kernel_rfl
@[simp] theorem tab_b43 : binfo Tryd.prog 43 = some [(0, 1), (1, 1), (2, 1), (3, 1)] := by kernel_rfl
@[simp] theorem tab_f43_0 : finfo Tryd.prog 43 0 = some (0, 3) := by kernel_rfl
@[simp] theorem tab_f43_1 : finfo Tryd.prog 43 1 = some (1, 9) := by kernel_rfl
@[simp] theorem tab_f43_2 : finfo Tryd.prog 43 2 = some (2, 3) := by kernel_rfl
@[simp] theorem tab_f43_3 : finfo Tryd.prog 43 3 = some (3, 3) := by kernel_rfl
@[simp] theorem tab_t51 : tinfo Tryd.prog 51 = some (false, 1) := by kernel_rfl
@[simp] theorem tab_x51 : zel Tryd.prog 51 = some (.v (.pointer none)) := by kernel_rfl
@[simp] theorem tab_z51 : zl Tryd.prog 51 = some [.v (.pointer none)] := by kernel_rfl
@[simp] theorem tab_t52 : tinfo Tryd.prog 52 = some (false, 1) := by kernel_rfl
@[simp] theorem tab_e52 : einfo Tryd.prog 52 = some 5 := by kernel_rfl
@[simp] theorem tab_v52 : vinfo Tryd.prog 52 = some (5, 1, 1) := by kernel_rfl
@[simp] theorem tab_j52 : intk Tryd.prog 52 = none := by kernel_rfl
@[simp] theorem tab_x52 : zel Tryd.prog 52 = some (.v (.slice none 0 0)) := by kernel_rfl
@[simp] theorem tab_z52 : zl Tryd.prog 52 = some [.v (.slice none 0 0)] := by kernel_rfl
@[simp] theorem tab_t53 : tinfo Tryd.prog 53 = some (true, 2) := by kernel_rfl
@[simp] theorem tab_x53 : zel Tryd.prog 53 = some (.agg [.v (.pointer none), .v (.slice none 0 0)]) := by kernel_rfl
@[simp] theorem tab_z53 : zl Tryd.prog 53 = some [.v (.pointer none), .v (.slice none 0 0)] := by kernel_rfl
@[simp] theorem tab_b53 : binfo Tryd.prog 53 = some [(0, 1), (1, 1)] := by kernel_rfl
@[simp] theorem tab_f53_0 : finfo Tryd.prog 53 0 = some (0, 51) := by kernel_rfl
@[simp] theorem tab_f53_1 : finfo Tryd.prog 53 1 = some (1, 52) := by kernel_rfl
@[simp] theorem tab_t54 : tinfo Tryd.prog 54 = some (true, 2) := by kernel_rfl
@[simp] theorem tab_x54 : zel Tryd.prog 54 = some (.agg [.v (.pointer none), .v (.slice none 0 0)]) := by kernel_rfl
@[simp] theorem tab_z54 : zl Tryd.prog 54 = some [.v (.pointer none), .v (.slice none 0 0)] := by kernel_rfl
@[simp] theorem tab_b54 : binfo Tryd.prog 54 = some [(0, 1), (1, 1)] := by kernel_rfl
@[simp] theorem tab_f54_0 : finfo Tryd.prog 54 0 = some (0, 51) := by kernel_rfl
@[simp] theorem tab_f54_1 : finfo Tryd.prog 54 1 = some (1, 52) := by kernel_rfl
@[simp] theorem tab_t55 : tinfo Tryd.prog 55 = some (false, 1) := by kernel_rfl
@[simp] theorem tab_x55 : zel Tryd.prog 55 = some (.v (.nilIface)) := by kernel_rfl
@[simp] theorem tab_t56 : tinfo Tryd.prog 56 = some (false, 1) := by kernel_rfl
@[simp] theorem tab_x56 : zel Tryd.prog 56 = some (.v (.nilIface)) := by kernel_rfl
@[simp] theorem tab_t68 : tinfo Tryd.prog 68 = some (false, 1) := by kernel_rfl
@[simp] theorem tab_i68 : intk Tryd.prog 68 = some .u64 := by kernel_rfl
@[simp] theorem tab_x68 : zel Tryd.prog 68 = some (.v (.int .u64 0)) := by kernel_rfl
@[simp] theorem tab_z68 : zl Tryd.prog 68 = some [.v (.int .u64 0)] := by kernel_rfl
@[simp] theorem tab_t71 : tinfo Tryd.prog 71 = some (false, 1) := by kernel_rfl
@[simp] theorem tab_x71 : zel Tryd.prog 71 = some (.v (.pointer none)) := by kernel_rfl
@[simp] theorem tab_z71 : zl Tryd.prog 71 = some [.v (.pointer none)] := by kernel_rfl
@[simp] theorem tab_t72 : tinfo Tryd.prog 72 = some (true, 4) := by kernel_rfl
@[simp] theorem tab_x72 : zel Tryd.prog 72 = some (.agg [.v (.string ByteArray.empty), .v (.int .i64 0), .v (.int .i64 0), .v (.slice none 0 0)]) := by kernel_rfl
@[simp] theorem tab_z72 : zl Tryd.prog 72 = some [.v (.string ByteArray.empty), .v (.int .i64 0), .v (.int .i64 0), .v (.slice none 0 0)] := by kernel_rfl
@[simp] theorem tab_b72 : binfo Tryd.prog 72 = some [(0, 1), (1, 1), (2, 1), (3, 1)] := by kernel_rfl
@[simp] theorem tab_f72_0 : finfo Tryd.prog 72 0 = some (0, 9) := by kernel_rfl
@[simp] theorem tab_f72_1 : finfo Tryd.prog 72 1 = some (1, 3) := by kernel_rfl
@[simp] theorem tab_f72_2 : finfo Tryd.prog 72 2 = some (2, 3) := by kernel_rfl
@[simp] theorem tab_f72_3 : finfo Tryd.prog 72 3 = some (3, 38) := by kernel_rfl
@[simp] theorem tab_t73 : tinfo Tryd.prog 73 = some (true, 4) := by kernel_rfl
@[simp] theorem tab_x73 : zel Tryd.prog 73 = some (.agg [.v (.string ByteArray.empty), .v (.int .i64 0), .v (.int .i64 0), .v (.slice none 0 0)]) := by kernel_rfl
@[simp] theorem tab_z73 : zl Tryd.prog 73 = some [.v (.string ByteArray.empty), .v (.int .i64 0), .v (.int .i64 0), .v (.slice none 0 0)] := by kernel_rfl
@[simp] theorem tab_b73 : binfo Tryd.prog 73 = some [(0, 1), (1, 1), (2, 1), (3, 1)] := by kernel_rfl
@[simp] theorem tab_f73_0 : finfo Tryd.prog 73 0 = some (0, 9) := by kernel_rfl
@[simp] theorem tab_f73_1 : finfo Tryd.prog 73 1 = some (1, 3) := by kernel_rfl
@[simp] theorem tab_f73_2 : finfo Tryd.prog 73 2 = some (2, 3) := by kernel_rfl
@[simp] theorem tab_f73_3 : finfo Tryd.prog 73 3 = some (3, 38) := by kernel_rfl
@[simp] theorem tab_t80 : tinfo Tryd.prog 80 = some (false, 1) := by kernel_rfl
@[simp] theorem tab_e80 : einfo Tryd.prog 80 = some 84 := by kernel_rfl
@[simp] theorem tab_v80 : vinfo Tryd.prog 80 = some (84, 5, 56) := by kernel_rfl
@[simp] theorem tab_j80 : intk Tryd.prog 80 = none := by kernel_rfl
@[simp] theorem tab_x80 : zel Tryd.prog 80 = some (.v (.slice none 0 0)) := by kernel_rfl
@[simp] theorem tab_z80 : zl Tryd.prog 80 = some [.v (.slice none 0 0)] := by kernel_rfl
@[simp] theorem tab_t82 : tinfo Tryd.prog 82 = some (false, 1) := by kernel_rfl
@[simp] theorem tab_e82 : einfo Tryd.prog 82 = some 4 := by kernel_rfl
@[simp] theorem tab_v82 : vinfo Tryd.prog 82 = some (4, 1, 1) := by kernel_rfl
@[simp] theorem tab_j82 : intk Tryd.prog 82 = none := by kernel_rfl
@[simp] theorem tab_x82 : zel Tryd.prog 82 = some (.v (.slice none 0 0)) := by kernel_rfl
@[simp] theorem tab_z82 : zl Tryd.prog 82 = some [.v (.slice none 0 0)] := by kernel_rfl
@[simp] theorem tab_t83 : tinfo Tryd.prog 83 = some (true, 5) := by kernel_rfl
@[simp] theorem tab_x83 : zel Tryd.prog 83 = some (.agg [.v (.int .i64 0), .v (.int .u8 0), .v (.string ByteArray.empty), .v (.bool false), .v (.string ByteArray.empty)]) := by kernel_rfl
@[simp] theorem tab_z83 : zl Tryd.prog 83 = some [.v (.int .i64 0), .v (.int .u8 0), .v (.string ByteArray.empty), .v (.bool false), .v (.string ByteArray.empty)] := by kernel_rfl
@[simp] theorem tab_b83 : binfo Tryd.prog 83 = some [(0, 1), (1, 1), (2, 1), (3, 1), (4, 1)] := by kernel_rfl
@[simp] theorem tab_f83_0 : finfo Tryd.prog 83 0 = some (0, 3) := by kernel_rfl
@[simp] theorem tab_f83_1 : finfo Tryd.prog 83 1 = some (1, 5) := by kernel_rfl
@[simp] theorem tab_f83_2 : finfo Tryd.prog 83 2 = some (2, 9) := by kernel_rfl
@[simp] theorem tab_f83_3 : finfo Tryd.prog 83 3 = some (3, 4) := by kernel_rfl
@[simp] theorem tab_f83_4 : finfo Tryd.prog 83 4 = some (4, 9) := by kernel_rfl
@[simp] theorem tab_t84 : tinfo Tryd.prog 84 = some (true, 5) := by kernel_rfl
@[simp] theorem tab_x84 : zel Tryd.prog 84 = some (.agg [.v (.int .i64 0), .v (.int .u8 0), .v (.string ByteArray.empty), .v (.bool false), .v (.string ByteArray.empty)]) := by kernel_rfl
@[simp] theorem tab_z84 : zl Tryd.prog 84 = some [.v (.int .i64 0), .v (.int .u8 0), .v (.string ByteArray.empty), .v (.bool false), .v (.string ByteArray.empty)] := by kernel_rfl
@[simp] theorem tab_b84 : binfo Tryd.prog 84 = some [(0, 1), (1, 1), (2, 1), (3, 1), (4, 1)] := by kernel_rfl
@[simp] theorem tab_f84_0 : finfo Tryd.prog 84 0 = some (0, 3) := by kernel_rfl
@[simp] theorem tab_f84_1 : finfo Tryd.prog 84 1 = some (1, 5) := by kernel_rfl
@[simp] theorem tab_f84_2 : finfo Tryd.prog 84 2 = some (2, 9) := by kernel_rfl
@[simp] theorem tab_f84_3 : finfo Tryd.prog 84 3 = some (3, 4) := by kernel_rfl
@[simp] theorem tab_f84_4 : finfo Tryd.prog 84 4 = some (4, 9) := by kernel_rfl
@[simp] theorem tab_t87 : tinfo Tryd.prog 87 = some (false, 1) := by kernel_rfl
@[simp] theorem tab_x87 : zel Tryd.prog 87 = some (.v (.pointer none)) := by kernel_rfl
@[simp] theorem tab_z87 : zl Tryd.prog 87 = some [.v (.pointer none)] := by kernel_rfl
@[simp] theorem tab_t88 : tinfo Tryd.prog 88 = some (false, 1) := by kernel_rfl
@[simp] theorem tab_e88 : einfo Tryd.prog 88 = some 90 := by kernel_rfl
@[simp] theorem tab_v88 : vinfo Tryd.prog 88 = some (90, 2, 16) := by kernel_rfl
@[simp] theorem tab_j88 : intk Tryd.prog 88 = none := by kernel_rfl
@[simp] theorem tab_x88 : zel Tryd.prog 88 = some (.v (.slice none 0 0)) := by kernel_rfl
@[simp] theorem tab_z88 : zl Tryd.prog 88 = some [.v (.slice none 0 0)] := by kernel_rfl
@[simp] theorem tab_t89 : tinfo Tryd.prog 89 = some (true, 2) := by kernel_rfl
@[simp] theorem tab_x89 : zel Tryd.prog 89 = some (.agg [.v (.int .i64 0), .v (.int .i64 0)]) := by kernel_rfl
@[simp] theorem tab_z89 : zl Tryd.prog 89 = some [.v (.int .i64 0), .v (.int .i64 0)] := by kernel_rfl
@[simp] theorem tab_b89 : binfo Tryd.prog 89 = some [(0, 1), (1, 1)] := by kernel_rfl
@[simp] theorem tab_f89_0 : finfo Tryd.prog 89 0 = some (0, 3) := by kernel_rfl
@[simp] theorem tab_f89_1 : finfo Tryd.prog 89 1 = some (1, 3) := by kernel_rfl
@[simp] theorem tab_t90 : tinfo Tryd.prog 90 = some (true, 2) := by kernel_rfl
@[simp] theorem tab_x90 : zel Tryd.prog 90 = some (.agg [.v (.int .i64 0), .v (.int .i64 0)]) := by kernel_rfl
@[simp] theorem tab_z90 : zl Tryd.prog 90 = some [.v (.int .i64 0), .v (.int .i64 0)] := by kernel_rfl
@[simp] theorem tab_b90 : binfo Tryd.prog 90 = some [(0, 1), (1, 1)] := by kernel_rfl
@[simp] theorem tab_f90_0 : finfo Tryd.prog 90 0 = some (0, 3) := by kernel_rfl
@[simp] theorem tab_f90_1 : finfo Tryd.prog 90 1 = some (1, 3) := by kernel_rfl
@[simp] theorem tab_t98 : tinfo Tryd.prog 98 = some (false, 1) := by kernel_rfl
@[simp] theorem tab_x98 : zel Tryd.prog 98 = some (.v (.pointer none)) := by kernel_rfl
@[simp] theorem tab_t100 : tinfo Tryd.prog 100 = some (false, 1) := by kernel_rfl
@[simp] theorem tab_i100 : intk Tryd.prog 100 = some .i64 := by kernel_rfl
@[simp] theorem tab_x100 : zel Tryd.prog 100 = some (.v (.int .i64 0)) := by kernel_rfl
@[simp] theorem tab_z100 : zl Tryd.prog 100 = some [.v (.int .i64 0)] := by kernel_rfl
@[simp] theorem tab_t101 : tinfo Tryd.prog 101 = some (false, 1) := by kernel_rfl
@[simp] theorem tab_i101 : intk Tryd.prog 101 = some .u64 := by kernel_rfl
@[simp] theorem tab_x101 : zel Tryd.prog 101 = some (.v (.int .u64 0)) := by kernel_rfl
@[simp] theorem tab_z101 : zl Tryd.prog 101 = some [.v (.int .u64 0)] := by kernel_rfl
@[simp] theorem tab_t104 : tinfo Tryd.prog 104 = some (false, 1) := by kernel_rfl
@[simp] theorem tab_x104 : zel Tryd.prog 104 = some (.v (.pointer none)) := by kernel_rfl
@[simp] theorem tab_z104 : zl Tryd.prog 104 = some [.v (.pointer none)] := by kernel_rfl
@[simp] theorem tab_t107 : tinfo Tryd.prog 107 = some (true, 24) := by kernel_rfl
@[simp] theorem tab_x107 : zel Tryd.prog 107 = some (.agg [.v (.int .u8 0), .v (.int .u8 0), .v (.int .u8 0), .v (.int .u8 0), .v (.int .u8 0), .v (.int .u8 0), .v (.int .u8 0), .v (.int .u8 0), .v (.int .u8 0), .v (.int .u8 0), .v (.int .u8 0), .v (.int .u8 0), .v (.int .u8 0), .v (.int .u8 0), .v (.int .u8 0), .v (.int .u8 0), .v (.int .u8 0), .v (.int .u8 0), .v (.int .u8 0), .v (.int .u8 0), .v (.int .u8 0), .v (.int .u8 0), .v (.int .u8 0), .v (.int .u8 0)]) := by kernel_rfl
@[simp] theorem tab_t115 : tinfo Tryd.prog 115 = some (true, 3) := by kernel_rfl
@[simp] theorem tab_x115 : zel Tryd.prog 115 = some (.agg [.v (.string ByteArray.empty), .v (.string ByteArray.empty), .v (.nilIface)]) := by kernel_rfl
@[simp] theorem tab_z115 : zl Tryd.prog 115 = some [.v (.string ByteArray.empty), .v (.string ByteArray.empty), .v (.nilIface)] := by kernel_rfl
@[simp] theorem tab_b115 : binfo Tryd.prog 115 = some [(0, 1), (1, 1), (2, 1)] := by kernel_rfl
@[simp] theorem tab_f115_0 : finfo Tryd.prog 115 0 = some (0, 9) := by kernel_rfl
@[simp] theorem tab_f115_1 : finfo Tryd.prog 115 1 = some (1, 9) := by kernel_rfl
@[simp] theorem tab_f115_2 : finfo Tryd.prog 115 2 = some (2, 56) := by kernel_rfl
@[simp] theorem tab_t116 : tinfo Tryd.prog 116 = some (true, 3) := by kernel_rfl
@[simp] theorem tab_x116 : zel Tryd.prog 116 = some (.agg [.v (.string ByteArray.empty), .v (.string ByteArray.empty), .v (.nilIface)]) := by kernel_rfl
@[simp] theorem tab_z116 : zl Tryd.prog 116 = some [.v (.string ByteArray.empty), .v (.string ByteArray.empty), .v (.nilIface)] := by kernel_rfl
@[simp] theorem tab_b116 : binfo Tryd.prog 116 = some [(0, 1), (1, 1), (2, 1)] := by kernel_rfl
@[simp] theorem tab_f116_0 : finfo Tryd.prog 116 0 = some (0, 9) := by kernel_rfl
@[simp] theorem tab_f116_1 : finfo Tryd.prog 116 1 = some (1, 9) := by kernel_rfl
@[simp] theorem tab_f116_2 : finfo Tryd.prog 116 2 = some (2, 56) := by kernel_rfl
@[simp] theorem tab_t120 : tinfo Tryd.prog 120 = some (true, 20) := by kernel_rfl
@[simp] theorem tab_x120 : zel Tryd.prog 120 = some (.agg [.v (.int .u64 0), .v (.int .u64 0), .v (.int .u64 0), .v (.int .u64 0), .v (.int .u64 0), .v (.int .u64 0), .v (.int .u64 0), .v (.int .u64 0), .v (.int .u64 0), .v (.int .u64 0), .v (.int .u64 0), .v (.int .u64 0), .v (.int .u64 0), .v (.int .u64 0), .v (.int .u64 0), .v (.int .u64 0), .v (.int .u64 0), .v (.int .u64 0), .v (.int .u64 0), .v (.int .u64 0)]) := by kernel_rfl
@[simp] theorem tab_t121 : tinfo Tryd.prog 121 = some (false, 1) := by kernel_rfl
@[simp] theorem tab_i121 : intk Tryd.prog 121 = some .u32 := by kernel_rfl
@[simp] theorem tab_x121 : zel Tryd.prog 121 = some (.v (.int .u32 0)) := by kernel_rfl
@[simp] theorem tab_z121 : zl Tryd.prog 121 = some [.v (.int .u32 0)] := by kernel_rfl
@[simp] theorem tab_t122 : tinfo Tryd.prog 122 = some (true, 65) := by kernel_rfl
@[simp] theorem tab_x122 : zel Tryd.prog 122 = some (.agg [.v (.int .u8 0), .v (.int .u8 0), .v (.int .u8 0), .v (.int .u8 0), .v (.int .u8 0), .v (.int .u8 0), .v (.int .u8 0), .v (.int .u8 0), .v (.int .u8 0), .v (.int .u8 0), .v (.int .u8 0), .v (.int .u8 0), .v (.int .u8 0), .v (.int .u8 0), .v (.int .u8 0), .v (.int .u8 0), .v (.int .u8 0), .v (.int .u8 0), .v (.int .u8 0), .v (.int .u8 0), .v (.int .u8 0), .v (.int .u8 0), .v (.int .u8 0), .v (.int .u8 0), .v (.int .u8 0), .v (.int .u8 0), .v (.int .u8 0), .v (.int .u8 0), .v (.int .u8 0), .v (.int .u8 0), .v (.int .u8 0), .v (.int .u8 0), .v (.int .u8 0), .v (.int .u8 0), .v (.int .u8 0), .v (.int .u8 0), .v (.int .u8 0), .v (.int .u8 0), .v (.int .u8 0), .v (.int .u8 0), .v (.int .u8 0), .v (.int .u8 0), .v (.int .u8 0), .v (.int .u8 0), .v (.int .u8 0), .v (.int .u8 0), .v (.int .u8 0), .v (.int .u8 0), .v (.int .u8 0), .v (.int .u8 0), .v (.int .u8 0), .v (.int .u8 0), .v (.int .u8 0), .v (.int .u8 0), .v (.int .u8 0), .v (.int .u8 0), .v (.int .u8 0), .v (.int .u8 0), .v (.int .u8 0), .v (.int .u8 0), .v (.int .u8 0), .v (.int .u8 0), .v (.int .u8 0), .v (.int .u8 0), .v (.int .u8 0)]) := by kernel_rfl
@[simp] theorem tab_t126 : tinfo Tryd.prog 126 = some (true, 256) := by kernel_rfl
@[simp] theorem tab_x126 : zel Tryd.prog 126 = some (.agg [.v (.bool false), .v (.bool false), .v (.bool false), .v (.bool false), .v (.bool false), .v (.bool false), .v (.bool false), .v (.bool false), .v (.bool false), .v (.bool false), .v (.bool false), .v (.bool false), .v (.bool false), .v (.bool false), .v (.bool false), .v (.bool false), .v (.bool false), .v (.bool false), .v (.bool false), .v (.bool false), .v (.bool false), .v (.bool false), .v (.bool false), .v (.bool false), .v (.bool false), .v (.bool false), .v (.bool false), .v (.bool false), .v (.bool false), .v (.bool false), .v (.bool false), .v (.bool false), .v (.bool false), .v (.bool false), .v (.bool false), .v (.bool false), .v (.bool false), .v (.bool false), .v (.bool false), .v (.bool false), .v (.bool false), .v (.bool false), .v (.bool false), .v (.bool false), .v (.bool false), .v (.bool false), .v (.bool false), .v (.bool false), .v (.bool false), .v (.bool false), .v (.bool false), .v (.bool false), .v (.bool false), .v (.bool false), .v (.bool false), .v (.bool false), .v (.bool false), .v (.bool false), .v (.bool false), .v (.bool false), .v (.bool false), .v (.bool false), .v (.bool false), .v (.bool false), .v (.bool false), .v (.bool false), .v (.bool false), .v (.bool false), .v (.bool false), .v (.bool false), .v (.bool false), .v (.bool false), .v (.bool false), .v (.bool false), .v (.bool false), .v (.bool false), .v (.bool false), .v (.bool false), .v (.bool false), .v (.bool false), .v (.bool false), .v (.bool false), .v (.bool false), .v (.bool false), .v (.bool false), .v (.bool false), .v (.bool false), .v (.bool false), .v (.bool false), .v (.bool false), .v (.bool false), .v (.bool false), .v (.bool false), .v (.bool false), .v (.bool false), .v (.bool false), .v (.bool false), .v (.bool false), .v (.bool false), .v (.bool false), .v (.bool false), .v (.bool false), .v (.bool false), .v (.bool false), .v (.bool false), .v (.bool false), .v (.bool false), .v (.bool false), .v (.bool false), .v (.bool false), .v (.bool false), .v (.bool false), .v (.bool false), .v (.bool false), .v (.bool false), .v (.bool false), .v (.bool false), .v (.bool false), .v (.bool false), .v (.bool false), .v (.bool false), .v (.bool false), .v (.bool false), .v (.bool false), .v (.bool false), .v (.bool false), .v (.bool false), .v (.bool false), .v (.bool false), .v (.bool false), .v (.bool false), .v (.bool false), .v (.bool false), .v (.bool false), .v (.bool false), .v (.bool false), .v (.bool false), .v (.bool false), .v (.bool false), .v (.bool false), .v (.bool false), .v (.bool false), .v (.bool false), .v (.bool false), .v (.bool false), .v (.bool false), .v (.bool false), .v (.bool false), .v (.bool false), .v (.bool false), .v (.bool false), .v (.bool false), .v (.bool false), .v (.bool false), .v (.bool false), .v (.bool false), .v (.bool false), .v (.bool false), .v (.bool false), .v (.bool false), .v (.bool false), .v (.bool false), .v (.bool false), .v (.bool false), .v (.bool false), .v (.bool false), .v (.bool false), .v (.bool false), .v (.bool false), .v (.bool false), .v (.bool false), .v (.bool false), .v (.bool false), .v (.bool false), .v (.bool false), .v (.bool false), .v (.bool false), .v (.bool false), .v (.bool false), .v (.bool false), .v (.bool false), .v (.bool false), .v (.bool false), .v (.bool false), .v (.bool false), .v (.bool false), .v (.bool false), .v (.bool false), .v (.bool false), .v (.bool false), .v (.bool false), .v (.bool false), .v (.bool false), .v (.bool false), .v (.bool false), .v (.bool false), .v (.bool false), .v (.bool false), .v (.bool false), .v (.bool false), .v (.bool false), .v (.bool false), .v (.bool false), .v (.bool false), .v (.bool false), .v (.bool false), .v (.bool false), .v (.bool false), .v (.bool false), .v (.bool false), .v (.bool false), .v (.bool false), .v (.bool false), .v (.bool false), .v (.bool false), .v (.bool false), .v (.bool false), .v (.bool false), .v (.bool false), .v (.bool false), .v (.bool false), .v (.bool false), .v (.bool false), .v (.bool false), .v (.bool false), .v (.bool false), .v (.bool false), .v (.bool false), .v (.bool false), .v (.bool false), .v (.bool false), .v (.bool false), .v (.bool false), .v (.bool false), .v (.bool false), .v (.bool false), .v (.bool false), .v (.bool false), .v (.bool false), .v (.bool false), .v (.bool false), .v (.bool false), .v (.bool false), .v (.bool false), .v (.bool false), .v (.bool false), .v (.bool false), .v (.bool false), .v (.bool false), .v (.bool false), .v (.bool false), .v (.bool false), .v (.bool false), .v (.bool false), .v (.bool false), .v (.bool false)]) := by kernel_rfl
@[simp] theorem tab_t127 : tinfo Tryd.prog 127 = some (true, 256) := by kernel_rfl
@[simp] theorem tab_x127 : zel Tryd.prog 127 = some (.agg [.v (.bool false), .v (.bool false), .v (.bool false), .v (.bool false), .v (.bool false), .v (.bool false), .v (.bool false), .v (.bool false), .v (.bool false), .v (.bool false), .v (.bool false), .v (.bool false), .v (.bool false), .v (.bool false), .v (.bool false), .v (.bool false), .v (.bool false), .v (.bool false), .v (.bool false), .v (.bool false), .v (.bool false), .v (.bool false), .v (.bool false), .v (.bool false), .v (.bool false), .v (.bool false), .v (.bool false), .v (.bool false), .v (.bool false), .v (.bool false), .v (.bool false), .v (.bool false), .v (.bool false), .v (.bool false), .v (.bool false), .v (.bool false), .v (.bool false), .v (.bool false), .v (.bool false), .v (.bool false), .v (.bool false), .v (.bool false), .v (.bool false), .v (.bool false), .v (.bool false), .v (.bool false), .v (.bool false), .v (.bool false), .v (.bool false), .v (.bool false), .v (.bool false), .v (.bool false), .v (.bool false), .v (.bool false), .v (.bool false), .v (.bool false), .v (.bool false), .v (.bool false), .v (.bool false), .v (.bool false), .v (.bool false), .v (.bool false), .v (.bool false), .v (.bool false), .v (.bool false), .v (.bool false), .v (.bool false), .v (.bool false), .v (.bool false), .v (.bool false), .v (.bool false), .v (.bool false), .v (.bool false), .v (.bool false), .v (.bool false), .v (.bool false), .v (.bool false), .v (.bool false), .v (.bool false), .v (.bool false), .v (.bool false), .v (.bool false), .v (.bool false), .v (.bool false), .v (.bool false), .v (.bool false), .v (.bool false), .v (.bool false), .v (.bool false), .v (.bool false), .v (.bool false), .v (.bool false), .v (.bool false), .v (.bool false), .v (.bool false), .v (.bool false), .v (.bool false), .v (.bool false), .v (.bool false), .v (.bool false), .v (.bool false), .v (.bool false), .v (.bool false), .v (.bool false), .v (.bool false), .v (.bool false), .v (.bool false), .v (.bool false), .v (.bool false), .v (.bool false), .v (.bool false), .v (.bool false), .v (.bool false), .v (.bool false), .v (.bool false), .v (.bool false), .v (.bool false), .v (.bool false), .v (.bool false), .v (.bool false), .v (.bool false), .v (.bool false), .v (.bool false), .v (.bool false), .v (.bool false), .v (.bool false), .v (.bool false), .v (.bool false), .v (.bool false), .v (.bool false), .v (.bool false), .v (.bool false), .v (.bool false), .v (.bool false), .v (.bool false), .v (.bool false), .v (.bool false), .v (.bool false), .v (.bool false), .v (.bool false), .v (.bool false), .v (.bool false), .v (.bool false), .v (.bool false), .v (.bool false), .v (.bool false), .v (.bool false), .v (.bool false), .v (.bool false), .v (.bool false), .v (.bool false), .v (.bool false), .v (.bool false), .v (.bool false), .v (.bool false), .v (.bool false), .v (.bool false), .v (.bool false), .v (.bool false), .v (.bool false), .v (.bool false), .v (.bool false), .v (.bool false), .v (.bool false), .v (.bool false), .v (.bool false), .v (.bool false), .v (.bool false), .v (.bool false), .v (.bool false), .v (.bool false), .v (.bool false), .v (.bool false), .v (.bool false), .v (.bool false), .v (.bool false), .v (.bool false), .v (.bool false), .v (.bool false), .v (.bool false), .v (.bool false), .v (.bool false), .v (.bool false), .v (.bool false), .v (.bool false), .v (.bool false), .v (.bool false), .v (.bool false), .v (.bool false), .v (.bool false), .v (.bool false), .v (.bool false), .v (.bool false), .v (.bool false), .v (.bool false), .v (.bool false), .v (.bool false), .v (.bool false), .v (.bool false), .v (.bool false), .v (.bool false), .v (.bool false), .v (.bool false), .v (.bool false), .v (.bool false), .v (.bool false), .v (.bool false), .v (.bool false), .v (.bool false), .v (.bool false), .v (.bool false), .v (.bool false), .v (.bool false), .v (.bool false), .v (.bool false), .v (.bool false), .v (.bool false), .v (.bool false), .v (.bool false), .v (.bool false), .v (.bool false), .v (.bool false), .v (.bool false), .v (.bool false), .v (.bool false), .v (.bool false), .v (.bool false), .v (.bool false), .v (.bool false), .v (.bool false), .v (.bool false), .v (.bool false), .v (.bool false), .v (.bool false), .v (.bool false), .v (.bool false), .v (.bool false), .v (.bool false), .v (.bool false), .v (.bool false), .v (.bool false), .v (.bool false), .v (.bool false), .v (.bool false), .v (.bool false), .v (.bool false), .v (.bool false), .v (.bool false), .v (.bool false), .v (.bool false), .v (.bool false), .v (.bool false), .v (.bool false), .v (.bool false), .v (.bool false), .v (.bool false)]) := by kernel_rfl
@[simp] theorem tab_t131 : tinfo Tryd.prog 131 = some (false, 1) := by kernel_rfl
@[simp] theorem tab_x131 : zel Tryd.prog 131 = some (.v (.pointer none)) := by kernel_rfl
@[simp] theorem tab_z131 : zl Tryd.prog 131 = some [.v (.pointer none)] := by kernel_rfl
@[simp] theorem tab_t132 : tinfo Tryd.prog 132 = some (false, 1) := by kernel_rfl
@[simp] theorem tab_x132 : zel Tryd.prog 132 = some (.v (.pointer none)) := by kernel_rfl
@[simp] theorem tab_z132 : zl Tryd.prog 132 = some [.v (.pointer none)] := by kernel_rfl
@[simp] theorem tab_t133 : tinfo Tryd.prog 133 = some (true, 1) := by kernel_rfl
@[simp] theorem tab_x133 : zel Tryd.prog 133 = some (.agg [.v (.string ByteArray.empty)]) := by kernel_rfl
@[simp] theorem tab_z133 : zl Tryd.prog 133 = some [.v (.string ByteArray.empty)] := by kernel_rfl
@[simp] theorem tab_b133 : binfo Tryd.prog 133 = some [(0, 1)] := by kernel_rfl
@[simp] theorem tab_f133_0 : finfo Tryd.prog 133 0 = some (0, 9) := by kernel_rfl
@[simp] theorem tab_t134 : tinfo Tryd.prog 134 = some (true, 1) := by kernel_rfl
@[simp] theorem tab_x134 : zel Tryd.prog 134 = some (.agg [.v (.string ByteArray.empty)]) := by kernel_rfl
@[simp] theorem tab_z134 : zl Tryd.prog 134 = some [.v (.string ByteArray.empty)] := by kernel_rfl
@[simp] theorem tab_b134 : binfo Tryd.prog 134 = some [(0, 1)] := by kernel_rfl
@[simp] theorem tab_f134_0 : finfo Tryd.prog 134 0 = some (0, 9) := by kernel_rfl
@[simp] theorem tab_t137 : tinfo Tryd.prog 137 = some (true, 256) := by kernel_rfl
@[simp] theorem tab_x137 : zel Tryd.prog 137 = some (.agg [.v (.int .u8 0), .v (.int .u8 0), .v (.int .u8 0), .v (.int .u8 0), .v (.int .u8 0), .v (.int .u8 0), .v (.int .u8 0), .v (.int .u8 0), .v (.int .u8 0), .v (.int .u8 0), .v (.int .u8 0), .v (.int .u8 0), .v (.int .u8 0), .v (.int .u8 0), .v (.int .u8 0), .v (.int .u8 0), .v (.int .u8 0), .v (.int .u8 0), .v (.int .u8 0), .v (.int .u8 0), .v (.int .u8 0), .v (.int .u8 0), .v (.int .u8 0), .v (.int .u8 0), .v (.int .u8 0), .v (.int .u8 0), .v (.int .u8 0), .v (.int .u8 0), .v (.int .u8 0), .v (.int .u8 0), .v (.int .u8 0), .v (.int .u8 0), .v (.int .u8 0), .v (.int .u8 0), .v (.int .u8 0), .v (.int .u8 0), .v (.int .u8 0), .v (.int .u8 0), .v (.int .u8 0), .v (.int .u8 0), .v (.int .u8 0), .v (.int .u8 0), .v (.int .u8 0), .v (.int .u8 0), .v (.int .u8 0), .v (.int .u8 0), .v (.int .u8 0), .v (.int .u8 0), .v (.int .u8 0), .v (.int .u8 0), .v (.int .u8 0), .v (.int .u8 0), .v (.int .u8 0), .v (.int .u8 0), .v (.int .u8 0), .v (.int .u8 0), .v (.int .u8 0), .v (.int .u8 0), .v (.int .u8 0), .v (.int .u8 0), .v (.int .u8 0), .v (.int .u8 0), .v (.int .u8 0), .v (.int .u8 0), .v (.int .u8 0), .v (.int .u8 0), .v (.int .u8 0), .v (.int .u8 0), .v (.int .u8 0), .v (.int .u8 0), .v (.int .u8 0), .v (.int .u8 0), .v (.int .u8 0), .v (.int .u8 0), .v (.int .u8 0), .v (.int .u8 0), .v (.int .u8 0), .v (.int .u8 0), .v (.int .u8 0), .v (.int .u8 0), .v (.int .u8 0), .v (.int .u8 0), .v (.int .u8 0), .v (.int .u8 0), .v (.int .u8 0), .v (.int .u8 0), .v (.int .u8 0), .v (.int .u8 0), .v (.int .u8 0), .v (.int .u8 0), .v (.int .u8 0), .v (.int .u8 0), .v (.int .u8 0), .v (.int .u8 0), .v (.int .u8 0), .v (.int .u8 0), .v (.int .u8 0), .v (.int .u8 0), .v (.int .u8 0), .v (.int .u8 0), .v (.int .u8 0), .v (.int .u8 0), .v (.int .u8 0), .v (.int .u8 0), .v (.int .u8 0), .v (.int .u8 0), .v (.int .u8 0), .v (.int .u8 0), .v (.int .u8 0), .v (.int .u8 0), .v (.int .u8 0), .v (.int .u8 0), .v (.int .u8 0), .v (.int .u8 0), .v (.int .u8 0), .v (.int .u8 0), .v (.int .u8 0), .v (.int .u8 0), .v (.int .u8 0), .v (.int .u8 0), .v (.int .u8 0), .v (.int .u8 0), .v (.int .u8 0), .v (.int .u8 0), .v (.int .u8 0), .v (.int .u8 0), .v (.int .u8 0), .v (.int .u8 0), .v (.int .u8 0), .v (.int .u8 0), .v (.int .u8 0), .v (.int .u8 0), .v (.int .u8 0), .v (.int .u8 0), .v (.int .u8 0), .v (.int .u8 0), .v (.int .u8 0), .v (.int .u8 0), .v (.int .u8 0), .v (.int .u8 0), .v (.int .u8 0), .v (.int .u8 0), .v (.int .u8 0), .v (.int .u8 0), .v (.int .u8 0), .v (.int .u8 0), .v (.int .u8 0), .v (.int .u8 0), .v (.int .u8 0), .v (.int .u8 0), .v (.int .u8 0), .v (.int .u8 0), .v (.int .u8 0), .v (.int .u8 0), .v (.int .u8 0), .v (.int .u8 0), .v (.int .u8 0), .v (.int .u8 0), .v (.int .u8 0), .v (.int .u8 0), .v (.int .u8 0), .v (.int .u8 0), .v (.int .u8 0), .v (.int .u8 0), .v (.int .u8 0), .v (.int .u8 0), .v (.int .u8 0), .v (.int .u8 0), .v (.int .u8 0), .v (.int .u8 0), .v (.int .u8 0), .v (.int .u8 0), .v (.int .u8 0), .v (.int .u8 0), .v (.int .u8 0), .v (.int .u8 0), .v (.int .u8 0), .v (.int .u8 0), .v (.int .u8 0), .v (.int .u8 0), .v (.int .u8 0), .v (.int .u8 0), .v (.int .u8 0), .v (.int .u8 0), .v (.int .u8 0), .v (.int .u8 0), .v (.int .u8 0), .v (.int .u8 0), .v (.int .u8 0), .v (.int .u8 0), .v (.int .u8 0), .v (.int .u8 0), .v (.int .u8 0), .v (.int .u8 0), .v (.int .u8 0), .v (.int .u8 0), .v (.int .u8 0), .v (.int .u8 0), .v (.int .u8 0), .v (.int .u8 0), .v (.int .u8 0), .v (.int .u8 0), .v (.int .u8 0), .v (.int .u8 0), .v (.int .u8 0), .v (.int .u8 0), .v (.int .u8 0), .v (.int .u8 0), .v (.int .u8 0), .v (.int .u8 0), .v (.int .u8 0), .v (.int .u8 0), .v (.int .u8 0), .v (.int .u8 0), .v (.int .u8 0), .v (.int .u8 0), .v (.int .u8 0), .v (.int .u8 0), .v (.int .u8 0), .v (.int .u8 0), .v (.int .u8 0), .v (.int .u8 0), .v (.int .u8 0), .v (.int .u8 0), .v (.int .u8 0), .v (.int .u8 0), .v (.int .u8 0), .v (.int .u8 0), .v (.int .u8 0), .v (.int .u8 0), .v (.int .u8 0), .v (.int .u8 0), .v (.int .u8 0), .v (.int .u8 0), .v (.int .u8 0), .v (.int .u8 0), .v (.int .u8 0), .v (.int .u8 0), .v (.int .u8 0), .v (.int .u8 0), .v (.int .u8 0), .v (.int .u8 0), .v (.int .u8 0), .v (.int .u8 0), .v (.int .u8 0), .v (.int .u8 0), .v (.int .u8 0), .v (.int .u8 0), .v (.int .u8 0), .v (.int .u8 0), .v (.int .u8 0), .v (.int .u8 0), .v (.int .u8 0), .v (.int .u8 0), .v (.int .u8 0), .v (.int .u8 0)]) := by kernel_rfl
@[simp] theorem tab_t138 : tinfo Tryd.prog 138 = some (true, 2) := by kernel_rfl
@[simp] theorem tab_x138 : zel Tryd.prog 138 = some (.agg [.v (.int .u8 0), .v (.int .u8 0)]) := by kernel_rfl
@[simp] theorem tab_z138 : zl Tryd.prog 138 = some [.v (.int .u8 0), .v (.int .u8 0)] := by kernel_rfl
@[simp] theorem tab_b138 : binfo Tryd.prog 138 = some [(0, 1), (1, 1)] := by kernel_rfl
@[simp] theorem tab_f138_0 : finfo Tryd.prog 138 0 = some (0, 5) := by kernel_rfl
@[simp] theorem tab_f138_1 : finfo Tryd.prog 138 1 = some (1, 5) := by kernel_rfl
@[simp] theorem tab_t139 : tinfo Tryd.prog 139 = some (true, 2) := by kernel_rfl
@[simp] theorem tab_x139 : zel Tryd.prog 139 = some (.agg [.v (.int .u8 0), .v (.int .u8 0)]) := by kernel_rfl
@[simp] theorem tab_z139 : zl Tryd.prog 139 = some [.v (.int .u8 0), .v (.int .u8 0)] := by kernel_rfl
@[simp] theorem tab_b139 : binfo Tryd.prog 139 = some [(0, 1), (1, 1)] := by kernel_rfl
@[simp] theorem tab_f139_0 : finfo Tryd.prog 139 0 = some (0, 5) := by kernel_rfl
@[simp] theorem tab_f139_1 : finfo Tryd.prog 139 1 = some (1, 5) := by kernel_rfl
@[simp] theorem tab_t140 : tinfo Tryd.prog 140 = some (true, 32) := by kernel_rfl
@[simp] theorem tab_x140 : zel Tryd.prog 140 = some (.agg [.v (.int .u8 0), .v (.int .u8 0), .v (.int .u8 0), .v (.int .u8 0), .v (.int .u8 0), .v (.int .u8 0), .v (.int .u8 0), .v (.int .u8 0), .v (.int .u8 0), .v (.int .u8 0), .v (.int .u8 0), .v (.int .u8 0), .v (.int .u8 0), .v (.int .u8 0), .v (.int .u8 0), .v (.int .u8 0), .v (.int .u8 0), .v (.int .u8 0), .v (.int .u8 0), .v (.int .u8 0), .v (.int .u8 0), .v (.int .u8 0), .v (.int .u8 0), .v (.int .u8 0), .v (.int .u8 0), .v (.int .u8 0), .v (.int .u8 0), .v (.int .u8 0), .v (.int .u8 0), .v (.int .u8 0), .v (.int .u8 0), .v (.int .u8 0)]) := by kernel_rfl
@[simp] theorem tab_t143 : tinfo Tryd.prog 143 = some (true, 32) := by kernel_rfl
@[simp] theorem tab_x143 : zel Tryd.prog 143 = some (.agg [.v (.int .u8 0), .v (.int .u8 0), .v (.int .u8 0), .v (.int .u8 0), .v (.int .u8 0), .v (.int .u8 0), .v (.int .u8 0), .v (.int .u8 0), .v (.int .u8 0), .v (.int .u8 0), .v (.int .u8 0), .v (.int .u8 0), .v (.int .u8 0), .v (.int .u8 0), .v (.int .u8 0), .v (.int .u8 0), .v (.int .u8 0), .v (.int .u8 0), .v (.int .u8 0), .v (.int .u8 0), .v (.int .u8 0), .v (.int .u8 0), .v (.int .u8 0), .v (.int .u8 0), .v (.int .u8 0), .v (.int .u8 0), .v (.int .u8 0), .v (.int .u8 0), .v (.int .u8 0), .v (.int .u8 0), .v (.int .u8 0), .v (.int .u8 0)]) := by kernel_rfl
@[simp] theorem tab_t144 : tinfo Tryd.prog 144 = some (true, 64) := by kernel_rfl
@[simp] theorem tab_x144 : zel Tryd.prog 144 = some (.agg [.v (.int .u8 0), .v (.int .u8 0), .v (.int .u8 0), .v (.int .u8 0), .v (.int .u8 0), .v (.int .u8 0), .v (.int .u8 0), .v (.int .u8 0), .v (.int .u8 0), .v (.int .u8 0), .v (.int .u8 0), .v (.int .u8 0), .v (.int .u8 0), .v (.int .u8 0), .v (.int .u8 0), .v (.int .u8 0), .v (.int .u8 0), .v (.int .u8 0), .v (.int .u8 0), .v (.int .u8 0), .v (.int .u8 0), .v (.int .u8 0), .v (.int .u8 0), .v (.int .u8 0), .v (.int .u8 0), .v (.int .u8 0), .v (.int .u8 0), .v (.int .u8 0), .v (.int .u8 0), .v (.int .u8 0), .v (.int .u8 0), .v (.int .u8 0), .v (.int .u8 0), .v (.int .u8 0), .v (.int .u8 0), .v (.int .u8 0), .v (.int .u8 0), .v (.int .u8 0), .v (.int .u8 0), .v (.int .u8 0), .v (.int .u8 0), .v (.int .u8 0), .v (.int .u8 0), .v (.int .u8 0), .v (.int .u8 0), .v (.int .u8 0), .v (.int .u8 0), .v (.int .u8 0), .v (.int .u8 0), .v (.int .u8 0), .v (.int .u8 0), .v (.int .u8 0), .v (.int .u8 0), .v (.int .u8 0), .v (.int .u8 0), .v (.int .u8 0), .v (.int .u8 0), .v (.int .u8 0), .v (.int .u8 0), .v (.int .u8 0), .v (.int .u8 0), .v (.int .u8 0), .v (.int .u8 0), .v (.int .u8 0)]) := by kernel_rfl
@[simp] theorem tab_t146 : tinfo Tryd.prog 146 = some (true, 4) := by kernel_rfl
@[simp] theorem tab_x146 : zel Tryd.prog 146 = some (.agg [.v (.pointer none), .v (.pointer none), .v (.pointer none), .v (.string ByteArray.empty)]) := by kernel_rfl
@[simp] theorem tab_z146 : zl Tryd.prog 146 = some [.v (.pointer none), .v (.pointer none), .v (.pointer none), .v (.string ByteArray.empty)] := by kernel_rfl
@[simp] theorem tab_b146 : binfo Tryd.prog 146 = some [(0, 1), (1, 1), (2, 1), (3, 1)] := by kernel_rfl
@[simp] theorem tab_f146_0 : finfo Tryd.prog 146 0 = some (0, 17) := by kernel_rfl
@[simp] theorem tab_f146_1 : finfo Tryd.prog 146 1 = some (1, 17) := by kernel_rfl
@[simp] theorem tab_f146_2 : finfo Tryd.prog 146 2 = some (2, 17) := by kernel_rfl
@[simp] theorem tab_f146_3 : finfo Tryd.prog 146 3 = some (3, 9) := by kernel_rfl
@[simp] theorem tab_t147 : tinfo Tryd.prog 147 = some (true, 4) := by kernel_rfl
@[simp] theorem tab_x147 : zel Tryd.prog 147 = some (.agg [.v (.pointer none), .v (.pointer none), .v (.pointer none), .v (.string ByteArray.empty)]) := by kernel_rfl
@[simp] theorem tab_z147 : zl Tryd.prog 147 = some [.v (.pointer none), .v (.pointer none), .v (.pointer none), .v (.string ByteArray.empty)] := by kernel_rfl
@[simp] theorem tab_b147 : binfo Tryd.prog 147 = some [(0, 1), (1, 1), (2, 1), (3, 1)] := by kernel_rfl
@[simp] theorem tab_f147_0 : finfo Tryd.prog 147 0 = some (0, 17) := by kernel_rfl
@[simp] theorem tab_f147_1 : finfo Tryd.prog 147 1 = some (1, 17) := by kernel_rfl
@[simp] theorem tab_f147_2 : finfo Tryd.prog 147 2 = some (2, 17) := by kernel_rfl
@[simp] theorem tab_f147_3 : finfo Tryd.prog 147 3 = some (3, 9) := by kernel_rfl
@[simp] theorem tab_t148 : tinfo Tryd.prog 148 = some (true, 0) := by kernel_rfl
@[simp] theorem tab_t149 : tinfo Tryd.prog 149 = some (true, 0) := by kernel_rfl
@[simp] theorem tab_z149 : zl Tryd.prog 149 = some [] := by kernel_rfl
@[simp] theorem tab_b149 : binfo Tryd.prog 149 = some [(0, 0)] := by kernel_rfl
@[simp] theorem tab_f149_0 : finfo Tryd.prog 149 0 = some (0, 148) := by kernel_rfl
@[simp] theorem tab_t150 : tinfo Tryd.prog 150 = some (true, 0) := by kernel_rfl
@[simp] theorem tab_z150 : zl Tryd.prog 150 = some [] := by kernel_rfl
@[simp] theorem tab_b150 : binfo Tryd.prog 150 = some [(0, 0)] := by kernel_rfl
@[simp] theorem tab_f150_0 : finfo Tryd.prog 150 0 = some (0, 148) := by kernel_rfl
@[simp] theorem tab_t152 : tinfo Tryd.prog 152 = some (false, 1) := by kernel_rfl
@[simp] theorem tab_i152 : intk Tryd.prog 152 = some .u8 := by kernel_rfl
@[simp] theorem tab_x152 : zel Tryd.prog 152 = some (.v (.int .u8 0)) := by kernel_rfl
@[simp] theorem tab_z152 : zl Tryd.prog 152 = some [.v (.int .u8 0)] := by kernel_rfl
@[simp] theorem tab_t153 : tinfo Tryd.prog 153 = some (false, 1) := by kernel_rfl
@[simp] theorem tab_i153 : intk Tryd.prog 153 = some .u8 := by kernel_rfl
@[simp] theorem tab_x153 : zel Tryd.prog 153 = some (.v (.int .u8 0)) := by kernel_rfl
@[simp] theorem tab_z153 : zl Tryd.prog 153 = some [.v (.int .u8 0)] := by kernel_rfl
@[simp] theorem tab_t155 : tinfo Tryd.prog 155 = some (false, 1) := by kernel_rfl
@[simp] theorem tab_i155 : intk Tryd.prog 155 = some .i32 := by kernel_rfl
@[simp] theorem tab_x155 : zel Tryd.prog 155 = some (.v (.int .i32 0)) := by kernel_rfl
@[simp] theorem tab_z155 : zl Tryd.prog 155 = some [.v (.int .i32 0)] := by kernel_rfl
@[simp] theorem tab_t156 : tinfo Tryd.prog 156 = some (false, 1) := by kernel_rfl
@[simp] theorem tab_i156 : intk Tryd.prog 156 = some .i32 := by kernel_rfl
@[simp] theorem tab_x156 : zel Tryd.prog 156 = some (.v (.int .i32 0)) := by kernel_rfl
@[simp] theorem tab_z156 : zl Tryd.prog 156 = some [.v (.int .i32 0)] := by kernel_rfl
@[simp] theorem tab_t157 : tinfo Tryd.prog 157 = some (true, 11) := by kernel_rfl
@[simp] theorem tab_x157 : zel Tryd.prog 157 = some (.agg [.v (.int .u64 0), .v (.int .u64 0), .v (.int .u32 0), .v (.int .u8 0), .v (.int .u8 0), .v (.int .u8 0), .v (.int .u8 0), .v (.nilFunc), .v (.pointer none), .v (.int .i32 0), .v (.int .i32 0)]) := by kernel_rfl
@[simp] theorem tab_z157 : zl Tryd.prog 157 = some [.v (.int .u64 0), .v (.int .u64 0), .v (.int .u32 0), .v (.int .u8 0), .v (.int .u8 0), .v (.int .u8 0), .v (.int .u8 0), .v (.nilFunc), .v (.pointer none), .v (.int .i32 0), .v (.int .i32 0)] := by kernel_rfl
@[simp] theorem tab_b157 : binfo Tryd.prog 157 = some [(0, 1), (1, 1), (2, 1), (3, 1), (4, 1), (5, 1), (6, 1), (7, 1), (8, 1), (9, 1), (10, 1)] := by kernel_rfl
@[simp] theorem tab_f157_0 : finfo Tryd.prog 157 0 = some (0, 12) := by kernel_rfl
@[simp] theorem tab_f157_1 : finfo Tryd.prog 157 1 = some (1, 12) := by kernel_rfl
@[simp] theorem tab_f157_2 : finfo Tryd.prog 157 2 = some (2, 121) := by kernel_rfl
@[simp] theorem tab_f157_3 : finfo Tryd.prog 157 3 = some (3, 152) := by kernel_rfl
@[simp] theorem tab_f157_4 : finfo Tryd.prog 157 4 = some (4, 5) := by kernel_rfl
@[simp] theorem tab_f157_5 : finfo Tryd.prog 157 5 = some (5, 5) := by kernel_rfl
@[simp] theorem tab_f157_6 : finfo Tryd.prog 157 6 = some (6, 153) := by kernel_rfl
@[simp] theorem tab_f157_7 : finfo Tryd.prog 157 7 = some (7, 154) := by kernel_rfl
@[simp] theorem tab_f157_8 : finfo Tryd.prog 157 8 = some (8, 87) := by kernel_rfl
@[simp] theorem tab_f157_9 : finfo Tryd.prog 157 9 = some (9, 155) := by kernel_rfl
@[simp] theorem tab_f157_10 : finfo Tryd.prog 157 10 = some (10, 156) := by kernel_rfl
@[simp] theorem tab_t158 : tinfo Tryd.prog 158 = some (true, 11) := by kernel_rfl
@[simp] theorem tab_x158 : zel Tryd.prog 158 = some (.agg [.v (.int .u64 0), .v (.int .u64 0), .v (.int .u32 0), .v (.int .u8 0), .v (.int .u8 0), .v (.int .u8 0), .v (.int .u8 0), .v (.nilFunc), .v (.pointer none), .v (.int .i32 0), .v (.int .i32 0)]) := by kernel_rfl
@[simp] theorem tab_z158 : zl Tryd.prog 158 = some [.v (.int .u64 0), .v (.int .u64 0), .v (.int .u32 0), .v (.int .u8 0), .v (.int .u8 0), .v (.int .u8 0), .v (.int .u8 0), .v (.nilFunc), .v (.pointer none), .v (.int .i32 0), .v (.int .i32 0)] := by kernel_rfl
@[simp] theorem tab_b158 : binfo Tryd.prog 158 = some [(0, 1), (1, 1), (2, 1), (3, 1), (4, 1), (5, 1), (6, 1), (7, 1), (8, 1), (9, 1), (10, 1)] := by kernel_rfl
@[simp] theorem tab_f158_0 : finfo Tryd.prog 158 0 = some (0, 12) := by kernel_rfl
@[simp] theorem tab_f158_1 : finfo Tryd.prog 158 1 = some (1, 12) := by kernel_rfl
@[simp] theorem tab_f158_2 : finfo Tryd.prog 158 2 = some (2, 121) := by kernel_rfl
@[simp] theorem tab_f158_3 : finfo Tryd.prog 158 3 = some (3, 152) := by kernel_rfl
@[simp] theorem tab_f158_4 : finfo Tryd.prog 158 4 = some (4, 5) := by kernel_rfl
@[simp] theorem tab_f158_5 : finfo Tryd.prog 158 5 = some (5, 5) := by kernel_rfl
@[simp] theorem tab_f158_6 : finfo Tryd.prog 158 6 = some (6, 153) := by kernel_rfl
@[simp] theorem tab_f158_7 : finfo Tryd.prog 158 7 = some (7, 154) := by kernel_rfl
@[simp] theorem tab_f158_8 : finfo Tryd.prog 158 8 = some (8, 87) := by kernel_rfl
@[simp] theorem tab_f158_9 : finfo Tryd.prog 158 9 = some (9, 155) := by kernel_rfl
@[simp] theorem tab_f158_10 : finfo Tryd.prog 158 10 = some (10, 156) := by kernel_rfl
@[simp] theorem tab_n2 : enters Tryd.prog 2 = true := by kernel_rfl
@[simp] theorem tab_n3 : enters Tryd.prog 3 = true := by kernel_rfl
@[simp] theorem tab_n4 : enters Tryd.prog 4 = true := by kernel_rfl
@[simp] theorem tab_n5 : enters Tryd.prog 5 = true := by kernel_rfl
@[simp] theorem tab_n6 : enters Tryd.prog 6 = true := by kernel_rfl
@[simp] theorem tab_n7 : enters Tryd.prog 7 = true := by kernel_rfl
@[simp] theorem tab_n8 : enters Tryd.prog 8 = true := by kernel_rfl
@[simp] theorem tab_n9 : enters Tryd.prog 9 = true := by kernel_rfl
@[simp] theorem tab_n10 : enters Tryd.prog 10 = true := by kernel_rfl
@[simp] theorem tab_n11 : enters Tryd.prog 11 = true := by kernel_rfl
@[simp] theorem tab_n12 : enters Tryd.prog 12 = true := by kernel_rfl
@[simp] theorem tab_n13 : enters Tryd.prog 13 = true := by kernel_rfl
@[simp] theorem tab_n14 : enters Tryd.prog 14 = true := by kernel_rfl
@[simp] theorem tab_n15 : enters Tryd.prog 15 = true := by kernel_rfl
@[simp] theorem tab_n16 : enters Tryd.prog 16 = true := by kernel_rfl
@[simp] theorem tab_n17 : enters Tryd.prog 17 = true := by kernel_rfl
@[simp] theorem tab_n18 : enters Tryd.prog 18 = true := by kernel_rfl
@[simp] theorem tab_n19 : enters Tryd.prog 19 = true := by kernel_rfl
@[simp] theorem tab_n20 : enters Tryd.prog 20 = true := by kernel_rfl
@[simp] theorem tab_n21 : enters Tryd.prog 21 = true := by kernel_rfl
@[simp] theorem tab_n22 : enters Tryd.prog 22 = true := by kernel_rfl
@[simp] theorem tab_n23 : enters Tryd.prog 23 = true := by kernel_rfl
@[simp] theorem tab_n24 : enters Tryd.prog 24 = true := by kernel_rfl
@[simp] theorem tab_n25 : enters Tryd.prog 25 = true := by kernel_rfl
@[simp] theorem tab_n26 : enters Tryd.prog 26 = true := by kernel_rfl
@[simp] theorem tab_n27 : enters Tryd.prog 27 = true := by kernel_rfl
@[simp] theorem tab_n28 : enters Tryd.prog 28 = true := by kernel_rfl
@[simp] theorem tab_n29 : enters Tryd.prog 29 = true := by kernel_rfl
@[simp] theorem tab_n30 : enters Tryd.prog 30 = true := by kernel_rfl
@[simp] theorem tab_n31 : enters Tryd.prog 31 = true := by kernel_rfl
@[simp] theorem tab_n32 : enters Tryd.prog 32 = true := by kernel_rfl
@[simp] theorem tab_n33 : enters Tryd.prog 33 = true := by kernel_rfl
@[simp] theorem tab_n34 : enters Tryd.prog 34 = true := by kernel_rfl
@[simp] theorem tab_n35 : enters Tryd.prog 35 = true := by kernel_rfl
@[simp] theorem tab_n36 : enters Tryd.prog 36 = true := by kernel_rfl
@[simp] theorem tab_n37 : enters Tryd.prog 37 = true := by kernel_rfl
@[simp] theorem tab_n38 : enters Tryd.prog 38 = true := by kernel_rfl
@[simp] theorem tab_n39 : enters Tryd.prog 39 = true := by kernel_rfl
@[simp] theorem tab_n40 : enters Tryd.prog 40 = true := by kernel_rfl
@[simp] theorem tab_n41 : enters Tryd.prog 41 = true := by kernel_rfl
@[simp] theorem tab_n42 : enters Tryd.prog 42 = true := by kernel_rfl
@[simp] theorem tab_n43 : enters Tryd.prog 43 = true := by kernel_rfl
@[simp] theorem tab_n44 : enters Tryd.prog 44 = true := by kernel_rfl
@[simp] theorem tab_n45 : enters Tryd.prog 45 = true := by kernel_rfl
@[simp] theorem tab_n46 : enters Tryd.prog 46 = true := by kernel_rfl
@[simp] theorem tab_n47 : enters Tryd.prog 47 = true := by kernel_rfl
@[simp] theorem tab_n48 : enters Tryd.prog 48 = true := by kernel_rfl
@[simp] theorem tab_n49 : enters Tryd.prog 49 = true := by kernel_rfl
@[simp] theorem tab_n50 : enters Tryd.prog 50 = true := by kernel_rfl
@[simp] theorem tab_n51 : enters Tryd.prog 51 = true := by kernel_rfl
@[simp] theorem tab_n52 : enters Tryd.prog 52 = true := by kernel_rfl
@[simp] theorem tab_n53 : enters Tryd.prog 53 = true := by kernel_rfl
@[simp] theorem tab_n54 : enters Tryd.prog 54 = true := by kernel_rfl
@[simp] theorem tab_n55 : enters Tryd.prog 55 = true := by kernel_rfl
@[simp] theorem tab_n56 : enters Tryd.prog 56 = true := by kernel_rfl
@[simp] theorem tab_n57 : enters Tryd.prog 57 = true := by kernel_rfl
@[simp] theorem tab_n58 : enters Tryd.prog 58 = true := by kernel_rfl
@[simp] theorem tab_n59 : enters Tryd.prog 59 = true := by kernel_rfl
@[simp] theorem tab_n60 : enters Tryd.prog 60 = true := by kernel_rfl
@[simp] theorem tab_n61 : enters Tryd.prog 61 = true := by kernel_rfl
@[simp] theorem tab_n62 : enters Tryd.prog 62 = true := by kernel_rfl
@[simp] theorem tab_n63 : enters Tryd.prog 63 = true := by kernel_rfl
@[simp] theorem tab_n64 : enters Tryd.prog 64 = true := by kernel_rfl
@[simp] theorem tab_n65 : enters Tryd.prog 65 = true := by kernel_rfl
@[simp] theorem tab_n66 : enters Tryd.prog 66 = true := by kernel_rfl
@[simp] theorem tab_n67 : enters Tryd.prog 67 = true := by kernel_rfl
@[simp] theorem tab_n68 : enters Tryd.prog 68 = true := by kernel_rfl
@[simp] theorem tab_n69 : enters Tryd.prog 69 = true := by kernel_rfl
@[simp] theorem tab_n70 : enters Tryd.prog 70 = true := by kernel_rfl
@[simp] theorem tab_n71 : enters Tryd.prog 71 = true := by kernel_rfl
@[simp] theorem tab_n72 : enters Tryd.prog 72 = true := by kernel_rfl
@[simp] theorem tab_n73 : enters Tryd.prog 73 = true := by kernel_rfl
@[simp] theorem tab_n74 : enters Tryd.prog 74 = true := by kernel_rfl
@[simp] theorem tab_n75 : enters Tryd.prog 75 = true := by kernel_rfl
@[simp] theorem tab_n76 : enters Tryd.prog 76 = true := by kernel_rfl
@[simp] theorem tab_n77 : enters Tryd.prog 77 = true := by kernel_rfl
@[simp] theorem tab_n78 : enters Tryd.prog 78 = true := by kernel_rfl
@[simp] theorem tab_n79 : enters Tryd.prog 79 = true := by kernel_rfl
@[simp] theorem tab_n80 : enters Tryd.prog 80 = true := by kernel_rfl
@[simp] theorem tab_n81 : enters Tryd.prog 81 = true := by kernel_rfl
@[simp] theorem tab_n82 : enters Tryd.prog 82 = true := by kernel_rfl
@[simp] theorem tab_n83 : enters Tryd.prog 83 = true := by kernel_rfl
@[simp] theorem tab_n84 : enters Tryd.prog 84 = true := by kernel_rfl
@[simp] theorem tab_n85 : enters Tryd.prog 85 = true := by kernel_rfl
@[simp] theorem tab_n86 : enters Tryd.prog 86 = true := by kernel_rfl
@[simp] theorem tab_n87 : enters Tryd.prog 87 = true := by kernel_rfl
@[simp] theorem tab_n88 : enters Tryd.prog 88 = true := by kernel_rfl
@[simp] theorem tab_n89 : enters Tryd.prog 89 = true := by kernel_rfl
@[simp] theorem tab_n90 : enters Tryd.prog 90 = true := by kernel_rfl
@[simp] theorem tab_n91 : enters Tryd.prog 91 = true := by kernel_rfl
@[simp] theorem tab_n92 : enters Tryd.prog 92 = true := by kernel_rfl
@[simp] theorem tab_n95 : enters Tryd.prog 95 = true := by kernel_rfl
@[simp] theorem tab_n96 : enters Tryd.prog 96 = true := by kernel_rfl
@[simp] theorem tab_n97 : enters Tryd.prog 97 = true := by kernel_rfl
@[simp] theorem tab_n98 : enters Tryd.prog 98 = true := by kernel_rfl
@[simp] theorem tab_n99 : enters Tryd.prog 99 = true := by kernel_rfl
@[simp] theorem tab_n100 : enters Tryd.prog 100 = true := by kernel_rfl
@[simp] theorem tab_n101 : enters Tryd.prog 101 = true := by kernel_rfl
@[simp] theorem tab_n102 : enters Tryd.prog 102 = true := by kernel_rfl
@[simp] theorem tab_n103 : enters Tryd.prog 103 = true := by kernel_rfl
@[simp] theorem tab_n104 : enters Tryd.prog 104 = true := by kernel_rfl
@[simp] theorem tab_n105 : enters Tryd.prog 105 = true := by kernel_rfl
@[simp] theorem tab_n106 : enters Tryd.prog 106 = true := by kernel_rfl
@[simp] theorem tab_n107 : enters Tryd.prog 107 = true := by kernel_rfl
@[simp] theorem tab_n109 : enters Tryd.prog 109 = true := by kernel_rfl
@[simp] theorem tab_n110 : enters Tryd.prog 110 = true := by kernel_rfl
@[simp] theorem tab_n111 : enters Tryd.prog 111 = true := by kernel_rfl
@[simp] theorem tab_n112 : enters Tryd.prog 112 = true := by kernel_rfl
@[simp] theorem tab_n113 : enters Tryd.prog 113 = true := by kernel_rfl
@[simp] theorem tab_n114 : enters Tryd.prog 114 = true := by kernel_rfl
@[simp] theorem tab_n115 : enters Tryd.prog 115 = true := by kernel_rfl
@[simp] theorem tab_n116 : enters Tryd.prog 116 = true := by kernel_rfl
@[simp] theorem tab_n117 : enters Tryd.prog 117 = true := by kernel_rfl
@[simp] theorem tab_n118 : enters Tryd.prog 118 = true := by kernel_rfl
@[simp] theorem tab_n119 : enters Tryd.prog 119 = true := by kernel_rfl
@[simp] theorem tab_n120 : enters Tryd.prog 120 = true := by kernel_rfl
@[simp] theorem tab_n121 : enters Tryd.prog 121 = true := by kernel_rfl
@[simp] theorem tab_n122 : enters Tryd.prog 122 = true := by kernel_rfl
@[simp] theorem tab_n123 : enters Tryd.prog 123 = true := by kernel_rfl
@[simp] theorem tab_n124 : enters Tryd.prog 124 = true := by kernel_rfl
@[simp] theorem tab_n125 : enters Tryd.prog 125 = true := by kernel_rfl
@[simp] theorem tab_n126 : enters Tryd.prog 126 = true := by kernel_rfl
@[simp] theorem tab_n127 : enters Tryd.prog 127 = true := by kernel_rfl
@[simp] theorem tab_n129 : enters Tryd.prog 129 = true := by kernel_rfl
@[simp] theorem tab_n130 : enters Tryd.prog 130 = true := by kernel_rfl
@[simp] theorem tab_n131 : enters Tryd.prog 131 = true := by kernel_rfl
@[simp] theorem tab_n132 : enters Tryd.prog 132 = true := by kernel_rfl
@[simp] theorem tab_n133 : enters Tryd.prog 133 = true := by kernel_rfl
@[simp] theorem tab_n134 : enters Tryd.prog 134 = true := by kernel_rfl
@[simp] theorem tab_n135 : enters Tryd.prog 135 = true := by kernel_rfl
@[simp] theorem tab_n136 : enters Tryd.prog 136 = true := by kernel_rfl
@[simp] theorem tab_n137 : enters Tryd.prog 137 = true := by kernel_rfl
@[simp] theorem tab_n138 : enters Tryd.prog 138 = true := by kernel_rfl
@[simp] theorem tab_n139 : enters Tryd.prog 139 = true := by kernel_rfl
@[simp] theorem tab_n169 : enters Tryd.prog 169 = true := by kernel_rfl
end Go.Proofs.YtkhmlicikbnmdaaDoor
